/- Gaps and what members have are the whole object. -/
import Derived.Test.YtfhijkapcdmdnaaDoorZe
import Derived.Test.YtfhijkapcdmdnaaDoorAmW
namespace Go.Proofs.YtfhijkapcdmdnaaDoor
open Go.AM
set_option maxRecDepth 20000
set_option maxHeartbeats 4000000
set_option linter.unusedSimpArgs false
set_option linter.unusedVariables false
attribute [local congr] andF_cg onF_cg bthen_cg bkeep_cg bcond_cg guardV_cg putF_cg guardF_cg ite_cg stepsF_cg
attribute [local simp] Brun_skip Brun_exit Brun_ret Brun_seq Brun_cond Brun_block Brun_region bthen_normal bthen_ret bthen_exit bblock_normal bblock_ret bblock_exit bkeep_some andF_some onF_some onF_none guardF_none guardF_some guardV_tup putF_some putF_none stepsF_nil stepsF_cons upd_apply ofL_cons ofL_nil bown_normal bown_ret banswer_normal banswer_ret aresults ares List.replicate stepF_call stepF_callD stepF_move stepF_pick stepF_alloc stepF_allocV stepF_box stepF_boxV stepF_build stepF_buildSlice stepF_buildSliceV stepF_load stepF_store stepF_nilCheck stepF_bin stepF_eq stepF_un stepF_conv stepF_strId strIdV_str strIdV_int stepF_toStr stepF_toBytes stepF_fn stepF_mkSlice stepF_slice stepF_strSlice stepF_fieldAddr stepF_field stepF_idxAddr stepF_idxArr stepF_index stepF_strIndex stepF_extract stepF_len0 stepF_len1 stepF_min stepF_max stepF_append stepF_appendF appF_none appF_row stepF_mkMap stepF_mkIface stepF_lookup stepF_mapUpdate stepF_ext aext_idx aext_count aext_same cellsF newF abin_add abin_sub abin_mul abin_quo abin_rem abin_eql abin_neq abin_lss abin_leq abin_gtr abin_geq abin_and abin_or abin_xor abin_shl abin_shr abin_seql abin_sneq aun_not aun_neg aeq_bool aeq_agg eqCells_nil eqCells_int eqCells_bool eqCells_str cellsOf_agg cellsOf_int cellsOf_bool cellsOf_str cellsOf_is cellsOf_ms cellsOf_fn cellsOf_nilp cellsOf_mp cellsOf_mm cellsOf_nilm cellsOf_nili cellsOf_ifc cellsOf_ip cget_one cget_agg ev_t ev_c fillp_nil fillp_cons isSc_int isSc_bool isSc_str isSc_is isSc_ms isSc_fn isSc_mm isSc_mp isSc_ip isSc_nilp isSc_nilm isSc_nili isSc_nilf isSc_ifc splice chunk strip strip.stripL imm imm.immL Areify_int Areify_bool Areify_str Areify_is Areify_nilp Areify_tup Areify_agg AreifyL andF_chi andF_ch onF_chi onF_ch bthen_ch bthen_chi bblock_ch bblock_chi bkeep_ch bkeep_chi bown_ch bown_chi banswer_ch banswer_chi isSome_ch bcond_ch guardV_ch1 guardV_ch0 chF_true chF_false chF_not
attribute [local simp ↓] andF_some andF_chi andF_ch onF_some onF_none onF_chi onF_ch bthen_normal bthen_ret bthen_exit bthen_ch bthen_chi bblock_normal bblock_ret bblock_exit bblock_ch bblock_chi bkeep_some bkeep_ch bkeep_chi bown_normal bown_ret bown_ch bown_chi banswer_normal banswer_ret banswer_ch banswer_chi bcond_ch guardV_ch1 guardV_ch0 guardV_tup guardF_none guardF_some putF_some putF_none stepsF_nil stepsF_cons chF_true chF_false Brun_seq Brun_cond Brun_block Brun_region Brun_skip Brun_ret Brun_exit stepF_call stepF_callD stepF_move stepF_pick stepF_alloc stepF_allocV stepF_box stepF_boxV stepF_build stepF_buildSlice stepF_buildSliceV stepF_load stepF_store stepF_nilCheck stepF_bin stepF_eq stepF_un stepF_conv stepF_strId stepF_toStr stepF_toBytes stepF_fn stepF_mkSlice stepF_slice stepF_strSlice stepF_fieldAddr stepF_field stepF_idxAddr stepF_idxArr stepF_index stepF_strIndex stepF_extract stepF_len0 stepF_len1 stepF_min stepF_max stepF_append stepF_appendF stepF_mkMap stepF_mkIface stepF_lookup stepF_mapUpdate stepF_ext
set_option maxHeartbeats 4000000
section
variable {t : List TR} {rho : Nat → Nat} {F : Nat}
theorem marks_fuel (hx : Tbl t rho F) : ∀ (n m : Nat) (id a : Int),begE t F id = 0 → rho id.toNat < n → rho id.toNat < m → marksF t F n id a = marksF t F m id a := by
 intro n
 induction n with
 | zero => intro m id a _ h; omega
 | succ n ih =>
  intro m id a hb h1 h2
  cases m with
  | zero => omega
  | succ m =>
   cases hg : getT t id with
   | none => rw [marksF,marksF,hg]
   | some x =>
    obtain ⟨_,gi⟩ := getT_some hg
    by_cases k14 : x.kind = 14
    ·have hre := (hx.rank _ x gi x.elem (by unfold deps; rw [if_pos k14]; simp)).2.2
     rw [marks_arr hg k14,marks_arr hg k14]
     congr 1
     funext i
     exact ih m x.elem _ (arr_ok hx hg k14 hb).1 (by omega) (by omega)
    ·by_cases k15 : x.kind = 15 ∨ x.kind = 16
     ·rw [marks_rec hg k15,marks_rec hg k15]
      have : ∀ p ∈ (layF t F id).pl,markP t F n a x p = markP t F m a x p := fun p hp => by
       unfold markP
       cases hm : x.mem[p.mem.toNat]? with
       | none => rfl
       | some mm =>
        simp only
        by_cases c : mm.2.2 < 0
        ·rw [if_pos c,if_pos c]
         have hpk := (rec_ok hx hg k15 hb).pl p hp
         obtain ⟨k,m',q1,q2,q3,_⟩ := hpk.1.mem
         have := (hx.rank _ x gi p.ty (by unfold deps; rw [if_neg k14,List.nil_append]; exact List.mem_map.2 ⟨m',List.mem_of_getElem? q2,q3⟩)).2.2
         exact ih m p.ty _ hpk.2 (by omega) (by omega)
        ·rw [if_neg c,if_neg c]
      rw [List.flatMap_def,List.flatMap_def,List.map_congr_left this]
     ·rw [marks_one hg k14 k15,marks_one hg k14 k15]
theorem rep_get {n k : Nat} {b : Bool} (h : k < n) : (List.replicate n b)[k]? = some b := by
 rw [List.getElem?_replicate,if_pos h]
theorem not_true_false {l : List Bool} {k : Nat} (h : k < l.length) : l[k]? = some false ↔ ¬ l[k]? = some true := by
 rw [List.getElem?_eq_getElem h]
 cases l[k] <;> simp
theorem gaps_mem (hx : Tbl t rho F) {id : Int} (hb : begE t F id = 0) (n : Nat) (k : Nat) (hk : (k : Int) < 8 * (layF t F id).size) : (∃ g ∈ gapsF t F n id,inG k g) ↔ ¬ ∃ m ∈ marksF t F n id 0,inG k m := by
 have hin := marks_in hx n id 0 hb
 unfold gapsF
 obtain ⟨N,hN⟩ : ∃ N,N = (8 * (layF t F id).size).toNat := ⟨_,rfl⟩
 have e1 : (8 * (layF t F id).size + 1).toNat = N + 1 := by omega
 rw [e1,← hN]
 obtain ⟨l0,hl0⟩ : ∃ l0,l0 = (List.replicate (N + 1) false).set N true := ⟨_,rfl⟩
 rw [← hl0]
 have z1 : l0.length = N + 1 := by rw [hl0]; simp
 have z2 : (doM l0 (marksF t F n id 0)).length = N + 1 := by rw [doM_len,z1]
 have hpos : ∀ m ∈ marksF t F n id 0,0 ≤ m.1 ∧ 0 ≤ m.2 := fun m hm => by have := hin m hm; omega
 have z3 : (doM l0 (marksF t F n id 0)).getLast? = some true := by
  rw [List.getLast?_eq_getElem?,z2,Nat.add_sub_cancel,doM_get _ _ _ hpos (by omega)]
  right
  rw [hl0,List.getElem?_set,if_pos rfl,if_pos (by simp)]
 rw [runs_mem _ 0 none (fun f e => by cases e) k (by omega) (by omega) z3,Nat.sub_zero,not_true_false (by omega),doM_get _ _ _ hpos (by omega)]
 have z4 : l0[k]? = some false := by
  rw [hl0,List.getElem?_set_ne (by omega),rep_get (by omega)]
 rw [z4]
 simp
def gapsOK (n : Int) : Int → List GapT → Prop
 | _,[] => True
 | last,g :: r => last < g.1 ∧ 1 ≤ g.2 ∧ g.1 + g.2 ≤ n ∧ gapsOK n (g.1 + g.2) r
theorem runs_ok (n : Int) : ∀ (l : List Bool) (i : Nat) (fr : Option Nat) (last : Int),(∀ f,fr = some f → f < i ∧ last < f) → last < i → (i : Int) + l.length = n + 1 → gapsOK n last (runsB i fr l) := by
 intro l
 induction l with
 | nil => intro i fr last _ _ _; cases fr <;> exact trivial
 | cons b r ih =>
  intro i fr last h1 h2 h3
  simp only [List.length_cons] at h3
  cases fr with
  | none =>
   cases b with
   | false => exact ih (i + 1) (some i) last (fun f e => by cases e; omega) (by omega) (by omega)
   | true => exact ih (i + 1) none last (fun f e => by cases e) (by omega) (by omega)
  | some f =>
   obtain ⟨q1,q2⟩ := h1 f rfl
   cases b with
   | false => exact ih (i + 1) (some f) last (fun f' e => by cases e; omega) (by omega) (by omega)
   | true =>
    refine ⟨q2,by omega,by omega,?_⟩
    exact ih (i + 1) none _ (fun f e => by cases e) (by omega) (by omega)
theorem gapsF_ok (hx : Tbl t rho F) {id : Int} (hb : begE t F id = 0) (n : Nat) : gapsOK (8 * (layF t F id).size) (-1) (gapsF t F n id) := by
 obtain ⟨q1,q2,q3⟩ := beg_has hb
 have hf := whole_lay hx.acc hx.rank hx.hF q2
 have := hf.lo
 refine runs_ok _ _ 0 none (-1) (fun f e => by cases e) (by omega) ?_
 rw [doM_len,List.length_set,List.length_replicate]
 omega
def orB : List Bool → Nat → List Bool → List Bool
 | l,_,[] => l
 | l,a,b :: r => orB (l.set a (l[a]?.getD false || !b)) (a + 1) r
theorem orB_len : ∀ (p l : List Bool) (a : Nat),(orB l a p).length = l.length := by
 intro p
 induction p with
 | nil => intro l a; rfl
 | cons b r ih => intro l a; unfold orB; rw [ih,List.length_set]
theorem orB_get : ∀ (p l : List Bool) (a k : Nat),k < l.length → ((orB l a p)[k]? = some true ↔ l[k]? = some true ∨ (a ≤ k ∧ p[k - a]? = some false)) := by
 intro p
 induction p with
 | nil => intro l a k h; unfold orB; simp
 | cons b r ih =>
  intro l a k h
  unfold orB
  rw [ih _ _ _ (by rw [List.length_set]; exact h)]
  by_cases c : a = k
  ·subst c
   rw [List.getElem?_set,if_pos rfl,if_pos h,Nat.sub_self,List.getElem?_cons_zero,List.getElem?_eq_getElem h]
   have : ¬ a + 1 ≤ a := by omega
   cases l[a] <;> cases b <;> simp [this]
  ·rw [List.getElem?_set_ne c]
   by_cases c2 : a + 1 ≤ k
   ·rw [show k - a = (k - (a + 1)) + 1 by omega,List.getElem?_cons_succ]
    simp only [c2,true_and,show a ≤ k by omega]
   ·have : ¬ a ≤ k := by omega
    simp [c2,this]
def partF (t : List TR) (F : Nat) (rho : Nat → Nat) (ty : Int) : List Bool := doM (List.replicate (8 * (layF t F ty).size).toNat false) (gapsF t F (rho ty.toNat + 1) ty)
def hadP (t : List TR) (F : Nat) (rho : Nat → Nat) (x : TR) (l : List Bool) (p : PlT) : List Bool :=
 if 0 < p.bits then (match x.mem[p.mem.toNat]? with | some m => if m.1 ≠ [] then setB l (8 * p.off + p.bit).toNat p.bits.toNat else l | none => l)
 else orB l (8 * p.off).toNat (partF t F rho p.ty)
theorem hadP_len (x : TR) (l : List Bool) (p : PlT) : (hadP t F rho x l p).length = l.length := by
 unfold hadP
 split
 ·split
  ·split
   ·exact setB_len ..
   ·rfl
  ·rfl
 ·exact orB_len ..
theorem put_bits (l : List Mem) (E : Int → LayT) : ∀ (r : List Mem) (i : Nat) (s : AtT),l.drop i = r → (∀ p ∈ s.pl,∃ (k : Nat) (m : Mem),p.mem = k ∧ l[k]? = some m ∧ m.2.2 ≠ 0) → ∀ p ∈ (foldS E i r s).pl,∃ (k : Nat) (m : Mem),p.mem = k ∧ l[k]? = some m ∧ m.2.2 ≠ 0 := by
 intro r
 induction r with
 | nil => intro i s _ h; exact h
 | cons m r ih =>
  intro i s hd h
  have hi : l[i]? = some m := by
   have := congrArg (·[0]?) hd
   simpa [List.getElem?_drop] using this
  have hd2 : l.drop (i + 1) = r := by rw [← List.drop_drop,hd]; rfl
  refine ih (i + 1) _ hd2 fun p hp => ?_
  unfold stepS at hp
  split at hp
  ·rcases List.mem_append.1 hp with hp | hp
   ·exact h p hp
   ·rw [List.mem_singleton.1 hp]; exact ⟨i,m,rfl,hi,by omega⟩
  ·split at hp
   ·exact h p hp
   ·rcases List.mem_append.1 hp with hp | hp
    ·exact h p hp
    ·rw [List.mem_singleton.1 hp]; exact ⟨i,m,rfl,hi,by omega⟩
theorem put_bitsU (l : List Mem) (E : Int → LayT) : ∀ (r : List Mem) (i : Nat) (s : LayT),l.drop i = r → (∀ p ∈ s.pl,∃ (k : Nat) (m : Mem),p.mem = k ∧ l[k]? = some m ∧ m.2.2 ≠ 0) → ∀ p ∈ (foldU E i r s).pl,∃ (k : Nat) (m : Mem),p.mem = k ∧ l[k]? = some m ∧ m.2.2 ≠ 0 := by
 intro r
 induction r with
 | nil => intro i s _ h; exact h
 | cons m r ih =>
  intro i s hd h
  have hi : l[i]? = some m := by
   have := congrArg (·[0]?) hd
   simpa [List.getElem?_drop] using this
  have hd2 : l.drop (i + 1) = r := by rw [← List.drop_drop,hd]; rfl
  refine ih (i + 1) _ hd2 fun p hp => ?_
  unfold stepU at hp
  split at hp
  ·rcases List.mem_append.1 hp with hp | hp
   ·exact h p hp
   ·rw [List.mem_singleton.1 hp]; exact ⟨i,m,rfl,hi,by omega⟩
  ·split at hp
   ·exact h p hp
   ·rcases List.mem_append.1 hp with hp | hp
    ·exact h p hp
    ·rw [List.mem_singleton.1 hp]; exact ⟨i,m,rfl,hi,by omega⟩
theorem rec_bits (hx : Tbl t rho F) {id : Int} {x : TR} (hg : getT t id = some x) (hk : x.kind = 15 ∨ x.kind = 16) (hb : begE t F id = 0) : ∀ p ∈ (layF t F id).pl,∃ (k : Nat) (m : Mem),p.mem = k ∧ x.mem[k]? = some m ∧ m.2.2 ≠ 0 := by
 obtain ⟨e1,e2⟩ := lay_eq hx.rank hx.hF hg
 have : (layF t F id).pl = (rawL (layF t F) x).pl := by
  rw [e1]; unfold capL; split <;> rfl
 rw [this]
 unfold rawL
 rw [if_neg (by omega)]
 rcases hk with k | k
 ·rw [if_pos k]
  exact put_bits x.mem _ x.mem 0 _ rfl (fun p hp => by cases hp)
 ·rw [if_neg (by omega),if_pos k]
  exact put_bitsU x.mem _ x.mem 0 _ rfl (fun p hp => by cases hp)
theorem hadP_get (hx : Tbl t rho F) {id : Int} {x : TR} (hg : getT t id = some x) (hk : x.kind = 15 ∨ x.kind = 16) (hb : begE t F id = 0) {p : PlT} (hp : p ∈ (layF t F id).pl) (l : List Bool) (k : Nat) (hl : k < l.length) :
  (hadP t F rho x l p)[k]? = some true ↔ l[k]? = some true ∨ ∃ m ∈ markP t F (rho id.toNat) 0 x p,inG k m := by
 obtain ⟨hpk,hpb⟩ := (rec_ok hx hg hk hb).pl p hp
 obtain ⟨km,m,r1,r2,r3⟩ := rec_bits hx hg hk hb p hp
 obtain ⟨km',m',q1,q2,q3,q4,_⟩ := hpk.mem
 have e0 : km' = km := by omega
 subst e0
 rw [r2] at q2
 cases q2
 have hmm : x.mem[p.mem.toNat]? = some m := by rw [r1]; exact r2
 have h2 := hpk.off
 have h3 := hpk.bit
 unfold hadP markP
 rw [hmm]
 simp only
 by_cases c : 0 < p.bits
 ·rw [if_pos c,if_neg (show ¬ m.2.2 < 0 by omega)]
  by_cases c2 : m.1 ≠ []
  ·rw [if_pos c2,if_pos c2,setB_get _ _ _ _ hl]
   have e : ((8 * p.off + p.bit).toNat ≤ k ∧ k < (8 * p.off + p.bit).toNat + p.bits.toNat) ↔ inG k (0 + 8 * p.off + p.bit,p.bits) := by unfold inG; simp only; omega
   simp only [List.mem_singleton,exists_eq_left]
   rw [← e]
   split <;> simp_all
  ·rw [if_neg c2,if_neg c2]
   simp
 ·rw [if_neg c,if_pos (show m.2.2 < 0 by omega),orB_get _ _ _ _ hl]
  have hm0 : rho p.ty.toNat < rho id.toNat := by
   obtain ⟨_,gi⟩ := getT_some hg
   exact (hx.rank _ x gi p.ty (by unfold deps; rw [if_neg (by omega),List.nil_append]; exact List.mem_map.2 ⟨m,List.mem_of_getElem? r2,q3⟩)).2.2
  have hin := marks_in hx (rho id.toNat) p.ty 0 hpb
  have hsh := marks_shift t F (8 * p.off) (rho id.toNat) p.ty 0
  have : (8 * p.off).toNat ≤ k ∧ (partF t F rho p.ty)[k - (8 * p.off).toNat]? = some false ↔ ∃ m ∈ marksF t F (rho id.toNat) p.ty (0 + 8 * p.off),inG k m := by
   rw [hsh]
   have hgk := gapsF_ok hx hpb (rho p.ty.toNat + 1)
   have hpl : (partF t F rho p.ty).length = (8 * (layF t F p.ty).size).toNat := by unfold partF; rw [doM_len,List.length_replicate]
   have gpos : ∀ g ∈ gapsF t F (rho p.ty.toNat + 1) p.ty,0 ≤ g.1 ∧ 0 ≤ g.2 := fun g hgm => by
    have := runs_lo _ 0 none (fun f e => by cases e) g hgm
    simp only at this
    omega
   constructor
   ·rintro ⟨k1,k2⟩
    have lk := (List.getElem?_eq_some_iff.1 k2).1
    rw [not_true_false lk] at k2
    unfold partF at k2
    rw [doM_get _ _ _ gpos (by rw [List.length_replicate]; omega),rep_get (by omega)] at k2
    simp only [Option.some.injEq,Bool.false_eq_true,or_false] at k2
    rw [gaps_mem hx hpb _ _ (by omega),Classical.not_not] at k2
    obtain ⟨m2,hm2,hi2⟩ := k2
    rw [marks_fuel hx _ (rho id.toNat) _ _ hpb (by omega) hm0] at hm2
    refine ⟨_,List.mem_map.2 ⟨m2,hm2,rfl⟩,?_⟩
    unfold inG at hi2 ⊢
    simp only
    omega
   ·rintro ⟨m2,hm2,hi2⟩
    obtain ⟨m3,hm3,rfl⟩ := List.mem_map.1 hm2
    have h5 := hin m3 hm3
    unfold inG at hi2
    simp only at hi2
    have k1 : (8 * p.off).toNat ≤ k := by omega
    have lk : k - (8 * p.off).toNat < (partF t F rho p.ty).length := by omega
    refine ⟨k1,?_⟩
    rw [not_true_false lk]
    unfold partF
    rw [doM_get _ _ _ gpos (by rw [List.length_replicate]; omega),rep_get (by omega)]
    simp only [Option.some.injEq,Bool.false_eq_true,or_false]
    rw [gaps_mem hx hpb _ _ (by omega),Classical.not_not]
    refine ⟨m3,by rw [marks_fuel hx _ (rho id.toNat) _ _ hpb (by omega) hm0]; exact hm3,?_⟩
    unfold inG
    omega
  rw [this]
theorem hadAll_get (hx : Tbl t rho F) {id : Int} {x : TR} (hg : getT t id = some x) (hk : x.kind = 15 ∨ x.kind = 16) (hb : begE t F id = 0) (k : Nat) : ∀ (pl : List PlT) (l : List Bool),(∀ p ∈ pl,p ∈ (layF t F id).pl) → k < l.length →
  ((pl.foldl (hadP t F rho x) l)[k]? = some true ↔ l[k]? = some true ∨ ∃ m ∈ pl.flatMap (markP t F (rho id.toNat) 0 x),inG k m) := by
 intro pl
 induction pl with
 | nil => intro l _ _; simp
 | cons p r ih =>
  intro l h1 h2
  rw [List.foldl_cons,ih _ (fun q hq => h1 q (by simp [hq])) (by rw [hadP_len]; exact h2),hadP_get hx hg hk hb (h1 p (by simp)) l k h2,List.flatMap_cons]
  simp only [List.mem_append]
  constructor
  ·rintro ((h | ⟨m,hm,hi⟩) | ⟨m,hm,hi⟩)
   ·exact .inl h
   ·exact .inr ⟨m,.inl hm,hi⟩
   ·exact .inr ⟨m,.inr hm,hi⟩
  ·rintro (h | ⟨m,hm | hm,hi⟩)
   ·exact .inl (.inl h)
   ·exact .inl (.inr ⟨m,hm,hi⟩)
   ·exact .inr ⟨m,hm,hi⟩
theorem whole_pl (hx : Tbl t rho F) {id : Int} {x : TR} (hg : getT t id = some x) (hk : x.kind = 15 ∨ x.kind = 16) (hb : begE t F id = 0) (N k : Nat) (hN : (N : Int) = 8 * (layF t F id).size) (hkN : k < N) :
  (doM (List.replicate N false) (gapsF t F (rho id.toNat + 1) id))[k]? ≠ ((layF t F id).pl.foldl (hadP t F rho x) (List.replicate N false))[k]? := by
 have gpos : ∀ g ∈ gapsF t F (rho id.toNat + 1) id,0 ≤ g.1 ∧ 0 ≤ g.2 := fun g hgm => by
  have := runs_lo _ 0 none (fun f e => by cases e) g hgm
  simp only at this
  omega
 have h1 := doM_get _ (List.replicate N false) k gpos (by rw [List.length_replicate]; exact hkN)
 have h2 := hadAll_get hx hg hk hb k (layF t F id).pl (List.replicate N false) (fun p hp => hp) (by rw [List.length_replicate]; exact hkN)
 rw [rep_get hkN] at h1 h2
 simp only [Option.some.injEq,Bool.false_eq_true,or_false,false_or] at h1 h2
 rw [gaps_mem hx hb _ k (by omega),marks_rec hg hk,← h2] at h1
 intro e
 rw [e] at h1
 exact absurd h1 (by simp)
end
def boC (l : List Bool) : List AV := l.map .bool
theorem boC_len (l : List Bool) : (boC l).length = l.length := List.length_map ..
theorem boC_set (l : List Bool) (i : Nat) (b : Bool) : (boC l).set i (.bool b) = boC (l.set i b) := by
 unfold boC
 rw [List.map_set]
theorem boC_get {l : List Bool} {i : Nat} {b : Bool} (h : l[i]? = some b) : (boC l)[i]? = some (.bool b) := by
 unfold boC
 rw [List.getElem?_map,h]
 rfl
theorem gaprow_at {l : List GapT} {i : Nat} {p : GapT} (h : l[i]? = some p) : (gapRows l)[i]? = some [.int .i64 p.1,.int .i64 p.2] := by
 unfold gapRows
 rw [List.getElem?_map,h]
 rfl
section
variable (G : Heap) (S : Nat) (hS : S < G.length)
include hS
theorem on_inner {N : Nat} (hN : N ≤ 200000) (gs : List GapT) (cg : Cap) (x1 x5 x6 x8 x12 : AV) (i : Nat) (f b : Nat) (hg : gs[i]? = some ((f : Int),(b : Int))) (hfb : f + b ≤ N) : ∀ (n k : Nat) (l : List Bool),l.length = N → k + n = b →
  ∃ E',Brun tab 320 (.loop f5l16) (ofL [(1,x1),(5,x5),(6,x6),(8,x8),(10,.is (gapRows gs) cg),(12,x12),(14,.ms S 0 N 1 N true),(16,.int .i64 i),(17,.int .i64 k)]) (List.set G S (.cells (boC l))) =
   some (.exit 2,ofL ((1,x1) :: (5,x5) :: (6,x6) :: (8,x8) :: (10,.is (gapRows gs) cg) :: (12,x12) :: (14,.ms S 0 N 1 N true) :: (16,.int .i64 i) :: E'),List.set G S (.cells (boC (setB l (f + k) n)))) := by
 have gS : ∀ y,(List.set G S y)[S]? = some y := fun y => by rw [List.getElem?_set,if_pos rfl,if_pos hS]
 have sS : ∀ y z,(List.set G S y).set S z = List.set G S z := fun y z => List.set_set ..
 have rl := gaprow_at hg
 have rl2 : ∀ hh,(gapRows gs)[i]'hh = _ := fun hh => (List.getElem?_eq_some_iff.1 rl).2
 have hll : (gapRows gs).length = gs.length := List.length_map ..
 have li := (List.getElem?_eq_some_iff.1 hg).1
 have li2 : (i : Int) < gs.length := by omega
 intro n
 induction n with
 | zero =>
  intro k l hl hk
  refine ⟨[(17,.int .i64 k),(138,.bool false)],?_⟩
  have q1 : ¬ (k : Int) < b := by omega
  have q2 : (b : Int) ≤ k := by omega
  rw [Brun_loop,f5l16_b]
  unfold f5m16 setB
  generalize List.set G S (.cells (boC l)) = G1 at *
  generalize gapRows gs = GR at *
  clear hS hl hk hfb gS sS hg hN
  repeat (any_goals first | simp (dsimp := false) (maxSteps := 4000000) (maxDischargeDepth := 8) (implicitDefEqProofs := false) [*,-Int.not_le,-Int.not_lt,amLt,f5q13,f5q19,f5q27,f5q44,f5q49] | with_reducible (first | apply cB | apply iB) <;> intro _ | intro _)
 | succ n ih =>
  intro k l hl hk
  obtain ⟨E',h⟩ := ih (k + 1) (l.set (f + k) true) (by rw [List.length_set]; exact hl) (by omega)
  refine ⟨E',?_⟩
  unfold setB
  rw [show f + (k + 1) = f + k + 1 by omega] at h
  rw [← h,Brun_loop,← boC_set]
  push_cast
  generalize Brun tab 320 (.loop f5l16) = L at *
  rw [f5l16_b]
  unfold f5m16
  have q1 : (k : Int) < b := by omega
  have w1 : IntKind.i64.wrap ((k : Int) + 1) = (k : Int) + 1 := IntWalk.i64_in _ (by omega)
  have w2 : IntKind.i64.wrap ((f : Int) + k) = ((f + k : Nat) : Int) := by rw [IntWalk.i64_in _ (by omega)]; omega
  have b1 : ((f + k : Nat) : Int) < N := by omega
  have b2 : (0 : Int) ≤ ((f + k : Nat) : Int) := by omega
  have cl := boC_len l
  rw [hl] at cl
  have b3 : f + k + 1 ≤ (boC l).length := by omega
  have b4 : f + k + 1 ≤ N := by omega
  have b5 : f + k < N := by omega
  have hset : List.take (f + k) (boC l) ++ (.bool true) :: List.drop (f + k + 1) (boC l) = (boC l).set (f + k) (.bool true) := by rw [List.set_eq_take_append_cons_drop,if_pos (by omega)]
  generalize boC l = C at *
  generalize f + k = ai at *
  generalize gapRows gs = GR at *
  clear hS hN hl hk ih h hfb hg
  repeat (any_goals first | simp (dsimp := false) (maxSteps := 4000000) (maxDischargeDepth := 8) (implicitDefEqProofs := false) [*,-Int.not_le,-Int.not_lt,amLt,f5q13,f5q19,f5q27,f5q44,f5q49] | with_reducible (first | apply cB | apply iB) <;> intro _ | intro _)
theorem on_loop {N : Nat} (hN : N ≤ 200000) (gs : List GapT) (cg : Cap) (x1 x5 x6 x8 x12 : AV) : ∀ (n i : Nat) (last : Int) (l : List Bool),l.length = N → i + n = gs.length → gs.length ≤ 200000 → -1 ≤ last → gapsOK N last (gs.drop i) →
  ∃ E',Brun tab 320 (.loop f5l12) (ofL [(1,x1),(5,x5),(6,x6),(8,x8),(10,.is (gapRows gs) cg),(12,x12),(14,.ms S 0 N 1 N true),(15,.int .i64 last),(16,.int .i64 i)]) (List.set G S (.cells (boC l))) =
   some (.exit 0,ofL ((1,x1) :: (5,x5) :: (6,x6) :: (8,x8) :: (10,.is (gapRows gs) cg) :: (12,x12) :: (14,.ms S 0 N 1 N true) :: E'),List.set G S (.cells (boC (doM l (gs.drop i))))) := by
 have hll : (gapRows gs).length = gs.length := List.length_map ..
 intro n
 induction n with
 | zero =>
  intro i last l hl hi hgl hlast hok
  have e : gs.drop i = [] := List.drop_eq_nil_of_le (by omega)
  rw [e,doM_nil]
  refine ⟨[(15,.int .i64 last),(16,.int .i64 i),(98,.bool false)],?_⟩
  have q1 : ¬ (i : Int) < gs.length := by omega
  have q2 : (gs.length : Int) ≤ i := by omega
  rw [Brun_loop,f5l12_b]
  unfold f5m12
  generalize List.set G S (.cells (boC l)) = G1 at *
  generalize gapRows gs = GR at *
  clear hS hl hok hN e
  repeat (any_goals first | simp (dsimp := false) (maxSteps := 4000000) (maxDischargeDepth := 8) (implicitDefEqProofs := false) [*,-Int.not_le,-Int.not_lt,amLt,f5q13,f5q19,f5q27,f5q44,f5q49] | with_reducible (first | apply cB | apply iB) <;> intro _ | intro _)
 | succ n ih =>
  intro i last l hl hi hgl hlast hok
  have hil : i < gs.length := by omega
  have gl := List.getElem?_eq_getElem hil
  rw [List.drop_eq_getElem_cons hil] at hok ⊢
  generalize gs[i] = gd at *
  obtain ⟨g1,g2⟩ := gd
  obtain ⟨o1,o2,o3,o4⟩ := hok
  simp only at o1 o2 o3 o4
  obtain ⟨f,rfl⟩ : ∃ f : Nat,g1 = f := ⟨g1.toNat,by omega⟩
  obtain ⟨b,rfl⟩ : ∃ b : Nat,g2 = b := ⟨g2.toNat,by omega⟩
  have rl := gaprow_at gl
  have rl2 : ∀ hh,(gapRows gs)[i]'hh = _ := fun hh => (List.getElem?_eq_some_iff.1 rl).2
  obtain ⟨E1,h1⟩ := on_inner G S hS hN gs cg x1 x5 x6 x8 x12 i f b gl (by omega) b 0 l hl (by omega)
  obtain ⟨E',h⟩ := ih (i + 1) ((f : Int) + b) (setB l f b) (by rw [setB_len]; exact hl) (by omega) hgl (by omega) o4
  rw [doM_cons]
  simp only [Int.toNat_natCast]
  refine ⟨E',?_⟩
  rw [← h,Brun_loop]
  push_cast
  simp only [Int.natCast_zero,Nat.add_zero] at h1
  generalize Brun tab 320 (.loop f5l12) = L at *
  rw [f5l12_b]
  unfold f5m12
  have q1 : (i : Int) < gs.length := by omega
  have q2 : ¬ (f : Int) ≤ last := by omega
  have q3 : ¬ (b : Int) < 1 := by omega
  have q3' : 1 ≤ (b : Int) := by omega
  have w1 : IntKind.i64.wrap ((i : Int) + 1) = (i : Int) + 1 := IntWalk.i64_in _ (by omega)
  have w2 : IntKind.i64.wrap ((f : Int) + b) = (f : Int) + b := IntWalk.i64_in _ (by omega)
  have w3 : IntKind.i64.wrap ((N : Int) - b) = (N : Int) - b := IntWalk.i64_in _ (by omega)
  have q4 : ¬ (N : Int) - b < f := by omega
  have q5 : (f : Int) ≤ (N : Int) - b := by omega
  have q6 : last < (f : Int) := by omega
  generalize List.set G S (.cells (boC l)) = G1 at *
  generalize List.set G S (.cells (boC (setB l f b))) = G2 at *
  generalize gapRows gs = GR at *
  clear hS hl ih h hi hgl hlast o1 o2 o3 o4 gl
  repeat (any_goals first | simp (dsimp := false) (maxSteps := 4000000) (maxDischargeDepth := 8) (implicitDefEqProofs := false) [*,-Int.not_le,-Int.not_lt,amLt,f5q13,f5q19,f5q27,f5q44,f5q49] | with_reducible (first | apply cB | apply iB) <;> intro _ | intro _)
end
section
variable (G : Heap) (S : Nat) (hS : S < G.length)
include hS
theorem part_inner {N : Nat} (hN : N ≤ 200000) (gs : List GapT) (cg : Cap) (x1 x5 x6 x12 x14 x18 x19 x20 : AV) (i : Nat) (f b : Nat) (hg : gs[i]? = some ((f : Int),(b : Int))) (hfb : f + b ≤ N) : ∀ (n k : Nat) (l : List Bool),l.length = N → k + n = b →
  ∃ E',Brun tab 320 (.loop f5l38) (ofL [(1,x1),(5,x5),(6,x6),(12,x12),(14,x14),(18,x18),(19,x19),(20,x20),(22,.is (gapRows gs) cg),(26,.ms S 0 N 1 N true),(27,.int .i64 i),(28,.int .i64 k)]) (List.set G S (.cells (boC l))) =
   some (.exit 10,ofL ((1,x1) :: (5,x5) :: (6,x6) :: (12,x12) :: (14,x14) :: (18,x18) :: (19,x19) :: (20,x20) :: (22,.is (gapRows gs) cg) :: (26,.ms S 0 N 1 N true) :: (27,.int .i64 i) :: E'),List.set G S (.cells (boC (setB l (f + k) n)))) := by
 have gS : ∀ y,(List.set G S y)[S]? = some y := fun y => by rw [List.getElem?_set,if_pos rfl,if_pos hS]
 have sS : ∀ y z,(List.set G S y).set S z = List.set G S z := fun y z => List.set_set ..
 have rl := gaprow_at hg
 have rl2 : ∀ hh,(gapRows gs)[i]'hh = _ := fun hh => (List.getElem?_eq_some_iff.1 rl).2
 have hll : (gapRows gs).length = gs.length := List.length_map ..
 have li := (List.getElem?_eq_some_iff.1 hg).1
 have li2 : (i : Int) < gs.length := by omega
 have f0 : (0 : Int) ≤ f := by omega
 intro n
 induction n with
 | zero =>
  intro k l hl hk
  refine ⟨[(28,.int .i64 k),(264,.bool false)],?_⟩
  have q1 : ¬ (k : Int) < b := by omega
  have q2 : (b : Int) ≤ k := by omega
  rw [Brun_loop,f5l38_b]
  unfold f5m38 setB
  generalize List.set G S (.cells (boC l)) = G1 at *
  generalize gapRows gs = GR at *
  clear hS hl hk hfb gS sS hg hN
  repeat (any_goals first | simp (dsimp := false) (maxSteps := 4000000) (maxDischargeDepth := 8) (implicitDefEqProofs := false) [*,-Int.not_le,-Int.not_lt,amLt,f5q13,f5q19,f5q27,f5q44,f5q49] | with_reducible (first | apply cB | apply iB) <;> intro _ | intro _)
 | succ n ih =>
  intro k l hl hk
  obtain ⟨E',h⟩ := ih (k + 1) (l.set (f + k) true) (by rw [List.length_set]; exact hl) (by omega)
  refine ⟨E',?_⟩
  unfold setB
  rw [show f + (k + 1) = f + k + 1 by omega] at h
  rw [← h,Brun_loop,← boC_set]
  push_cast
  generalize Brun tab 320 (.loop f5l38) = L at *
  rw [f5l38_b]
  unfold f5m38
  have q1 : (k : Int) < b := by omega
  have w1 : IntKind.i64.wrap ((k : Int) + 1) = (k : Int) + 1 := IntWalk.i64_in _ (by omega)
  have w2 : IntKind.i64.wrap ((f : Int) + k) = ((f + k : Nat) : Int) := by rw [IntWalk.i64_in _ (by omega)]; omega
  have b1 : ((f + k : Nat) : Int) < N := by omega
  have b2 : (0 : Int) ≤ ((f + k : Nat) : Int) := by omega
  have cl := boC_len l
  rw [hl] at cl
  have b3 : f + k + 1 ≤ (boC l).length := by omega
  have b4 : f + k + 1 ≤ N := by omega
  have b5 : f + k < N := by omega
  have hset : List.take (f + k) (boC l) ++ (.bool true) :: List.drop (f + k + 1) (boC l) = (boC l).set (f + k) (.bool true) := by rw [List.set_eq_take_append_cons_drop,if_pos (by omega)]
  generalize boC l = C at *
  generalize f + k = ai at *
  generalize gapRows gs = GR at *
  clear hS hN hl hk ih h hfb hg
  repeat (any_goals first | simp (dsimp := false) (maxSteps := 4000000) (maxDischargeDepth := 8) (implicitDefEqProofs := false) [*,-Int.not_le,-Int.not_lt,amLt,f5q13,f5q19,f5q27,f5q44,f5q49] | with_reducible (first | apply cB | apply iB) <;> intro _ | intro _)
theorem part_loop {N : Nat} (hN : N ≤ 200000) (gs : List GapT) (cg : Cap) (x1 x5 x6 x12 x14 x18 x19 x20 : AV) : ∀ (n i : Nat) (last : Int) (l : List Bool),l.length = N → i + n = gs.length → gs.length ≤ 200000 → -1 ≤ last → gapsOK N last (gs.drop i) →
  ∃ E',Brun tab 320 (.loop f5l36) (ofL [(1,x1),(5,x5),(6,x6),(12,x12),(14,x14),(18,x18),(19,x19),(20,x20),(22,.is (gapRows gs) cg),(26,.ms S 0 N 1 N true),(27,.int .i64 i)]) (List.set G S (.cells (boC l))) =
   some (.exit 8,ofL ((1,x1) :: (5,x5) :: (6,x6) :: (12,x12) :: (14,x14) :: (18,x18) :: (19,x19) :: (20,x20) :: (22,.is (gapRows gs) cg) :: (26,.ms S 0 N 1 N true) :: E'),List.set G S (.cells (boC (doM l (gs.drop i))))) := by
 have hll : (gapRows gs).length = gs.length := List.length_map ..
 intro n
 induction n with
 | zero =>
  intro i last l hl hi hgl hlast hok
  have e : gs.drop i = [] := List.drop_eq_nil_of_le (by omega)
  rw [e,doM_nil]
  refine ⟨[(27,.int .i64 i),(235,.bool false)],?_⟩
  have q1 : ¬ (i : Int) < gs.length := by omega
  have q2 : (gs.length : Int) ≤ i := by omega
  rw [Brun_loop,f5l36_b]
  unfold f5m36
  generalize List.set G S (.cells (boC l)) = G1 at *
  generalize gapRows gs = GR at *
  clear hS hl hok hN e
  repeat (any_goals first | simp (dsimp := false) (maxSteps := 4000000) (maxDischargeDepth := 8) (implicitDefEqProofs := false) [*,-Int.not_le,-Int.not_lt,amLt,f5q13,f5q19,f5q27,f5q44,f5q49] | with_reducible (first | apply cB | apply iB) <;> intro _ | intro _)
 | succ n ih =>
  intro i last l hl hi hgl hlast hok
  have hil : i < gs.length := by omega
  have gl := List.getElem?_eq_getElem hil
  rw [List.drop_eq_getElem_cons hil] at hok ⊢
  generalize gs[i] = gd at *
  obtain ⟨g1,g2⟩ := gd
  obtain ⟨o1,o2,o3,o4⟩ := hok
  simp only at o1 o2 o3 o4
  obtain ⟨f,rfl⟩ : ∃ f : Nat,g1 = f := ⟨g1.toNat,by omega⟩
  obtain ⟨b,rfl⟩ : ∃ b : Nat,g2 = b := ⟨g2.toNat,by omega⟩
  obtain ⟨E1,h1⟩ := part_inner G S hS hN gs cg x1 x5 x6 x12 x14 x18 x19 x20 i f b gl (by omega) b 0 l hl (by omega)
  obtain ⟨E',h⟩ := ih (i + 1) ((f : Int) + b) (setB l f b) (by rw [setB_len]; exact hl) (by omega) hgl (by omega) o4
  rw [doM_cons]
  simp only [Int.toNat_natCast]
  refine ⟨E',?_⟩
  rw [← h,Brun_loop]
  push_cast
  simp only [Int.natCast_zero,Nat.add_zero] at h1
  generalize Brun tab 320 (.loop f5l36) = L at *
  rw [f5l36_b]
  unfold f5m36
  have q1 : (i : Int) < gs.length := by omega
  have w1 : IntKind.i64.wrap ((i : Int) + 1) = (i : Int) + 1 := IntWalk.i64_in _ (by omega)
  generalize List.set G S (.cells (boC l)) = G1 at *
  generalize List.set G S (.cells (boC (setB l f b))) = G2 at *
  generalize gapRows gs = GR at *
  clear hS hl ih h hi hgl hlast o1 o2 o3 o4 gl
  repeat (any_goals first | simp (dsimp := false) (maxSteps := 4000000) (maxDischargeDepth := 8) (implicitDefEqProofs := false) [*,-Int.not_le,-Int.not_lt,amLt,f5q13,f5q19,f5q27,f5q44,f5q49] | with_reducible (first | apply cB | apply iB) <;> intro _ | intro _)
theorem had_loop {p : PlT} {N : Nat} (hN : N ≤ 200000) {B P N2 : Nat} (hB : G[B]? = some (.cells (plRow p))) (pt : List Bool) (hP : G[P]? = some (.cells (boC pt))) (hn1 : B ≠ S) (hn2 : P ≠ S) (hpt : pt.length = N2) (a : Nat) (hoff : 8 * p.off = a) (haN : a + N2 ≤ N) (x1 x5 x6 x12 x14 x19 : AV) : ∀ (n k : Nat) (l : List Bool),l.length = N → k + n = N2 →
  ∃ E',Brun tab 320 (.loop f5l43) (ofL [(1,x1),(5,x5),(6,x6),(12,x12),(14,x14),(18,.ms S 0 N 1 N true),(19,x19),(20,.mp B 0),(26,.ms P 0 N2 1 N2 true),(29,.int .i64 k)]) (List.set G S (.cells (boC l))) =
   some (.exit 12,ofL ((1,x1) :: (5,x5) :: (6,x6) :: (12,x12) :: (14,x14) :: (18,.ms S 0 N 1 N true) :: (19,x19) :: E'),List.set G S (.cells (boC (orB l (a + k) (pt.drop k))))) := by
 have gS : ∀ y,(List.set G S y)[S]? = some y := fun y => by rw [List.getElem?_set,if_pos rfl,if_pos hS]
 have gB : ∀ y,(List.set G S y)[B]? = some (.cells (plRow p)) := fun y => by rw [List.getElem?_set_ne (Ne.symm hn1)]; exact hB
 have gP : ∀ y,(List.set G S y)[P]? = some (.cells (boC pt)) := fun y => by rw [List.getElem?_set_ne (Ne.symm hn2)]; exact hP
 have sS : ∀ y z,(List.set G S y).set S z = List.set G S z := fun y z => List.set_set ..
 have pl := boC_len pt
 rw [hpt] at pl
 intro n
 induction n with
 | zero =>
  intro k l hl hk
  have e : pt.drop k = [] := List.drop_eq_nil_of_le (by omega)
  rw [e,orB]
  refine ⟨[(20,.mp B 0),(26,.ms P 0 N2 1 N2 true),(29,.int .i64 k),(279,.bool false)],?_⟩
  have q1 : ¬ (k : Int) < N2 := by omega
  have q2 : (N2 : Int) ≤ k := by omega
  rw [Brun_loop,f5l43_b]
  unfold f5m43
  generalize List.set G S (.cells (boC l)) = G1 at *
  clear hS hl hk gS sS hN e gB gP hB hP
  repeat (any_goals first | simp (dsimp := false) (maxSteps := 4000000) (maxDischargeDepth := 8) (implicitDefEqProofs := false) [*,-Int.not_le,-Int.not_lt,amLt,f5q13,f5q19,f5q27,f5q44,f5q49] | with_reducible (first | apply cB | apply iB) <;> intro _ | intro _)
 | succ n ih =>
  intro k l hl hk
  have hkp : k < pt.length := by omega
  have hal : a + k < l.length := by omega
  rw [List.drop_eq_getElem_cons hkp,orB]
  have c1 := boC_get (List.getElem?_eq_getElem hal)
  have c2 := boC_get (List.getElem?_eq_getElem hkp)
  have c1' : ∀ hh,(boC l)[a + k]'hh = _ := fun hh => (List.getElem?_eq_some_iff.1 c1).2
  have c2' : ∀ hh,(boC pt)[k]'hh = _ := fun hh => (List.getElem?_eq_some_iff.1 c2).2
  rw [List.getElem?_eq_getElem hal,Option.getD_some]
  obtain ⟨E',h⟩ := ih (k + 1) (l.set (a + k) (l[a + k] || !pt[k])) (by rw [List.length_set]; exact hl) (by omega)
  refine ⟨E',?_⟩
  rw [show a + (k + 1) = a + k + 1 by omega] at h
  rw [← h,Brun_loop,← boC_set]
  push_cast
  generalize Brun tab 320 (.loop f5l43) = L at *
  rw [f5l43_b]
  unfold f5m43
  have q1 : (k : Int) < N2 := by omega
  have w1 : IntKind.i64.wrap ((k : Int) + 1) = (k : Int) + 1 := IntWalk.i64_in _ (by omega)
  have w3 : IntKind.i64.wrap (8 * p.off) = (a : Int) := by rw [hoff]; exact IntWalk.i64_in _ (by omega)
  have w2 : IntKind.i64.wrap ((a : Int) + k) = ((a + k : Nat) : Int) := by rw [IntWalk.i64_in _ (by omega)]; omega
  have b1 : ((a + k : Nat) : Int) < N := by omega
  have b2 : (0 : Int) ≤ ((a + k : Nat) : Int) := by omega
  have cl := boC_len l
  rw [hl] at cl
  have b3 : a + k + 1 ≤ (boC l).length := by omega
  have b4 : a + k + 1 ≤ N := by omega
  have b5 : a + k < N := by omega
  have b6 : k < N2 := by omega
  have b7 : k + 1 ≤ N2 := by omega
  have hset : ∀ y,List.take (a + k) (boC l) ++ y :: List.drop (a + k + 1) (boC l) = (boC l).set (a + k) y := fun y => by rw [List.set_eq_take_append_cons_drop,if_pos (by omega)]
  unfold plRow at gB
  generalize l[a + k] = lb at *
  generalize pt[k] = pb at *
  generalize boC l = C at *
  generalize boC pt = PT at *
  generalize a + k = ai at *
  clear hS hN hl hk ih h hkp hal hB hP hoff haN
  cases lb <;> cases pb
  ·repeat (any_goals first | simp (dsimp := false) (maxSteps := 4000000) (maxDischargeDepth := 8) (implicitDefEqProofs := false) [*,-Int.not_le,-Int.not_lt,amLt,f5q13,f5q19,f5q27,f5q44,f5q49] | with_reducible (first | apply cB | apply iB) <;> intro _ | intro _)
  ·repeat (any_goals first | simp (dsimp := false) (maxSteps := 4000000) (maxDischargeDepth := 8) (implicitDefEqProofs := false) [*,-Int.not_le,-Int.not_lt,amLt,f5q13,f5q19,f5q27,f5q44,f5q49] | with_reducible (first | apply cB | apply iB) <;> intro _ | intro _)
  ·repeat (any_goals first | simp (dsimp := false) (maxSteps := 4000000) (maxDischargeDepth := 8) (implicitDefEqProofs := false) [*,-Int.not_le,-Int.not_lt,amLt,f5q13,f5q19,f5q27,f5q44,f5q49] | with_reducible (first | apply cB | apply iB) <;> intro _ | intro _)
  ·repeat (any_goals first | simp (dsimp := false) (maxSteps := 4000000) (maxDischargeDepth := 8) (implicitDefEqProofs := false) [*,-Int.not_le,-Int.not_lt,amLt,f5q13,f5q19,f5q27,f5q44,f5q49] | with_reducible (first | apply cB | apply iB) <;> intro _ | intro _)
end
section
variable (G : Heap) (S : Nat) (hS : S < G.length)
include hS
theorem name_loop {N : Nat} (hN : N ≤ 200000) {B C : Nat} {p : PlT} {X MR : List (List AV)} {c c2 : Cap} {a0 a1 a2 a3 a5 ty mb : AV} {id : Int} {j : Nat} (h0 : 0 ≤ id) (hC : G[C]? = some (.cells [.is X c])) (hX : X[id.toNat]? = some [a0,a1,a2,a3,.is MR c2,a5]) (hB : G[B]? = some (.cells (plRow p))) (hpj : p.mem = j) {nm : List UInt8} (hM : MR[j]? = some [.str nm,ty,mb]) (hnm : nm ≠ [])
  (hn1 : B ≠ S) (hn2 : C ≠ S) (a m : Nat) (hab : 0 ≤ p.off ∧ 0 ≤ p.bit) (ha : 8 * p.off + p.bit = a) (hm : p.bits = m) (ham : a + m ≤ N) (x5 x12 x14 x19 : AV) : ∀ (n k : Nat) (l : List Bool),l.length = N → k + n = m →
  ∃ E',Brun tab 320 (.loop f5l27) (ofL [(1,.int .i64 id),(5,x5),(6,.mp C 0),(12,x12),(14,x14),(18,.ms S 0 N 1 N true),(19,x19),(20,.mp B 0),(21,.int .i64 k)]) (List.set G S (.cells (boC l))) =
   some (.exit 6,ofL ((1,.int .i64 id) :: (5,x5) :: (6,.mp C 0) :: (12,x12) :: (14,x14) :: (18,.ms S 0 N 1 N true) :: (19,x19) :: E'),List.set G S (.cells (boC (setB l (a + k) n)))) := by
 have gS : ∀ y,(List.set G S y)[S]? = some y := fun y => by rw [List.getElem?_set,if_pos rfl,if_pos hS]
 have gB : ∀ y,(List.set G S y)[B]? = some (.cells (plRow p)) := fun y => by rw [List.getElem?_set_ne (Ne.symm hn1)]; exact hB
 have gC : ∀ y,(List.set G S y)[C]? = some (.cells [.is X c]) := fun y => by rw [List.getElem?_set_ne (Ne.symm hn2)]; exact hC
 have sS : ∀ y z,(List.set G S y).set S z = List.set G S z := fun y z => List.set_set ..
 have hX' : ∀ hh,X[id.toNat]'hh = _ := fun hh => (List.getElem?_eq_some_iff.1 hX).2
 have hM' : ∀ hh,MR[j]'hh = _ := fun hh => (List.getElem?_eq_some_iff.1 hM).2
 have lX := (List.getElem?_eq_some_iff.1 hX).1
 have lM := (List.getElem?_eq_some_iff.1 hM).1
 have lX2 : id < (X.length : Int) := by omega
 have lM2 : (j : Int) < (MR.length : Int) := by omega
 unfold plRow at gB
 rw [hpj,hm] at gB
 intro n
 induction n with
 | zero =>
  intro k l hl hk
  refine ⟨[(20,.mp B 0),(21,.int .i64 k),(196,.bool false)],?_⟩
  have q1 : ¬ (k : Int) < m := by omega
  have q2 : (m : Int) ≤ k := by omega
  rw [Brun_loop,f5l27_b]
  unfold f5m27 setB
  have gB' := gB (.cells (boC l))
  have gC' := gC (.cells (boC l))
  generalize List.set G S (.cells (boC l)) = G1 at *
  clear hS hl hk gS sS hN gB gC hB hC ha hm ham hab
  repeat (any_goals first | simp (dsimp := false) (maxSteps := 4000000) (maxDischargeDepth := 8) (implicitDefEqProofs := false) [*,-Int.not_le,-Int.not_lt,amLt,f5q13,f5q19,f5q27,f5q44,f5q49] | with_reducible (first | apply cB | apply iB) <;> intro _ | intro _)
 | succ n ih =>
  intro k l hl hk
  obtain ⟨E',h⟩ := ih (k + 1) (l.set (a + k) true) (by rw [List.length_set]; exact hl) (by omega)
  refine ⟨E',?_⟩
  unfold setB
  rw [show a + (k + 1) = a + k + 1 by omega] at h
  rw [← h,Brun_loop,← boC_set]
  push_cast
  generalize Brun tab 320 (.loop f5l27) = L at *
  rw [f5l27_b]
  unfold f5m27
  have q1 : (k : Int) < m := by omega
  have w1 : IntKind.i64.wrap ((k : Int) + 1) = (k : Int) + 1 := IntWalk.i64_in _ (by omega)
  have w3 : IntKind.i64.wrap (8 * p.off) = 8 * p.off := IntWalk.i64_in _ (by omega)
  have w4 : IntKind.i64.wrap (8 * p.off + p.bit) = (a : Int) := by rw [ha]; exact IntWalk.i64_in _ (by omega)
  have w2 : IntKind.i64.wrap ((a : Int) + k) = ((a + k : Nat) : Int) := by rw [IntWalk.i64_in _ (by omega)]; omega
  have b1 : ((a + k : Nat) : Int) < N := by omega
  have b2 : (0 : Int) ≤ ((a + k : Nat) : Int) := by omega
  have cl := boC_len l
  rw [hl] at cl
  have b3 : a + k + 1 ≤ (boC l).length := by omega
  have b4 : a + k + 1 ≤ N := by omega
  have b5 : a + k < N := by omega
  have hset : List.take (a + k) (boC l) ++ (.bool true) :: List.drop (a + k + 1) (boC l) = (boC l).set (a + k) (.bool true) := by rw [List.set_eq_take_append_cons_drop,if_pos (by omega)]
  generalize boC l = C1 at *
  generalize a + k = ai at *
  clear hS hN hl hk ih h hB hC ham ha hm hab
  repeat (any_goals first | simp (dsimp := false) (maxSteps := 4000000) (maxDischargeDepth := 8) (implicitDefEqProofs := false) [*,-Int.not_le,-Int.not_lt,amLt,f5q13,f5q19,f5q27,f5q44,f5q49] | with_reducible (first | apply cB | apply iB) <;> intro _ | intro _)
end
theorem name_none {G : Heap} {S N : Nat} {B C : Nat} {p : PlT} {X MR : List (List AV)} {c c2 : Cap} {a0 a1 a2 a3 a5 ty mb : AV} {id : Int} {j : Nat} (h0 : 0 ≤ id) (hC : G[C]? = some (.cells [.is X c])) (hX : X[id.toNat]? = some [a0,a1,a2,a3,.is MR c2,a5]) (hB : G[B]? = some (.cells (plRow p))) (hpj : p.mem = j) (hM : MR[j]? = some [.str [],ty,mb]) (hb : 0 < p.bits) (x5 x12 x14 x19 : AV) :
  ∃ E',Brun tab 320 (.loop f5l27) (ofL [(1,.int .i64 id),(5,x5),(6,.mp C 0),(12,x12),(14,x14),(18,.ms S 0 N 1 N true),(19,x19),(20,.mp B 0),(21,.int .i64 0)]) G =
   some (.exit 6,ofL ((1,.int .i64 id) :: (5,x5) :: (6,.mp C 0) :: (12,x12) :: (14,x14) :: (18,.ms S 0 N 1 N true) :: (19,x19) :: E'),G) := by
 refine ⟨[(20,.mp B 0),(21,.int .i64 0),(196,.bool false)],?_⟩
 have hX' : ∀ hh,X[id.toNat]'hh = _ := fun hh => (List.getElem?_eq_some_iff.1 hX).2
 have hM' : ∀ hh,MR[j]'hh = _ := fun hh => (List.getElem?_eq_some_iff.1 hM).2
 have lX := (List.getElem?_eq_some_iff.1 hX).1
 have lM := (List.getElem?_eq_some_iff.1 hM).1
 have lX2 : id < (X.length : Int) := by omega
 have lM2 : (j : Int) < (MR.length : Int) := by omega
 unfold plRow at hB
 rw [hpj] at hB
 rw [Brun_loop,f5l27_b]
 unfold f5m27
 repeat (any_goals first | simp (dsimp := false) (maxSteps := 4000000) (maxDischargeDepth := 8) (implicitDefEqProofs := false) [*,-Int.not_le,-Int.not_lt,amLt,f5q13,f5q19,f5q27,f5q44,f5q49] | with_reducible (first | apply cB | apply iB) <;> intro _ | intro _)
theorem eq_loop {G : Heap} {S U N : Nat} (hN : N ≤ 200000) (on had : List Bool) (h1 : G[S]? = some (.cells (boC on))) (h2 : G[U]? = some (.cells (boC had))) (l1 : on.length = N) (l2 : had.length = N) (hne : ∀ k : Nat,k < N → on[k]? ≠ had[k]?) : ∀ (n k : Nat),k + n = N →
  ∃ E',Brun tab 320 (.loop f5l48) (ofL [(14,.ms S 0 N 1 N true),(18,.ms U 0 N 1 N true),(30,.int .i64 k)]) G = some (.exit 14,ofL E',G) := by
 have c1 := boC_len on
 have c2 := boC_len had
 rw [l1] at c1
 rw [l2] at c2
 intro n
 induction n with
 | zero =>
  intro k hk
  refine ⟨[(14,.ms S 0 N 1 N true),(18,.ms U 0 N 1 N true),(30,.int .i64 k),(307,.bool false)],?_⟩
  have q1 : ¬ (k : Int) < N := by omega
  have q2 : (N : Int) ≤ k := by omega
  rw [Brun_loop,f5l48_b]
  unfold f5m48
  clear hk hne h1 h2 c1 c2 l1 l2 hN
  repeat (any_goals first | simp (dsimp := false) (maxSteps := 4000000) (maxDischargeDepth := 8) (implicitDefEqProofs := false) [*,-Int.not_le,-Int.not_lt,amLt,f5q13,f5q19,f5q27,f5q44,f5q49] | with_reducible (first | apply cB | apply iB) <;> intro _ | intro _)
 | succ n ih =>
  intro k hk
  obtain ⟨E',h⟩ := ih (k + 1) (by omega)
  refine ⟨E',?_⟩
  have k1 : k < on.length := by omega
  have k2 : k < had.length := by omega
  have e1 := List.getElem?_eq_getElem k1
  have e2 := List.getElem?_eq_getElem k2
  have hd := hne k (by omega)
  rw [e1,e2] at hd
  have g1 := boC_get e1
  have g2 := boC_get e2
  have g1' : ∀ hh,(boC on)[k]'hh = _ := fun hh => (List.getElem?_eq_some_iff.1 g1).2
  have g2' : ∀ hh,(boC had)[k]'hh = _ := fun hh => (List.getElem?_eq_some_iff.1 g2).2
  have q1 : (k : Int) < N := by omega
  have q2 : k < N := by omega
  have q3 : k + 1 ≤ N := by omega
  have w1 : IntKind.i64.wrap ((k : Int) + 1) = (k : Int) + 1 := IntWalk.i64_in _ (by omega)
  rw [← h,Brun_loop]
  push_cast
  generalize Brun tab 320 (.loop f5l48) = L at *
  rw [f5l48_b]
  unfold f5m48
  generalize on[k] = b1 at *
  generalize had[k] = b2 at *
  generalize boC on = C1 at *
  generalize boC had = C2 at *
  clear ih h hk hne e1 e2 k1 k2 l1 l2 hN
  cases b1 <;> cases b2
  ·exact absurd rfl hd
  ·repeat (any_goals first | simp (dsimp := false) (maxSteps := 4000000) (maxDischargeDepth := 8) (implicitDefEqProofs := false) [*,-Int.not_le,-Int.not_lt,amLt,f5q13,f5q19,f5q27,f5q44,f5q49] | with_reducible (first | apply cB | apply iB) <;> intro _ | intro _)
  ·repeat (any_goals first | simp (dsimp := false) (maxSteps := 4000000) (maxDischargeDepth := 8) (implicitDefEqProofs := false) [*,-Int.not_le,-Int.not_lt,amLt,f5q13,f5q19,f5q27,f5q44,f5q49] | with_reducible (first | apply cB | apply iB) <;> intro _ | intro _)
  ·exact absurd rfl hd
structure WhI (t : List TR) (T R M C S U N : Nat) (c : Cap) (on : List Bool) (H : Heap) (l : List Bool) : Prop where
 tab : TabAt H T R M t.length false t
 ref : H[C]? = some (.cells [.is ((t.map eraseT).map trow) c])
 onm : H[S]? = some (.cells (boC on))
 had : H[U]? = some (.cells (boC l))
 ne : U ≠ T ∧ U ≠ R ∧ U ≠ C ∧ U ≠ S
 ln : l.length = N ∧ on.length = N
section
variable {t : List TR} {rho : Nat → Nat} {F T R M C S U N : Nat} {c : Cap} {on : List Bool}
theorem WhI.app {H : Heap} {l : List Bool} (h : WhI t T R M C S U N c on H l) (x : Heap) : WhI t T R M C S U N c on (H ++ x) l :=
 ⟨h.tab.app x,rapp h.ref x,rapp h.onm x,rapp h.had x,h.ne,h.ln⟩
theorem WhI.set {H : Heap} {l l' : List Bool} (h : WhI t T R M C S U N c on H l) (hl : l'.length = N) : WhI t T R M C S U N c on (List.set H U (.cells (boC l'))) l' := by
 obtain ⟨n1,n2,n3,n4⟩ := h.ne
 refine ⟨tab_of ?_ ?_,?_,?_,?_,h.ne,hl,h.ln.2⟩
 ·rw [List.getElem?_set_ne n1]; exact h.tab.t0
 ·rw [List.getElem?_set_ne n2]; exact h.tab.r0
 ·rw [List.getElem?_set_ne n3]; exact h.ref
 ·rw [List.getElem?_set_ne n4]; exact h.onm
 ·rw [List.getElem?_set,if_pos rfl,if_pos (List.getElem?_eq_some_iff.1 h.had).1]
theorem boC_zero (n : Nat) : repeatCells n [.bool false] = boC (List.replicate n false) := by
 unfold repeatCells boC
 rw [List.map_replicate]
 induction n with
 | zero => rfl
 | succ n ih => rw [List.replicate_succ,List.flatten_cons,ih]; rfl
theorem had_body (hx : Tbl t rho F) {id : Int} {r : TR} (hg : getT t id = some r) (hk15 : r.kind = 15 ∨ r.kind = 16) (hb : begE t F id = 0) (hN : (N : Int) = 8 * (layF t F id).size) (i : Nat) (p : PlT) (hi : (layF t F id).pl[i]? = some p) (cp : Cap) (H : Heap) (l : List Bool) (hw : WhI t T R M C S U N c on H l) :
  ∃ H',WhI t T R M C S U N c on H' (hadP t F rho r l p) ∧ Brun tab 320 f5l23 (ofL [(1,.int .i64 id),(5,.mp T 0),(6,.mp C 0),(12,.is (plRows (layF t F id).pl) cp),(14,.ms S 0 N 1 N true),(18,.ms U 0 N 1 N true),(19,.int .i64 i)]) H =
   some (.normal,ofL [(1,.int .i64 id),(5,.mp T 0),(6,.mp C 0),(12,.is (plRows (layF t F id).pl) cp),(14,.ms S 0 N 1 N true),(18,.ms U 0 N 1 N true),(19,.int .i64 (i + 1))],H') := by
 obtain ⟨g0,gi⟩ := getT_some hg
 have hr := rec_ok hx hg hk15 hb
 have hrow : ((t.map eraseT).map trow)[id.toNat]? = some (trow (eraseT r)) := by rw [List.getElem?_map,List.getElem?_map,gi]; rfl
 have li := (List.getElem?_eq_some_iff.1 hi).1
 have hpi : p ∈ (layF t F id).pl := List.mem_of_getElem? hi
 obtain ⟨hq,hqb⟩ := hr.pl p hpi
 have hnl := hr.nl
 have hml := hr.ml
 have hsz := hr.hi
 have hlo := hr.lo
 have hN2 : N ≤ 200000 := by omega
 have hpr : (plRows (layF t F id).pl)[i]? = some (plRow p) := plrow_at hi
 have hpr2 : ∀ hh,(plRows (layF t F id).pl)[i]'hh = _ := fun hh => (List.getElem?_eq_some_iff.1 hpr).2
 have hpl : (plRows (layF t F id).pl).length = (layF t F id).pl.length := by unfold plRows; exact List.length_map ..
 have hii : (i : Int) < (layF t F id).pl.length := by omega
 have hww := cw64 i (by omega)
 obtain ⟨m,mm,m1,m2,m3,m4,m5⟩ := hq.mem
 have hmr : (memRows r.mem)[m]? = some (memRow mm) := by simp [memRows,m2]
 have hmm : r.mem[p.mem.toNat]? = some mm := by rw [m1]; exact m2
 have f4 := hq.off
 have f5 := hq.lo
 have f6 := hq.hi
 have f8 := hq.unit
 have f9 := hq.bit
 have f10 := hq.fine.lo
 have f11 := hq.fine.hi
 unfold hiP loP at f6
 obtain ⟨ln1,ln2⟩ := hw.ln
 obtain ⟨n1,n2,n3,n4⟩ := hw.ne
 obtain ⟨pb,hpb⟩ : ∃ pb : Blk,pb = .cells (plRow p) := ⟨_,rfl⟩
 have hw1 := hw.app [pb]
 have uT := (List.getElem?_eq_some_iff.1 hw.tab.t0).1
 have uR := (List.getElem?_eq_some_iff.1 hw.tab.r0).1
 have uU := (List.getElem?_eq_some_iff.1 hw.had).1
 have uC := (List.getElem?_eq_some_iff.1 hw.ref).1
 have uS := (List.getElem?_eq_some_iff.1 hw.onm).1
 have hBx : ∀ x,(H ++ ([pb] ++ x))[H.length]? = some (.cells (plRow p)) := fun x => by rw [List.getElem?_append_right (Nat.le_refl _),Nat.sub_self,hpb]; rfl
 have hB0 : (H ++ [pb])[H.length]? = some (.cells (plRow p)) := hBx []
 unfold hadP
 rw [hmm]
 simp only
 by_cases cb : 0 < p.bits
 ·rw [if_pos cb]
  rw [if_pos cb] at f6
  by_cases cn : mm.1 ≠ []
  ·rw [if_pos cn]
   obtain ⟨a,ha⟩ : ∃ a : Nat,8 * p.off + p.bit = a := ⟨(8 * p.off + p.bit).toNat,by omega⟩
   obtain ⟨b,hbb⟩ : ∃ b : Nat,p.bits = b := ⟨p.bits.toNat,by omega⟩
   obtain ⟨E',h1⟩ := name_loop (H ++ [pb]) U (by rw [List.length_append]; omega) hN2 g0 hw1.ref hrow hB0 m1 hmr cn (by omega) (Ne.symm n3) a b ⟨f4,f9.2⟩ ha hbb (by omega) (.mp T 0) (.is (plRows (layF t F id).pl) cp) (.ms S 0 N 1 N true) (.int .i64 i) b 0 l ln1 (by omega)
   rw [set_same hw1.had] at h1
   rw [ha,hbb,Int.toNat_natCast,Int.toNat_natCast]
   simp only [Int.natCast_zero,Nat.add_zero] at h1
   refine ⟨_,hw1.set (l' := setB l a b) (by rw [setB_len]; exact ln1),?_⟩
   rw [f5l23_b]
   unfold f5m23
   subst hpb
   unfold plRow at *
   generalize plRows (layF t F id).pl = PL at *
   generalize List.set (H ++ [Blk.cells [.int .i64 p.mem,.int .i64 p.ty,.int .i64 p.off,.int .i64 p.bit,.int .i64 p.bits]]) U (.cells (boC (setB l a b))) = H1 at *
   have cb' : (0 : Int) < p.bits := cb
   clear hx hg hr hb hN gi hrow li hpi hq hqb hnl hml hsz hlo hN2 m1 m2 m4 m5 hmr hmm f4 f5 f6 f8 f9 f10 f11 ln1 ln2 n1 n2 n3 n4 hw hw1 uT uR uU uC uS hB0 ha hbb hi
   repeat (any_goals first | simp (dsimp := false) (maxSteps := 4000000) (maxDischargeDepth := 8) (implicitDefEqProofs := false) [*,-Int.not_le,-Int.not_lt,amLt,f5q13,f5q19,f5q27,f5q44,f5q49,app_get,app_get0,app_set,app_set0] | with_reducible (first | apply cB | apply iB) <;> intro _ | intro _)
  ·rw [if_neg cn]
   simp only [ne_eq,Decidable.not_not] at cn
   unfold memRow at hmr
   rw [cn] at hmr
   obtain ⟨E',h1⟩ := name_none (S := U) (N := N) g0 hw1.ref hrow hB0 m1 hmr cb (.mp T 0) (.is (plRows (layF t F id).pl) cp) (.ms S 0 N 1 N true) (.int .i64 i)
   refine ⟨_,hw1,?_⟩
   rw [f5l23_b]
   unfold f5m23
   subst hpb
   unfold plRow at *
   generalize plRows (layF t F id).pl = PL at *
   clear hx hg hr hb hN gi hrow li hpi hq hqb hnl hml hsz hlo hN2 m1 m2 m4 m5 hmr hmm f4 f5 f6 f8 f9 f10 f11 ln1 ln2 n1 n2 n3 n4 hw hw1 uT uR uU uC uS hB0 hi
   repeat (any_goals first | simp (dsimp := false) (maxSteps := 4000000) (maxDischargeDepth := 8) (implicitDefEqProofs := false) [*,-Int.not_le,-Int.not_lt,amLt,f5q13,f5q19,f5q27,f5q44,f5q49,app_get,app_get0,app_set,app_set0] | with_reducible (first | apply cB | apply iB) <;> intro _ | intro _)
 ·rw [if_neg cb]
  rw [if_neg cb] at f6
  obtain ⟨a,ha⟩ : ∃ a : Nat,8 * p.off = a := ⟨(8 * p.off).toNat,by omega⟩
  obtain ⟨N2,hN3⟩ : ∃ N2 : Nat,8 * (layF t F p.ty).size = N2 := ⟨(8 * (layF t F p.ty).size).toNat,by omega⟩
  obtain ⟨Y1,_,c1⟩ := gaps_ok hx (H ++ [pb]) hw1.tab p.ty
  obtain ⟨cg,c1⟩ := c1 hqb
  obtain ⟨Y2,c2⟩ := size_ok hx (H ++ ([pb] ++ Y1)) (hw.tab.app _) p.ty
  unfold sizE at c2
  rw [if_pos hqb,hqb] at c2
  obtain ⟨gs,hgs⟩ : ∃ gs,gs = gapsF t F (rho p.ty.toNat + 1) p.ty := ⟨_,rfl⟩
  have hgo := gapsF_ok hx hqb (rho p.ty.toNat + 1)
  rw [← hgs] at c1 hgo
  rw [hN3] at hgo
  have hgl : gs.length ≤ 200000 := by
   have key : ∀ (l : List GapT) (last : Int),gapsOK N2 last l → -1 ≤ last → (l.length : Int) ≤ max 0 (N2 - last) := by
    intro l
    induction l with
    | nil => intro last _ _; simp; omega
    | cons g r ih =>
     intro last h h0
     obtain ⟨h1,h2,h3,h4⟩ := h
     have := ih _ h4 (by omega)
     simp only [List.length_cons]
     omega
   have := key gs (-1) hgo (by omega)
   omega
  obtain ⟨H2,hH2⟩ : ∃ H2 : Heap,H2 = H ++ ([pb] ++ Y1 ++ Y2) := ⟨_,rfl⟩
  have hw2 : WhI t T R M C S U N c on (H2 ++ [.cells (boC (List.replicate N2 false))]) l := by rw [hH2]; exact (hw.app _).app _
  have lH2 : H.length < H2.length := by rw [hH2]; simp
  have gP : ∀ y,(H2 ++ [y])[H2.length]? = some y := fun y => by rw [List.getElem?_append_right (Nat.le_refl _),Nat.sub_self]; rfl
  have gB2 : ∀ y,(H2 ++ y)[H.length]? = some (.cells (plRow p)) := fun y => by rw [List.getElem?_append_left lH2,hH2,List.append_assoc]; exact hBx _
  obtain ⟨E1,p1⟩ := part_loop (H2 ++ [.cells (boC (List.replicate N2 false))]) H2.length (by simp) (N := N2) (by omega) gs cg (.int .i64 id) (.mp T 0) (.mp C 0) (.is (plRows (layF t F id).pl) cp) (.ms S 0 N 1 N true) (.ms U 0 N 1 N true) (.int .i64 i) (.mp H.length 0) gs.length 0 (-1) (List.replicate N2 false) (by simp) (by omega) hgl (by omega) hgo
  rw [set_same (gP _),List.drop_zero,List.set_append_right _ _ (Nat.le_refl _),Nat.sub_self] at p1
  obtain ⟨pt,hpt⟩ : ∃ pt,pt = doM (List.replicate N2 false) gs := ⟨_,rfl⟩
  rw [← hpt] at p1
  have hptl : pt.length = N2 := by rw [hpt,doM_len,List.length_replicate]
  have hw3 : WhI t T R M C S U N c on (H2 ++ [.cells (boC pt)]) l := by rw [hH2]; exact (hw.app _).app _
  obtain ⟨E2,p2⟩ := had_loop (p := p) (H2 ++ [.cells (boC pt)]) U (by rw [List.length_append]; omega) hN2 (B := H.length) (P := H2.length) (N2 := N2) (gB2 _) pt (gP _) (by omega) (by omega) hptl a ha (by omega) (.int .i64 id) (.mp T 0) (.mp C 0) (.is (plRows (layF t F id).pl) cp) (.ms S 0 N 1 N true) (.int .i64 i) N2 0 l ln1 (by omega)
  rw [set_same hw3.had,List.drop_zero] at p2
  simp only [Int.natCast_zero,Nat.add_zero,List.set_cons_zero] at p1 p2
  have hpart : partF t F rho p.ty = pt := by
   unfold partF
   rw [← hgs,hpt,hN3,Int.toNat_natCast]
  rw [hpart,ha,Int.toNat_natCast]
  refine ⟨_,hw3.set (l' := orB l a pt) (by rw [orB_len]; exact ln1),?_⟩
  have w1 : IntKind.i64.wrap (N2 : Int) = (N2 : Int) := IntWalk.i64_in _ (by omega)
  have v3 : (0 : Int) ≤ N2 := by omega
  have v1 : roomy N2 1 = true := by unfold roomy; simp only [decide_eq_true_eq]; omega
  have v2 : (N2 : Int) ≤ 9223372036854775807 := by omega
  have hz := boC_zero N2
  rw [f5l23_b]
  unfold f5m23
  have hH2' : H2.length = H.length + (Y1.length + Y2.length + 1) := by rw [hH2]; simp
  have eH2 : ∀ y,H ++ pb :: (Y1 ++ (Y2 ++ [y])) = H2 ++ [y] := fun y => by rw [hH2]; simp
  rw [hH2'] at p1 p2
  subst hpb
  have hBx' := hBx []
  simp only [List.append_assoc,List.cons_append,List.nil_append,List.append_nil] at *
  generalize List.set (H2 ++ [Blk.cells (boC pt)]) U (.cells (boC (orB l a pt))) = H5 at *
  unfold plRow at *
  generalize plRows (layF t F id).pl = PL at *
  generalize gapRows gs = GR at *
  generalize layF t F p.ty = lp at *
  generalize boC (List.replicate N2 false) = ZC at *
  have cb' : p.bits ≤ 0 := by omega
  clear hx hg hr hb hN gi hrow li hpi hq hqb hnl hml hsz hlo hN2 m1 m2 m4 m5 hmr hmm f4 f5 f6 f8 f9 f10 f11 ln1 ln2 n1 n2 n3 n4 hw hw1 uT uR uU uC uS ha hi hgs hgo hgl hH2 hw2 hw3 lH2 hpt hptl hpart hB0
  repeat (any_goals first | simp (dsimp := false) (maxSteps := 4000000) (maxDischargeDepth := 8) (implicitDefEqProofs := false) [*,-Int.not_le,-Int.not_lt,amLt,f5q13,f5q19,f5q27,f5q44,f5q49,app_get,app_get0,app_set,app_set0] | with_reducible (first | apply cB | apply iB) <;> intro _ | intro _)
end
section
variable {t : List TR} {rho : Nat → Nat} {F T R M C S U N : Nat} {c : Cap} {on : List Bool}
theorem had_all (hx : Tbl t rho F) {id : Int} {r : TR} (hg : getT t id = some r) (hk15 : r.kind = 15 ∨ r.kind = 16) (hb : begE t F id = 0) (hN : (N : Int) = 8 * (layF t F id).size) (cp : Cap) : ∀ (n i : Nat) (H : Heap) (l : List Bool),i + n = (layF t F id).pl.length → WhI t T R M C S U N c on H l →
  ∃ E' H',WhI t T R M C S U N c on H' (((layF t F id).pl.drop i).foldl (hadP t F rho r) l) ∧ Brun tab 320 (.loop f5l23) (ofL [(1,.int .i64 id),(5,.mp T 0),(6,.mp C 0),(12,.is (plRows (layF t F id).pl) cp),(14,.ms S 0 N 1 N true),(18,.ms U 0 N 1 N true),(19,.int .i64 i)]) H =
   some (.exit 4,ofL ((1,.int .i64 id) :: (5,.mp T 0) :: (6,.mp C 0) :: (12,.is (plRows (layF t F id).pl) cp) :: (14,.ms S 0 N 1 N true) :: (18,.ms U 0 N 1 N true) :: E'),H') := by
 have hpl : (plRows (layF t F id).pl).length = (layF t F id).pl.length := by unfold plRows; exact List.length_map ..
 intro n
 induction n with
 | zero =>
  intro i H l hi hw
  have e : (layF t F id).pl.drop i = [] := List.drop_eq_nil_of_le (by omega)
  rw [e]
  refine ⟨[(19,.int .i64 i),(167,.bool false)],H,hw,?_⟩
  have q1 : ¬ (i : Int) < (layF t F id).pl.length := by omega
  have q2 : ((layF t F id).pl.length : Int) ≤ i := by omega
  rw [Brun_loop,f5l23_b]
  unfold f5m23
  generalize plRows (layF t F id).pl = PL at *
  generalize (layF t F id).pl.length = pn at *
  clear hx hg hk15 hb hN hw e hi
  repeat (any_goals first | simp (dsimp := false) (maxSteps := 4000000) (maxDischargeDepth := 8) (implicitDefEqProofs := false) [*,-Int.not_le,-Int.not_lt,amLt,f5q13,f5q19,f5q27,f5q44,f5q49] | with_reducible (first | apply cB | apply iB) <;> intro _ | intro _)
 | succ n ih =>
  intro i H l hi hw
  have li : i < (layF t F id).pl.length := by omega
  obtain ⟨H1,h1,h2⟩ := had_body hx hg hk15 hb hN i _ (List.getElem?_eq_getElem li) cp H l hw
  obtain ⟨E',H',h3,h4⟩ := ih (i + 1) H1 _ (by omega) h1
  rw [List.drop_eq_getElem_cons li,List.foldl_cons]
  refine ⟨E',H',h3,?_⟩
  push_cast at h4
  rw [Brun_loop,h2,bthen_normal,h4]
end
theorem whole_law (rows : List TR) (c0 : Cap) (id : Int) (hcap : ∀ w ∈ rows,w.cap = .no) (hsz : ∀ w ∈ rows,w.tag.length ≤ 1048576 ∧ w.mem.length ≤ 16777216 ∧ ∀ m ∈ w.mem,m.1.length ≤ 1048576) (hlen : rows.length ≤ 16777216) (H : Heap) :
  ∃ G',Ccall tab 5 [.is (rows.map trow) c0,.int .i64 id] H = some (.bool true,G') := by
 obtain ⟨G,k1,hB⟩ := both_ok [] rows .no hcap hsz hlen
 have hh := heads_ok
 refine ⟨H,Ccall_own rfl rfl rfl rfl ?_⟩
 rcases hB with ⟨T,R,M,C,cap,es,ck,hat,hb⟩ | hb
 ·obtain ⟨rho,F,hx,he,hl⟩ := tbl_of hcap (fun w hw => (hsz w hw).2.1) hat.acc
  have ht := hat.tab
  have hC := hat.ref
  rw [← hl] at ht
  have hrec := rrecord_ok hC id
  have hkind : kindS rows id = kindS (tabOf rows) id := by
   have := kind_erase (tabOf rows)
   rw [he] at this
   exact congrFun this id
  by_cases hk : kindS rows id = 15 ∨ kindS rows id = 16
  ·rw [show decide (kindS rows id = 15 ∨ kindS rows id = 16) = true by simpa using hk] at hrec
   obtain ⟨Y1,s1⟩ := size_ok hx G ht id
   obtain ⟨Y2,g1,g2⟩ := gaps_ok hx (G ++ Y1) (ht.app _) id
   obtain ⟨Y3,p1,p2⟩ := places_ok hx (G ++ (Y1 ++ Y2)) (ht.app _) id
   unfold sizE at s1
   have hrS : recS (tabOf rows) id = true := by unfold recS; rw [← hkind]; simpa using hk
   unfold plaE at p1 p2
   rw [if_pos hrS] at p1 p2
   by_cases h0 : begE (tabOf rows) F id = 0
   ·rw [if_pos h0] at p1 p2 s1
    rw [h0] at s1
    obtain ⟨cp,p2⟩ := p2 rfl
    obtain ⟨cg,g2⟩ := g2 h0
    obtain ⟨q1,q2,q3⟩ := beg_has h0
    unfold hasS at q1
    cases hg : getT (tabOf rows) id with
    | none => rw [hg] at q1; cases q1
    | some r =>
     have hk15 : r.kind = 15 ∨ r.kind = 16 := by
      rw [hkind] at hk
      unfold kindS at hk
      rw [hg] at hk
      exact hk
     have hr := rec_ok hx hg hk15 h0
     have lo := hr.lo
     have hi := hr.hi
     obtain ⟨N,hN⟩ : ∃ N : Nat,(N : Int) = 8 * (layF (tabOf rows) F id).size := ⟨(8 * (layF (tabOf rows) F id).size).toNat,by omega⟩
     obtain ⟨gs,hgs⟩ : ∃ gs,gs = gapsF (tabOf rows) F (rho id.toNat + 1) id := ⟨_,rfl⟩
     have hgo := gapsF_ok hx h0 (rho id.toNat + 1)
     rw [← hgs] at g2 hgo
     rw [← hN] at hgo
     have hgl : gs.length ≤ 200000 := by
      have key : ∀ (l : List GapT) (last : Int),gapsOK N last l → -1 ≤ last → (l.length : Int) ≤ max 0 (N - last) := by
       intro l
       induction l with
       | nil => intro last _ _; simp; omega
       | cons g r ih =>
        intro last h h0
        obtain ⟨h1,h2,h3,h4⟩ := h
        have := ih _ h4 (by omega)
        simp only [List.length_cons]
        omega
      have := key gs (-1) hgo (by omega)
      omega
     obtain ⟨H3,hH3⟩ : ∃ H3 : Heap,H3 = G ++ (Y1 ++ (Y2 ++ Y3)) := ⟨_,rfl⟩
     have gS : ∀ y z,(H3 ++ (y :: z))[H3.length]? = some y := fun y z => by rw [List.getElem?_append_right (Nat.le_refl _),Nat.sub_self]; rfl
     obtain ⟨E1,l1⟩ := on_loop (H3 ++ [.cells (boC (List.replicate N false))]) H3.length (by simp) (N := N) (by omega) gs cg (.int .i64 id) (.mp T 0) (.mp C 0) (.int .i64 (layF (tabOf rows) F id).size) (.is (plRows (layF (tabOf rows) F id).pl) cp) gs.length 0 (-1) (List.replicate N false) (by simp) (by omega) hgl (by omega) hgo
     rw [set_same (gS _ _),List.drop_zero,List.set_append_right _ _ (Nat.le_refl _),Nat.sub_self] at l1
     obtain ⟨on,hon⟩ : ∃ on,on = doM (List.replicate N false) gs := ⟨_,rfl⟩
     rw [← hon] at l1
     have honl : on.length = N := by rw [hon,doM_len,List.length_replicate]
     have ht3 : TabAt H3 T R M (tabOf rows).length false (tabOf rows) := by rw [hH3]; exact ht.app _
     have hC3 : H3[C]? = some (.cells [.is (rows.map trow) cap]) := by rw [hH3]; exact rapp hC _
     have uT := (List.getElem?_eq_some_iff.1 ht3.t0).1
     have uR := (List.getElem?_eq_some_iff.1 ht3.r0).1
     have uC := (List.getElem?_eq_some_iff.1 hC3).1
     have gU : ∀ y z,(H3 ++ [y,z])[H3.length + 1]? = some z := fun y z => by rw [List.getElem?_append_right (by omega),Nat.add_sub_cancel_left]; rfl
     have hw : WhI (tabOf rows) T R M C H3.length (H3.length + 1) N cap on (H3 ++ [.cells (boC on),.cells (boC (List.replicate N false))]) (List.replicate N false) := by
      exact ⟨ht3.app _,by rw [he]; exact rapp hC3 _,gS _ _,gU _ _,⟨by omega,by omega,by omega,by omega⟩,List.length_replicate,honl⟩
     obtain ⟨E2,H5,k2,k3⟩ := had_all hx hg hk15 h0 hN cp (layF (tabOf rows) F id).pl.length 0 _ _ (by omega) hw
     rw [List.drop_zero] at k2
     obtain ⟨had,hhad⟩ : ∃ had,had = (layF (tabOf rows) F id).pl.foldl (hadP (tabOf rows) F rho r) (List.replicate N false) := ⟨_,rfl⟩
     rw [← hhad] at k2
     obtain ⟨E3,k4⟩ := eq_loop (N := N) (by omega) on had k2.onm k2.had k2.ln.2 k2.ln.1 (fun k hk => by rw [hon,hhad,hgs]; exact whole_pl hx hg hk15 h0 N k hN hk) N 0 (by omega)
     have e2 : ¬ (layF (tabOf rows) F id).size < 1 := by omega
     have e3 : ¬ 16384 < (layF (tabOf rows) F id).size := by omega
     have w1 : IntKind.i64.wrap (8 * (layF (tabOf rows) F id).size) = (N : Int) := by rw [← hN]; exact IntWalk.i64_in _ (by omega)
     have v1 : roomy N 1 = true := by unfold roomy; simp only [decide_eq_true_eq]; omega
     have v2 : (N : Int) ≤ 9223372036854775807 := by omega
     have v3 : (0 : Int) ≤ N := by omega
     have hz := boC_zero N
     simp only [Int.natCast_zero,List.set_cons_zero] at l1 k3 k4
     have hH3' : H3.length = G.length + (Y1.length + (Y2.length + Y3.length)) := by rw [hH3]; simp
     have eH3 : ∀ y,G ++ (Y1 ++ (Y2 ++ (Y3 ++ y))) = H3 ++ y := fun y => by rw [hH3]; simp
     rw [hH3'] at k3 k4 l1
     simp only [List.append_assoc,List.cons_append,List.nil_append,List.append_nil] at *
     rw [← hH3] at p2
     generalize plRows (layF (tabOf rows) F id).pl = PL at *
     generalize layF (tabOf rows) F id = le at *
     generalize rows.map trow = X at *
     generalize boC (List.replicate N false) = ZC at *
     generalize gapRows gs = GR at *
     generalize boC on = OC at *
     clear hcap hsz hlen k1 hat hx he hl ht hC hkind hk p1 hrS h0 q1 q2 q3 hg hk15 hr g1 hgs hgo hgl hon honl ht3 hC3 uT uR uC hw k2 hhad lo hi hN hH3
     repeat (any_goals first | simp (dsimp := false) (maxSteps := 4000000) (maxDischargeDepth := 8) (implicitDefEqProofs := false) [*,-Int.not_le,-Int.not_lt,amLt,f5q13,f5q19,f5q27,f5q44,f5q49,app_get,app_get0,app_set,app_set0] | with_reducible (first | apply cB | apply iB) <;> intro _ | intro _)
   ·rw [if_neg h0] at p1 p2 s1
    replace p1 := p1 h0
    replace g1 := g1 h0
    generalize begE (tabOf rows) F id = e at *
    generalize rows.map trow = X at *
    clear hcap hsz hlen k1 hat hx he hl ht hC hkind hk p2 hrS g2
    simp only [List.append_assoc] at *
    repeat (any_goals first | simp (dsimp := false) (maxSteps := 4000000) (maxDischargeDepth := 8) (implicitDefEqProofs := false) [*,-Int.not_le,-Int.not_lt,amLt,f5q13,f5q19,f5q27,f5q44,f5q49] | with_reducible (first | apply cB | apply iB) <;> intro _ | intro _)
  ·rw [show decide (kindS rows id = 15 ∨ kindS rows id = 16) = false by simpa using hk] at hrec
   generalize rows.map trow = X at *
   clear hcap hsz hlen k1 hat hx he hl ht hC hkind hk
   repeat (any_goals first | simp (dsimp := false) (maxSteps := 4000000) (maxDischargeDepth := 8) (implicitDefEqProofs := false) [*,-Int.not_le,-Int.not_lt,amLt,f5q13,f5q19,f5q27,f5q44,f5q49] | with_reducible (first | apply cB | apply iB) <;> intro _ | intro _)
 ·generalize rows.map trow = X at *
  clear hcap hsz hlen k1
  repeat (any_goals first | simp (dsimp := false) (maxSteps := 4000000) (maxDischargeDepth := 8) (implicitDefEqProofs := false) [*,-Int.not_le,-Int.not_lt,amLt,f5q13,f5q19,f5q27,f5q44,f5q49] | with_reducible (first | apply cB | apply iB) <;> intro _ | intro _)
theorem whole_args : ∀ xs,ArgsL 1048576 f5s xs → ∃ h',Ccall tab 5 xs [] = some (.bool true,h') := by
 intro xs hxs
 obtain ⟨x,_,rfl,h1,y,_,rfl,h2,rfl⟩ := hxs
 obtain ⟨rows,rfl,hl,hw⟩ := arg_rows h1
 obtain ⟨id,rfl,_⟩ := arg_int h2
 obtain ⟨g1,g2⟩ := trok_sz hw
 exact whole_law rows .no id g1 g2 (by omega) []
end Go.Proofs.YtfhijkapcdmdnaaDoor
