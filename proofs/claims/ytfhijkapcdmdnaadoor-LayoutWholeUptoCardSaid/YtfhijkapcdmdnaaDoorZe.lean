/- What something in an object has; gaps. -/
import Derived.Test.YtfhijkapcdmdnaaDoorZd
import Derived.Test.YtfhijkapcdmdnaaDoorHd
import Derived.Test.YtfhijkapcdmdnaaDoorAmW
namespace Go.Proofs.YtfhijkapcdmdnaaDoor
open Go.AM
set_option maxRecDepth 20000
set_option maxHeartbeats 4000000
set_option linter.unusedSimpArgs false
set_option linter.unusedVariables false
attribute [local congr] andF_cg onF_cg bthen_cg bkeep_cg bcond_cg guardV_cg putF_cg guardF_cg ite_cg stepsF_cg
attribute [local simp] Brun_skip Brun_exit Brun_ret Brun_seq Brun_cond Brun_block Brun_region bthen_normal bthen_ret bthen_exit bblock_normal bblock_ret bblock_exit bkeep_some andF_some onF_some onF_none guardF_none guardF_some guardV_tup putF_some putF_none stepsF_nil stepsF_cons upd_apply ofL_cons ofL_nil bown_normal bown_ret banswer_normal banswer_ret aresults ares List.replicate stepF_call stepF_callD stepF_move stepF_pick stepF_alloc stepF_allocV stepF_box stepF_boxV stepF_build stepF_buildSlice stepF_buildSliceV stepF_load stepF_store stepF_nilCheck stepF_bin stepF_eq stepF_un stepF_conv stepF_strId strIdV_str strIdV_int stepF_toStr stepF_toBytes stepF_fn stepF_mkSlice stepF_slice stepF_strSlice stepF_fieldAddr stepF_field stepF_idxAddr stepF_idxArr stepF_index stepF_strIndex stepF_extract stepF_len0 stepF_len1 stepF_min stepF_max stepF_append stepF_appendF appF_none appF_row stepF_mkMap stepF_mkIface stepF_lookup stepF_mapUpdate stepF_ext aext_idx aext_count aext_same cellsF newF abin_add abin_sub abin_mul abin_quo abin_rem abin_eql abin_neq abin_lss abin_leq abin_gtr abin_geq abin_and abin_or abin_xor abin_shl abin_shr abin_seql abin_sneq aun_not aun_neg aeq_bool aeq_agg eqCells_nil eqCells_int eqCells_bool eqCells_str cellsOf_agg cellsOf_int cellsOf_bool cellsOf_str cellsOf_is cellsOf_ms cellsOf_fn cellsOf_nilp cellsOf_mp cellsOf_mm cellsOf_nilm cellsOf_nili cellsOf_ifc cellsOf_ip cget_one cget_agg ev_t ev_c fillp_nil fillp_cons isSc_int isSc_bool isSc_str isSc_is isSc_ms isSc_fn isSc_mm isSc_mp isSc_ip isSc_nilp isSc_nilm isSc_nili isSc_nilf isSc_ifc splice chunk strip strip.stripL imm imm.immL Areify_int Areify_bool Areify_str Areify_is Areify_nilp Areify_tup Areify_agg AreifyL andF_chi andF_ch onF_chi onF_ch bthen_ch bthen_chi bblock_ch bblock_chi bkeep_ch bkeep_chi bown_ch bown_chi banswer_ch banswer_chi isSome_ch bcond_ch guardV_ch1 guardV_ch0 chF_true chF_false chF_not
attribute [local simp ↓] andF_some andF_chi andF_ch onF_some onF_none onF_chi onF_ch bthen_normal bthen_ret bthen_exit bthen_ch bthen_chi bblock_normal bblock_ret bblock_exit bblock_ch bblock_chi bkeep_some bkeep_ch bkeep_chi bown_normal bown_ret bown_ch bown_chi banswer_normal banswer_ret banswer_ch banswer_chi bcond_ch guardV_ch1 guardV_ch0 guardV_tup guardF_none guardF_some putF_some putF_none stepsF_nil stepsF_cons chF_true chF_false Brun_seq Brun_cond Brun_block Brun_region Brun_skip Brun_ret Brun_exit stepF_call stepF_callD stepF_move stepF_pick stepF_alloc stepF_allocV stepF_box stepF_boxV stepF_build stepF_buildSlice stepF_buildSliceV stepF_load stepF_store stepF_nilCheck stepF_bin stepF_eq stepF_un stepF_conv stepF_strId stepF_toStr stepF_toBytes stepF_fn stepF_mkSlice stepF_slice stepF_strSlice stepF_fieldAddr stepF_field stepF_idxAddr stepF_idxArr stepF_index stepF_strIndex stepF_extract stepF_len0 stepF_len1 stepF_min stepF_max stepF_append stepF_appendF stepF_mkMap stepF_mkIface stepF_lookup stepF_mapUpdate stepF_ext
set_option maxHeartbeats 4000000
section
variable {t : List TR} {rho : Nat → Nat} {F T R M : Nat}
structure RecOK (t : List TR) (F : Nat) (id : Int) (r : TR) : Prop where
 al : (layF t F id).align = 1 ∨ (layF t F id).align = 2 ∨ (layF t F id).align = 4
 lo : 1 ≤ (layF t F id).size
 hi : (layF t F id).size ≤ 16384
 md : (layF t F id).size % (layF t F id).align = 0
 pl : ∀ p ∈ (layF t F id).pl,PlOK (layF t F) r.mem (8 * (layF t F id).size) (layF t F id).align p ∧ begE t F p.ty = 0
 ap : r.kind = 15 → (layF t F id).pl.Pairwise fun a b => hiP (layF t F) a ≤ loP b
 un : r.kind = 16 → ∀ p ∈ (layF t F id).pl,p.off = 0 ∧ p.bit = 0
 ml : r.mem.length ≤ 64
 nl : (layF t F id).pl.length ≤ r.mem.length
theorem foldS_len (E : Int → LayT) : ∀ (l : List Mem) (i : Nat) (s : AtT),(foldS E i l s).pl.length ≤ s.pl.length + l.length := by
 intro l
 induction l with
 | nil => intro i s; simp [foldS]
 | cons m r ih =>
  intro i s
  have h1 := ih (i + 1) (stepS E s i m)
  have h2 : (stepS E s i m).pl.length ≤ s.pl.length + 1 := by
   unfold stepS
   split
   ·simp
   ·split
    ·simp
    ·simp
  simp only [foldS,List.length_cons]
  omega
theorem foldU_len (E : Int → LayT) : ∀ (l : List Mem) (i : Nat) (s : LayT),(foldU E i l s).pl.length ≤ s.pl.length + l.length := by
 intro l
 induction l with
 | nil => intro i s; simp [foldU]
 | cons m r ih =>
  intro i s
  have h1 := ih (i + 1) (stepU E s i m)
  have h2 : (stepU E s i m).pl.length ≤ s.pl.length + 1 := by
   unfold stepU
   split
   ·simp
   ·split
    ·simp
    ·simp
  simp only [foldU,List.length_cons]
  omega
theorem rec_ok (hx : Tbl t rho F) {id : Int} {r : TR} (hg : getT t id = some r) (hk : r.kind = 15 ∨ r.kind = 16) (hb : begE t F id = 0) : RecOK t F id r := by
 obtain ⟨q1,q2,q3⟩ := beg_has hb
 have hmem : r ∈ t := List.mem_of_getElem? (getT_some hg).2
 have hd : r.done = true := by
  unfold wholeS at q2
  rw [hg] at q2
  dsimp only at q2
  unfold wholeR at q2
  rw [if_neg (by omega),if_neg (by omega),if_pos hk] at q2
  exact q2
 obtain ⟨e1,e2,e3⟩ := lay_rec hx.acc hx.rank hx.hF hg hk hd q3
 have hfit := mems_fit hx.acc hx.rank hx.hF hmem hd
 obtain ⟨hl64,hwm⟩ := mem_ok (ha := hx.acc) hmem hd
 have hme := hx.acc.mems r hmem hd
 have hhas : ∀ m ∈ r.mem,hasS t m.2.1 = true := fun m hm => by
  unfold membersE at hme
  split at hme
  ·cases hme
  ·exact (memsE_has hme m hm).1
 have hbeg : ∀ m ∈ r.mem,begE t F m.2.1 = 0 := fun m hm => by
  unfold begE
  rw [if_neg (by rw [hhas m hm]; simp),if_neg (by rw [hwm m hm]; simp),if_neg (by rw [e3 m hm]; simp)]
 have hpb : ∀ (pos al : Int) (p : PlT),PlOK (layF t F) r.mem pos al p → begE t F p.ty = 0 := fun pos al p h => by
  obtain ⟨k,m,_,g2,g3,_⟩ := h.mem
  rw [← g3]; exact hbeg m (List.mem_of_getElem? g2)
 rcases hk with k | k
 ·have hraw : layF t F id = structL (layF t F) r.mem := by rw [e1]; unfold rawL; rw [if_neg (by omega),if_pos k]
  obtain ⟨s1,s2,s3,s4,s5⟩ := struct_ok hfit
  have hnl := foldS_len (layF t F) r.mem 0 ⟨0,1,[]⟩
  rw [← hraw] at s1 s2 s3 s4 s5
  refine ⟨s1,s2,e2,s3,fun p hp => ⟨s4 p hp,hpb _ _ p (s4 p hp)⟩,fun _ => s5,fun q => by omega,hl64,?_⟩
  rw [hraw]; unfold structL; simpa using hnl
 ·have hraw : layF t F id = unionL (layF t F) r.mem := by rw [e1]; unfold rawL; rw [if_neg (by omega),if_neg (by omega),if_pos k]
  obtain ⟨s1,s2,s3,s4⟩ := union_ok hfit
  have hnl := foldU_len (layF t F) r.mem 0 ⟨1,1,[]⟩
  rw [← hraw] at s1 s2 s3 s4
  refine ⟨s1,s2,e2,s3,fun p hp => ⟨(s4 p hp).1,hpb _ _ p (s4 p hp).1⟩,fun q => by omega,fun _ p hp => (s4 p hp).2,hl64,?_⟩
  rw [hraw]; unfold unionL; simpa using hnl
end
theorem basicR_erase (i : Nat) (r : TR) : basicR i (eraseT r) = basicR i r := rfl
theorem shapedR_erase (i : Nat) (r : TR) : shapedR i (eraseT r) = shapedR i r := rfl
theorem twice_erase (t : List TR) (i : Nat) (r : TR) : twiceS (t.map eraseT) i (eraseT r) = twiceS t i r := by
 unfold twiceS
 rw [← List.map_take,List.any_map]
 rfl
theorem acc_erase {t : List TR} (h : AccP (t.map eraseT)) : AccP t := by
 have hl : (t.map eraseT).length = t.length := List.length_map ..
 have get : ∀ (i : Nat) (r : TR),t[i]? = some r → (t.map eraseT)[i]? = some (eraseT r) := fun i r hi => by rw [List.getElem?_map,hi]; rfl
 have mem : ∀ r ∈ t,eraseT r ∈ t.map eraseT := fun r hr => List.mem_map.2 ⟨r,hr,rfl⟩
 refine ⟨by rw [← hl]; exact h.lo,by rw [← hl]; exact h.hi,fun i r hi hlt => ?_,fun i r hi hge => ?_,fun r hr hk => ?_,fun r hr hd => ?_,?_⟩
 ·rw [← basicR_erase]; exact h.basic i _ (get i r hi) hlt
 ·rw [← shapedR_erase,← twice_erase]; exact h.row i _ (get i r hi) hge
 ·have := h.whole _ (mem r hr) hk
  rw [whole_erase] at this; exact this
 ·have := h.mems _ (mem r hr) hd
  rw [whole_erase,kind_erase,has_erase] at this; exact this
 ·obtain ⟨rho,hr⟩ := h.rank
  refine ⟨rho,fun i w hi d hd => ?_⟩
  have := hr i _ (get i w hi) d hd
  rw [hl] at this; exact this
theorem rho_bound (rho : Nat → Nat) : ∀ n,∃ F,∀ i,i < n → rho i < F := by
 intro n
 induction n with
 | zero => exact ⟨0,fun i h => by omega⟩
 | succ n ih =>
  obtain ⟨F,hF⟩ := ih
  refine ⟨max F (rho n + 1),fun i hi => ?_⟩
  by_cases e : i = n
  ·subst e; omega
  ·have := hF i (by omega); omega
theorem tbl_of {rows : List TR} (hcap : ∀ w ∈ rows,w.cap = .no) (hsz : ∀ w ∈ rows,w.mem.length ≤ 16777216) (ha : AccR rows) : ∃ rho F,Tbl (tabOf rows) rho F ∧ (tabOf rows).map eraseT = rows ∧ (tabOf rows).length = rows.length := by
 have hp := acc_imp ha
 have he := tab_erase hcap hp
 have hacc : AccP (tabOf rows) := acc_erase (by rw [he]; exact hp)
 obtain ⟨rho,hr⟩ := hacc.rank
 obtain ⟨F,hF⟩ := rho_bound rho (tabOf rows).length
 refine ⟨rho,F,⟨hacc,hr,hF,fun w hw => ?_⟩,he,tab_len hcap hp⟩
 have : eraseT w ∈ rows := by rw [← he]; exact List.mem_map.2 ⟨w,hw,rfl⟩
 show (eraseT w).mem.length ≤ 16777216
 exact hsz _ this
theorem mems_of (B : Nat) : ∀ (l : List (List AV)),(∀ r ∈ l,∃ nm ty bits,r = [.str nm,.int .i64 ty,.int .i64 bits] ∧ nm.length ≤ B) → ∃ ms : List Mem,l = memRows ms ∧ ∀ m ∈ ms,m.1.length ≤ B := by
 intro l
 induction l with
 | nil => intro _; exact ⟨[],rfl,fun m hm => by cases hm⟩
 | cons r t ih =>
  intro h
  obtain ⟨nm,ty,bits,rfl,hn⟩ := h r List.mem_cons_self
  obtain ⟨ms,rfl,hm⟩ := ih fun q hq => h q (List.mem_cons_of_mem _ hq)
  exact ⟨(nm,ty,bits) :: ms,rfl,fun m hq => by
   rcases List.mem_cons.1 hq with rfl | hq
   ·exact hn
   ·exact hm m hq⟩
def TRok (B : Nat) (w : TR) : Prop := w.cap = .no ∧ w.tag.length ≤ B ∧ w.mem.length ≤ B ∧ ∀ m ∈ w.mem,m.1.length ≤ B
theorem rows_of (B : Nat) : ∀ (l : List (List AV)),(∀ r ∈ l,∃ (k e n : Int) (tg : List UInt8) (ms : List (List AV)) (b : Bool),r = [.int .i64 k,.int .i64 e,.int .i64 n,.str tg,.is ms .no,.bool b] ∧ tg.length ≤ B ∧ ms.length ≤ B ∧ ∀ q ∈ ms,∃ nm ty bits,q = [.str nm,.int .i64 ty,.int .i64 bits] ∧ nm.length ≤ B) →
  ∃ rows : List TR,l = rows.map trow ∧ ∀ w ∈ rows,TRok B w := by
 intro l
 induction l with
 | nil => intro _; exact ⟨[],rfl,fun m hm => by cases hm⟩
 | cons r t ih =>
  intro h
  obtain ⟨k,e,n,tg,ms,b,rfl,h1,h2,h3⟩ := h r List.mem_cons_self
  obtain ⟨rows,rfl,hr⟩ := ih fun q hq => h q (List.mem_cons_of_mem _ hq)
  obtain ⟨l,rfl,hl⟩ := mems_of B ms h3
  rw [memRows_len] at h2
  exact ⟨⟨k,e,n,tg,l,b,.no⟩ :: rows,rfl,fun w hq => by
   rcases List.mem_cons.1 hq with rfl | hq
   ·exact ⟨rfl,h1,h2,hl⟩
   ·exact hr w hq⟩
abbrev rowSh : Sh := .st [(.int .i64),(.int .i64),(.int .i64),.str,(.sl (.st [.str,(.int .i64),(.int .i64)])),.bool]
theorem arg_rows {B : Nat} {x : AV} (h : (Sh.sl rowSh).Arg B x) : ∃ rows : List TR,x = .is (rows.map trow) .no ∧ rows.length ≤ B ∧ ∀ w ∈ rows,TRok B w := by
 simp only [Sh.Arg,Sh.Row,RowL] at h
 obtain ⟨l,hx,hl,hr⟩ := h
 simp only [List.cons.injEq,and_true] at hx
 subst hx
 obtain ⟨rows,rfl,hw⟩ := rows_of B l fun q hq => by
  obtain ⟨_,_,rfl,⟨k,_,rfl⟩,_,_,rfl,⟨e,_,rfl⟩,_,_,rfl,⟨n,_,rfl⟩,_,_,rfl,⟨tg,ht,rfl⟩,_,_,rfl,⟨ms,rfl,hml,hmr⟩,_,_,rfl,⟨b,rfl⟩,rfl⟩ := hr q hq
  refine ⟨k,e,n,tg,ms,b,rfl,ht,hml,fun z hz => ?_⟩
  obtain ⟨_,_,rfl,⟨nm,hn,rfl⟩,_,_,rfl,⟨ty,_,rfl⟩,_,_,rfl,⟨bits,_,rfl⟩,rfl⟩ := hmr z hz
  exact ⟨nm,ty,bits,rfl,hn⟩
 rw [List.length_map] at hl
 exact ⟨rows,rfl,hl,hw⟩
theorem arg_int {B : Nat} {x : AV} (h : (Sh.int .i64).Arg B x) : ∃ n : Int,x = .int .i64 n ∧ (Lit.int .i64 n).wf = true := by
 simp only [Sh.Arg,Sh.Row] at h
 obtain ⟨n,hn,hx⟩ := h
 simp only [List.cons.injEq,and_true] at hx
 exact ⟨n,hx,hn⟩
theorem trok_sz {rows : List TR} (h : ∀ w ∈ rows,TRok 1048576 w) : (∀ w ∈ rows,w.cap = .no) ∧ ∀ w ∈ rows,w.tag.length ≤ 1048576 ∧ w.mem.length ≤ 16777216 ∧ ∀ m ∈ w.mem,m.1.length ≤ 1048576 :=
 ⟨fun w hw => (h w hw).1,fun w hw => ⟨(h w hw).2.1,by have := (h w hw).2.2.1; omega,(h w hw).2.2.2⟩⟩
theorem plrow_at {l : List PlT} {i : Nat} {p : PlT} (h : l[i]? = some p) : (plRows l)[i]? = some (plRow p) := by
 unfold plRows
 rw [List.getElem?_map,h]
 rfl
theorem pldrop_cons {l : List PlT} {k : Nat} {p : PlT} (h : l[k]? = some p) : l.drop k = p :: l.drop (k + 1) := by
 obtain ⟨h1,h2⟩ := List.getElem?_eq_some_iff.1 h
 rw [List.drop_eq_getElem_cons h1,h2]
abbrev GapT := Int × Int
def runsB : Nat → Option Nat → List Bool → List GapT
 | _,_,[] => []
 | i,none,false :: r => runsB (i + 1) (some i) r
 | i,none,true :: r => runsB (i + 1) none r
 | i,some f,false :: r => runsB (i + 1) (some f) r
 | i,some f,true :: r => ((f : Int),((i - f : Nat) : Int)) :: runsB (i + 1) none r
def inG (k : Nat) (g : GapT) : Prop := g.1 ≤ k ∧ (k : Int) < g.1 + g.2
theorem runs_lo : ∀ (l : List Bool) (i : Nat) (fr : Option Nat),(∀ f,fr = some f → f < i) → ∀ g ∈ runsB i fr l,(match fr with | none => (i : Int) | some f => f) ≤ g.1 ∧ 1 ≤ g.2 ∧ g.1 + g.2 ≤ (i + l.length : Nat) - 1 := by
 intro l
 induction l with
 | nil => intro i fr _ g hg; cases fr <;> cases hg
 | cons b r ih =>
  intro i fr hf g hg
  cases fr with
  | none =>
   cases b with
   | false =>
    simp only [runsB] at hg
    have := ih (i + 1) (some i) (fun f e => by cases e; omega) g hg
    simp only [List.length_cons] at this ⊢
    omega
   | true =>
    simp only [runsB] at hg
    have := ih (i + 1) none (fun f e => by cases e) g hg
    simp only [List.length_cons] at this ⊢
    omega
  | some f =>
   have hfi := hf f rfl
   cases b with
   | false =>
    simp only [runsB] at hg
    have := ih (i + 1) (some f) (fun f' e => by cases e; omega) g hg
    simp only [List.length_cons] at this ⊢
    omega
   | true =>
    simp only [runsB,List.mem_cons] at hg
    rcases hg with rfl | hg
    ·simp only [List.length_cons]; omega
    ·have := ih (i + 1) none (fun f e => by cases e) g hg
     simp only [List.length_cons] at this ⊢
     omega
theorem runs_mem : ∀ (l : List Bool) (i : Nat) (fr : Option Nat),(∀ f,fr = some f → f < i) → ∀ k : Nat,i ≤ k → k < i + l.length → l.getLast? = some true → ((∃ g ∈ runsB i fr l,inG k g) ↔ l[k - i]? = some false) := by
 intro l
 induction l with
 | nil => intro i fr _ k h1 h2; simp at h2; omega
 | cons b r ih =>
  intro i fr hf k h1 h2 hlast
  have hr : r ≠ [] → r.getLast? = some true := fun hne => by
   cases r with
   | nil => exact absurd rfl hne
   | cons y z => rw [List.getLast?_cons_cons] at hlast; exact hlast
  have go : ∀ fr',(∀ f,fr' = some f → f < i + 1) → i + 1 ≤ k → ((∃ g ∈ runsB (i + 1) fr' r,inG k g) ↔ r[k - (i + 1)]? = some false) := fun fr' h3 h4 => by
   have hne : r ≠ [] := by rintro rfl; simp at h2; omega
   exact ih (i + 1) fr' h3 k h4 (by simp only [List.length_cons] at h2; omega) (hr hne)
  have ix : i + 1 ≤ k → (b :: r)[k - i]? = r[k - (i + 1)]? := fun h => by
   rw [show k - i = (k - (i + 1)) + 1 by omega,List.getElem?_cons_succ]
  by_cases hk : k = i
  ·subst hk
   rw [Nat.sub_self,List.getElem?_cons_zero]
   cases b with
   | true =>
    refine ⟨fun ⟨g,hg,hin⟩ => ?_,fun h => by cases h⟩
    exfalso
    unfold inG at hin
    cases fr with
    | none =>
     simp only [runsB] at hg
     have := runs_lo r (k + 1) none (fun f e => by cases e) g hg
     simp only at this
     omega
    | some f =>
     have hfi := hf f rfl
     simp only [runsB,List.mem_cons] at hg
     rcases hg with rfl | hg
     ·simp only at hin; omega
     ·have := runs_lo r (k + 1) none (fun f e => by cases e) g hg
      simp only at this
      omega
   | false =>
    refine ⟨fun _ => rfl,fun _ => ?_⟩
    have hne : r ≠ [] := by rintro rfl; simp at hlast
    have key : ∀ (r : List Bool) (j f : Nat),f ≤ k → k < j → r.getLast? = some true → ∃ g ∈ runsB j (some f) r,inG k g := by
     intro r
     induction r with
     | nil => intro j f _ _ h; cases h
     | cons y z ihz =>
      intro j f h3 h4 h5
      cases y with
      | true => exact ⟨_,by simp only [runsB]; exact List.mem_cons_self,by unfold inG; simp only; omega⟩
      | false =>
       have : z ≠ [] := by rintro rfl; simp at h5
       have h6 : z.getLast? = some true := by
        cases z with
        | nil => exact absurd rfl this
        | cons u v => rw [List.getLast?_cons_cons] at h5; exact h5
       obtain ⟨g,g1,g2⟩ := ihz (j + 1) f h3 (by omega) h6
       exact ⟨g,by simp only [runsB]; exact g1,g2⟩
    cases fr with
    | none =>
     obtain ⟨g,g1,g2⟩ := key r (k + 1) k (Nat.le_refl _) (by omega) (hr hne)
     exact ⟨g,by simp only [runsB]; exact g1,g2⟩
    | some f =>
     have hfi := hf f rfl
     obtain ⟨g,g1,g2⟩ := key r (k + 1) f (by omega) (by omega) (hr hne)
     exact ⟨g,by simp only [runsB]; exact g1,g2⟩
  ·have hik : i + 1 ≤ k := by omega
   rw [ix hik]
   cases fr with
   | none =>
    cases b with
    | false => simp only [runsB]; exact go (some i) (fun f e => by cases e; omega) hik
    | true => simp only [runsB]; exact go none (fun f e => by cases e) hik
   | some f =>
    have hfi := hf f rfl
    cases b with
    | false => simp only [runsB]; exact go (some f) (fun f' e => by cases e; omega) hik
    | true =>
     simp only [runsB,List.mem_cons]
     rw [← go none (fun f e => by cases e) hik]
     constructor
     ·rintro ⟨g,rfl | hg,hin⟩
      ·exfalso; unfold inG at hin; simp only at hin; omega
      ·exact ⟨g,hg,hin⟩
     ·rintro ⟨g,hg,hin⟩
      exact ⟨g,.inr hg,hin⟩
def marksF (t : List TR) (F : Nat) : Nat → Int → Int → List GapT
 | 0,_,_ => []
 | f + 1,id,from_ => match getT t id with
  | none => []
  | some x =>
   if x.kind = 14 then (List.range x.len.toNat).flatMap fun (i : Nat) => marksF t F f x.elem (from_ + 8 * (layF t F x.elem).size * (i : Int))
   else if x.kind = 15 ∨ x.kind = 16 then (layF t F id).pl.flatMap fun p => match x.mem[p.mem.toNat]? with
    | none => []
    | some m => if m.2.2 < 0 then marksF t F f p.ty (from_ + 8 * p.off) else if m.1 ≠ [] then [(from_ + 8 * p.off + p.bit,p.bits)] else []
   else [(from_,8 * (layF t F id).size)]
theorem marks_shift (t : List TR) (F : Nat) (d : Int) : ∀ (f : Nat) (id a : Int),marksF t F f id (a + d) = (marksF t F f id a).map fun m => (m.1 + d,m.2) := by
 intro f
 induction f with
 | zero => intro id a; rfl
 | succ f ih =>
  intro id a
  unfold marksF
  cases getT t id with
  | none => rfl
  | some x =>
   simp only
   by_cases k14 : x.kind = 14
   ·rw [if_pos k14,if_pos k14,List.map_flatMap]
    congr 1
    funext i
    rw [← ih]
    congr 1
    omega
   ·rw [if_neg k14,if_neg k14]
    by_cases k15 : x.kind = 15 ∨ x.kind = 16
    ·rw [if_pos k15,if_pos k15,List.map_flatMap]
     congr 1
     funext p
     cases x.mem[p.mem.toNat]? with
     | none => rfl
     | some m =>
      simp only
      by_cases c1 : m.2.2 < 0
      ·rw [if_pos c1,if_pos c1,← ih]
       congr 1
       omega
      ·rw [if_neg c1,if_neg c1]
       by_cases c2 : m.1 ≠ []
       ·rw [if_pos c2,if_pos c2]
        simp only [List.map_cons,List.map_nil,List.cons.injEq,Prod.mk.injEq,and_true]
        omega
       ·rw [if_neg c2,if_neg c2]; rfl
    ·rw [if_neg k15,if_neg k15]; rfl
theorem marks_in {t : List TR} {rho : Nat → Nat} {F : Nat} (hx : Tbl t rho F) : ∀ (f : Nat) (id a : Int),begE t F id = 0 → ∀ m ∈ marksF t F f id a,a ≤ m.1 ∧ 0 ≤ m.2 ∧ m.1 + m.2 ≤ a + 8 * (layF t F id).size := by
 intro f
 induction f with
 | zero => intro id a _ m hm; cases hm
 | succ f ih =>
  intro id a hb m hm
  obtain ⟨q1,q2,q3⟩ := beg_has hb
  unfold marksF at hm
  cases hg : getT t id with
  | none => rw [hg] at hm; cases hm
  | some x =>
   rw [hg] at hm
   simp only at hm
   obtain ⟨_,gi⟩ := getT_some hg
   have fin := (whole_fine hx.acc hx.rank hx.hF (rho id.toNat + 1) id (by omega) q2).1
   have flo := fin.lo
   by_cases k14 : x.kind = 14
   ·rw [if_pos k14] at hm
    obtain ⟨i,hi,hm⟩ := List.mem_flatMap.1 hm
    have hi := List.mem_range.1 hi
    have wel : wholeS t x.elem = true := hx.acc.whole x (List.mem_of_getElem? gi) k14
    obtain ⟨e1,e2⟩ := lay_eq hx.rank hx.hF hg
    rw [e2] at q3
    simp only [Bool.or_eq_false_iff,decide_eq_false_iff_not] at q3
    have be : bigF t F x.elem = false := by
     have := List.any_eq_false.1 q3.2 x.elem (by unfold deps; rw [if_pos k14]; simp)
     simpa using this
    have hbe : begE t F x.elem = 0 := by
     rw [show begE t F x.elem = if bigF t F x.elem = true then 51 else 0 from ?_,be]; rfl
     have h0 : hasS t x.elem = true := by
      unfold wholeS at wel
      unfold hasS
      cases hgd : getT t x.elem with
      | none => rw [hgd] at wel; cases wel
      | some z => rfl
     unfold begE
     rw [if_neg (by rw [h0]; decide),if_neg (by rw [wel]; decide)]
    have fin2 := (whole_fine hx.acc hx.rank hx.hF (rho x.elem.toNat + 1) x.elem (by omega) wel).1
    have := ih x.elem _ hbe m hm
    have er : rawL (layF t F) x = ⟨x.len * (layF t F x.elem).size,(layF t F x.elem).align,[]⟩ := by unfold rawL; rw [if_pos k14]
    have el : (layF t F id).size = x.len * (layF t F x.elem).size := by
     rw [e1]; unfold capL; rw [if_neg q3.1,er]
    rw [el]
    have f2 := fin2.lo
    have m1 : (layF t F x.elem).size * ((i : Int) + 1) ≤ (layF t F x.elem).size * x.len := Int.mul_le_mul_of_nonneg_left (by omega) (by omega)
    have m2 : 0 ≤ (layF t F x.elem).size * (i : Int) := Int.mul_nonneg (by omega) (by omega)
    have m3 : x.len * (layF t F x.elem).size = (layF t F x.elem).size * x.len := Int.mul_comm ..
    have m4 : 8 * (layF t F x.elem).size * (i : Int) = 8 * ((layF t F x.elem).size * i) := Int.mul_assoc ..
    have m5 : (layF t F x.elem).size * ((i : Int) + 1) = (layF t F x.elem).size * i + (layF t F x.elem).size := by rw [Int.mul_add,Int.mul_one]
    rw [m4] at this
    omega
   ·rw [if_neg k14] at hm
    by_cases k15 : x.kind = 15 ∨ x.kind = 16
    ·rw [if_pos k15] at hm
     obtain ⟨p,hp,hm⟩ := List.mem_flatMap.1 hm
     have hr := rec_ok hx hg k15 hb
     obtain ⟨hpk,hpb⟩ := hr.pl p hp
     obtain ⟨kk,mm,r1,r2,r3,r4,r5⟩ := hpk.mem
     have r2' : x.mem[p.mem.toNat]? = some mm := by rw [r1]; exact r2
     rw [r2'] at hm
     simp only at hm
     have h1 := hpk.hi
     have h2 := hpk.off
     have h3 := hpk.bit
     unfold hiP loP at h1
     by_cases c1 : mm.2.2 < 0
     ·rw [if_pos c1] at hm
      have := ih p.ty _ hpb m hm
      rw [if_neg (by omega)] at h1
      omega
     ·rw [if_neg c1] at hm
      by_cases c2 : mm.1 ≠ []
      ·rw [if_pos c2] at hm
       simp only [List.mem_singleton] at hm
       subst hm
       simp only
       have f3 := hpk.fine.lo
       split at h1 <;> omega
      ·rw [if_neg c2] at hm; cases hm
    ·rw [if_neg k15] at hm
     simp only [List.mem_singleton] at hm
     subst hm
     simp only
     omega
def onC (l : List Bool) : List AV := l.map fun b => .int .u8 (if b = true then 1 else 0)
theorem onC_len (l : List Bool) : (onC l).length = l.length := List.length_map ..
theorem onC_set (l : List Bool) (i : Nat) : (onC l).set i (.int .u8 1) = onC (l.set i true) := by
 unfold onC
 rw [List.map_set]
 rfl
def setB : List Bool → Nat → Nat → List Bool
 | l,_,0 => l
 | l,a,m + 1 => setB (l.set a true) (a + 1) m
theorem setB_len : ∀ (m : Nat) (l : List Bool) (a : Nat),(setB l a m).length = l.length := by
 intro m
 induction m with
 | zero => intro l a; rfl
 | succ m ih => intro l a; unfold setB; rw [ih,List.length_set]
theorem setB_get : ∀ (m : Nat) (l : List Bool) (a k : Nat),k < l.length → (setB l a m)[k]? = if a ≤ k ∧ k < a + m then some true else l[k]? := by
 intro m
 induction m with
 | zero => intro l a k h; unfold setB; rw [if_neg (by omega)]
 | succ m ih =>
  intro l a k h
  unfold setB
  rw [ih _ _ _ (by rw [List.length_set]; exact h)]
  by_cases c1 : a + 1 ≤ k ∧ k < a + 1 + m
  ·rw [if_pos c1,if_pos (by omega)]
  ·rw [if_neg c1]
   by_cases c2 : a = k
   ·subst c2
    rw [List.getElem?_set,if_pos rfl,if_pos h,if_pos (by omega)]
   ·rw [List.getElem?_set_ne c2,if_neg (by omega)]
theorem mark_loop (G : Heap) (A O : Nat) (N a m : Nat) (ex : Bool) (hA : G[A]? = some (.cells [.ms O 0 N 1 N ex])) (hne : A ≠ O) (hO : O < G.length) (ham : a + m ≤ N) (hN : N ≤ 200000) : ∀ (n i : Nat) (l : List Bool),l.length = N → i + n = m →
  ∃ E',Brun tab 16 (.loop f37l1) (ofL [(0,.int .i64 a),(2,.mp A 0),(6,.int .i64 m),(7,.int .i64 i)]) (List.set G O (.cells (onC l))) = some (.exit 0,ofL E',List.set G O (.cells (onC (setB l (a + i) n)))) := by
 have gA : ∀ b,(List.set G O b)[A]? = some (.cells [.ms O 0 N 1 N ex]) := fun b => by rw [List.getElem?_set_ne (Ne.symm hne)]; exact hA
 have gO : ∀ b,(List.set G O b)[O]? = some b := fun b => by rw [List.getElem?_set,if_pos rfl,if_pos hO]
 have sO : ∀ b b',(List.set G O b).set O b' = List.set G O b' := fun b b' => List.set_set ..
 intro n
 induction n with
 | zero =>
  intro i l hl hi
  refine ⟨[(0,.int .i64 a),(2,.mp A 0),(6,.int .i64 m),(7,.int .i64 i),(8,.bool false)],?_⟩
  have q1 : ¬ (i : Int) < m := by omega
  have q2 : (m : Int) ≤ i := by omega
  rw [Brun_loop,f37l1_b]
  unfold f37m1 setB
  generalize List.set G O (.cells (onC l)) = G1 at *
  clear hA hne hO ham hN hi hl gA gO sO
  repeat (any_goals first | simp (dsimp := false) (maxSteps := 4000000) (maxDischargeDepth := 8) (implicitDefEqProofs := false) [*,-Int.not_le,-Int.not_lt,amLt] | with_reducible (first | apply cB | apply iB) <;> intro _ | intro _)
 | succ n ih =>
  intro i l hl hi
  obtain ⟨E',h⟩ := ih (i + 1) (l.set (a + i) true) (by rw [List.length_set]; exact hl) (by omega)
  refine ⟨E',?_⟩
  unfold setB
  rw [show a + (i + 1) = a + i + 1 by omega] at h
  rw [← h,Brun_loop,← onC_set]
  push_cast
  generalize Brun tab 16 (.loop f37l1) = L at *
  rw [f37l1_b]
  unfold f37m1
  have q1 : (i : Int) < m := by omega
  have w1 : IntKind.i64.wrap ((i : Int) + 1) = (i : Int) + 1 := IntWalk.i64_in _ (by omega)
  have w2 : IntKind.i64.wrap ((a : Int) + i) = ((a + i : Nat) : Int) := by rw [IntWalk.i64_in _ (by omega)]; omega
  have b1 : ((a + i : Nat) : Int) < N := by omega
  have b2 : (0 : Int) ≤ ((a + i : Nat) : Int) := by omega
  have cl := onC_len l
  rw [hl] at cl
  have b3 : a + i + 1 ≤ (onC l).length := by omega
  have b4 : a + i + 1 ≤ N := by omega
  have b5 : a + i < N := by omega
  have hset : List.take (a + i) (onC l) ++ (.int .u8 1) :: List.drop (a + i + 1) (onC l) = (onC l).set (a + i) (.int .u8 1) := by rw [List.set_eq_take_append_cons_drop,if_pos (by omega)]
  generalize onC l = C at *
  generalize a + i = ai at *
  clear hA hne hO ham hN hi hl ih h
  repeat (any_goals first | simp (dsimp := false) (maxSteps := 4000000) (maxDischargeDepth := 8) (implicitDefEqProofs := false) [*,-Int.not_le,-Int.not_lt,amLt] | with_reducible (first | apply cB | apply iB) <;> intro _ | intro _)
theorem set_same {G : Heap} {O : Nat} {b : Blk} (h : G[O]? = some b) : List.set G O b = G := by
 have hO := (List.getElem?_eq_some_iff.1 h).1
 apply List.ext_getElem?
 intro j
 by_cases e : O = j
 ·subst e; rw [List.getElem?_set,if_pos rfl,if_pos hO]; exact h.symm
 ·rw [List.getElem?_set_ne e]
theorem mark_ok (G : Heap) (A O : Nat) (N a m : Nat) (ex : Bool) (l : List Bool) (hA : G[A]? = some (.cells [.ms O 0 N 1 N ex])) (hO : G[O]? = some (.cells (onC l))) (ham : a + m ≤ N) (hN : N ≤ 200000) (hl : l.length = N) :
  Ccall tab 37 [.int .i64 a,.int .i64 m,.mp A 0] G = some (.tup [],List.set G O (.cells (onC (setB l a m)))) := by
 have hne : A ≠ O := fun e => by
  subst e
  rw [hO] at hA
  simp only [Option.some.injEq,Blk.cells.injEq] at hA
  unfold onC at hA
  cases l with
  | nil => cases hA
  | cons b r => simp at hA
 obtain ⟨E',h⟩ := mark_loop G A O N a m ex hA hne (List.getElem?_eq_some_iff.1 hO).1 ham hN m 0 l hl (by omega)
 rw [set_same hO] at h
 simp only [Int.natCast_zero,Nat.add_zero] at h
 generalize List.set G O (.cells (onC (setB l a m))) = G2 at *
 refine Ccall_over rfl rfl rfl rfl ?_
 clear hA hO ham hN hl hne
 repeat (any_goals first | simp (dsimp := false) (maxSteps := 4000000) (maxDischargeDepth := 8) (implicitDefEqProofs := false) [*,-Int.not_le,-Int.not_lt,amLt] | with_reducible (first | apply cB | apply iB) <;> intro _ | intro _)
def doM (l : List Bool) (ms : List GapT) : List Bool := ms.foldl (fun l m => setB l m.1.toNat m.2.toNat) l
theorem doM_nil (l : List Bool) : doM l [] = l := rfl
theorem doM_cons (l : List Bool) (m : GapT) (r : List GapT) : doM l (m :: r) = doM (setB l m.1.toNat m.2.toNat) r := rfl
theorem doM_app (l : List Bool) (a b : List GapT) : doM l (a ++ b) = doM (doM l a) b := List.foldl_append ..
theorem doM_len : ∀ (ms : List GapT) (l : List Bool),(doM l ms).length = l.length := by
 intro ms
 induction ms with
 | nil => intro l; rfl
 | cons m r ih => intro l; rw [doM_cons,ih,setB_len]
theorem doM_get : ∀ (ms : List GapT) (l : List Bool) (k : Nat),(∀ m ∈ ms,0 ≤ m.1 ∧ 0 ≤ m.2) → k < l.length → ((doM l ms)[k]? = some true ↔ (∃ m ∈ ms,inG k m) ∨ l[k]? = some true) := by
 intro ms
 induction ms with
 | nil => intro l k _ _; simp [doM_nil]
 | cons m r ih =>
  intro l k h hk
  obtain ⟨h1,h2⟩ := h m (by simp)
  rw [doM_cons,ih _ _ (fun x hx => h x (by simp [hx])) (by rw [setB_len]; exact hk),setB_get _ _ _ _ hk]
  have e : (m.1.toNat ≤ k ∧ k < m.1.toNat + m.2.toNat) ↔ inG k m := by unfold inG; omega
  by_cases c : m.1.toNat ≤ k ∧ k < m.1.toNat + m.2.toNat
  ·rw [if_pos c]
   exact ⟨fun _ => .inl ⟨m,by simp,e.1 c⟩,fun _ => .inr rfl⟩
  ·rw [if_neg c]
   constructor
   ·rintro (⟨x,hx,hi⟩ | hl)
    ·exact .inl ⟨x,by simp [hx],hi⟩
    ·exact .inr hl
   ·rintro (⟨x,hx,hi⟩ | hl)
    ·rcases List.mem_cons.1 hx with rfl | hx
     ·exact absurd (e.2 hi) c
     ·exact .inl ⟨x,hx,hi⟩
    ·exact .inr hl
def Ext3 (K M O : Nat) (h h' : Heap) : Prop := h.length ≤ h'.length ∧ ∀ j,j < h.length → j ≠ K → j ≠ M → j ≠ O → h'[j]? = h[j]?
theorem Ext3.trans {K M O : Nat} {a b c : Heap} (p : Ext3 K M O a b) (q : Ext3 K M O b c) : Ext3 K M O a c := ⟨Nat.le_trans p.1 q.1,fun j hj h1 h2 h3 => by rw [q.2 j (Nat.lt_of_lt_of_le hj p.1) h1 h2 h3,p.2 j hj h1 h2 h3]⟩
theorem Ext3.refl (K M O : Nat) (h : Heap) : Ext3 K M O h h := ⟨Nat.le_refl _,fun _ _ _ _ _ => rfl⟩
theorem Ext3.app (K M O : Nat) (h x : Heap) : Ext3 K M O h (h ++ x) := ⟨by simp,fun j hj _ _ _ => by rw [List.getElem?_append_left hj]⟩
theorem Ext2.to3 {K M : Nat} (O : Nat) {a b : Heap} (p : Ext2 K M a b) : Ext3 K M O a b := ⟨p.1,fun j hj h1 h2 _ => p.2 j hj h1 h2⟩
structure HInv (t : List TR) (F T R M K KM A O N : Nat) (ex : Bool) (G : Heap) (l : List Bool) : Prop where
 k : ∃ es ck,KInv t F T R M K KM G es ck false
 a : G[A]? = some (.cells [.ms O 0 N 1 N ex])
 o : G[O]? = some (.cells (onC l))
 ln : l.length = N
 ne : A ≠ K ∧ A ≠ KM ∧ A ≠ O ∧ O ≠ K ∧ O ≠ KM ∧ O ≠ T ∧ O ≠ R
 hN : N ≤ 200000
section
variable {t : List TR} {rho : Nat → Nat} {F T R M K KM A O N : Nat} {ex : Bool}
theorem HInv.app {G : Heap} {l : List Bool} (h : HInv t F T R M K KM A O N ex G l) (x : Heap) : HInv t F T R M K KM A O N ex (G ++ x) l := by
 obtain ⟨es,ck,hk⟩ := h.k
 exact ⟨⟨es,ck,hk.app x⟩,rapp h.a x,rapp h.o x,h.ln,h.ne,h.hN⟩
theorem HInv.look {G G' : Heap} {l : List Bool} (h : HInv t F T R M K KM A O N ex G l) {es : Ents} {ck : Nat} (hk : KInv t F T R M K KM G' es ck false) (hE : Ext2 K KM G G') : HInv t F T R M K KM A O N ex G' l := by
 obtain ⟨n1,n2,n3,n4,n5,n6,n7⟩ := h.ne
 exact ⟨⟨es,ck,hk⟩,by rw [hE.2 A (List.getElem?_eq_some_iff.1 h.a).1 n1 n2]; exact h.a,by rw [hE.2 O (List.getElem?_eq_some_iff.1 h.o).1 n4 n5]; exact h.o,h.ln,h.ne,h.hN⟩
theorem HInv.set {G : Heap} {l : List Bool} (h : HInv t F T R M K KM A O N ex G l) {j : Nat} (b : Blk) (hj : G.length ≤ j ∨ G[j]? = some .free) : HInv t F T R M K KM A O N ex (G.set j b) l := by
 obtain ⟨es,ck,hk⟩ := h.k
 have hs : ∀ i x,G[i]? = some x → x ≠ Blk.free → (G.set j b)[i]? = some x := fun i x hi hx => by
  rw [List.getElem?_set_ne]
  ·exact hi
  ·rintro rfl
   rcases hj with c | c
   ·have := (List.getElem?_eq_some_iff.1 hi).1; omega
   ·rw [c] at hi; cases hi; exact hx rfl
 refine ⟨⟨es,ck,hk.keep ⟨?_,?_,?_,?_⟩⟩,hs _ _ h.a (by simp),hs _ _ h.o (by simp),h.ln,h.ne,h.hN⟩
 ·rw [hs _ _ hk.tab.t0 (by simp),hk.tab.t0]
 ·rw [hs _ _ hk.tab.r0 (by simp),hk.tab.r0]
 ·rw [hs _ _ hk.k (by simp),hk.k]
 ·rw [hs _ _ hk.m (by simp),hk.m]
theorem HInv.mark {G : Heap} {l : List Bool} (h : HInv t F T R M K KM A O N ex G l) {a m : Nat} (ham : a + m ≤ N) :
  Ccall tab 37 [.int .i64 a,.int .i64 m,.mp A 0] G = some (.tup [],List.set G O (.cells (onC (setB l a m)))) ∧ HInv t F T R M K KM A O N ex (List.set G O (.cells (onC (setB l a m)))) (setB l a m) ∧ Ext3 K KM O G (List.set G O (.cells (onC (setB l a m)))) := by
 obtain ⟨es,ck,hk⟩ := h.k
 obtain ⟨n1,n2,n3,n4,n5,n6,n7⟩ := h.ne
 refine ⟨mark_ok G A O N a m ex l h.a h.o ham h.hN h.ln,⟨⟨es,ck,hk.keep ⟨List.getElem?_set_ne n6,List.getElem?_set_ne n7,List.getElem?_set_ne n4,List.getElem?_set_ne n5⟩⟩,?_,?_,by rw [setB_len]; exact h.ln,h.ne,h.hN⟩,⟨by simp,fun j _ _ _ h3 => List.getElem?_set_ne (Ne.symm h3)⟩⟩
 ·rw [List.getElem?_set_ne (Ne.symm n3)]; exact h.a
 ·rw [List.getElem?_set,if_pos rfl,if_pos (List.getElem?_eq_some_iff.1 h.o).1]
def fnM (A : Nat) : AV := .fn 37 [] [.mp A 0]
def HasP (t : List TR) (F T R M K KM A O N : Nat) (ex : Bool) (f : Nat) (id : Int) : Prop := ∀ (G : Heap) (l : List Bool) (a : Int),HInv t F T R M K KM A O N ex G l → 0 ≤ a → a + 8 * (layF t F id).size ≤ N →
 ∃ G',HInv t F T R M K KM A O N ex G' (doM l (marksF t F f id a)) ∧ Ext3 K KM O G G' ∧ Ccall tab 36 [.mp K 0,.int .i64 id,.int .i64 a,fnM A] G = some (.tup [],G')
theorem has_loop1 {f : Nat} (x : TR) (hp : HasP t F T R M K KM A O N ex f x.elem) (hs : 1 ≤ (layF t F x.elem).size ∧ (layF t F x.elem).size ≤ 16385) (hl : 0 ≤ x.len ∧ x.len ≤ 16384) (a : Int) (ha : 0 ≤ a) (hb : a + 8 * ((layF t F x.elem).size * x.len) ≤ N) (B : Nat) (hB : B ≠ K ∧ B ≠ KM ∧ B ≠ O) : ∀ (n i : Nat) (G : Heap) (l : List Bool),HInv t F T R M K KM A O N ex G l → G[B]? = some (.cells (trow (eraseT x))) → i + n = x.len.toNat →
  ∃ E' G',HInv t F T R M K KM A O N ex G' (doM l ((List.range' i n).flatMap fun (i : Nat) => marksF t F f x.elem (a + 8 * (layF t F x.elem).size * (i : Int)))) ∧ Ext3 K KM O G G' ∧
   Brun tab 107 (.loop f36l6) (ofL [(0,.mp K 0),(2,.int .i64 a),(3,fnM A),(8,.mp B 0),(11,.int .i64 (layF t F x.elem).size),(44,.int .i64 x.len),(45,.int .i64 i)]) G = some (.exit 1,ofL E',G') := by
 intro n
 induction n with
 | zero =>
  intro i G l hi hG hn
  refine ⟨[(0,.mp K 0),(2,.int .i64 a),(3,fnM A),(8,.mp B 0),(11,.int .i64 (layF t F x.elem).size),(44,.int .i64 x.len),(45,.int .i64 i),(46,.bool false)],G,hi,Ext3.refl ..,?_⟩
  have q1 : ¬ (i : Int) < x.len := by omega
  have q2 : x.len ≤ (i : Int) := by omega
  rw [Brun_loop,f36l6_b]
  unfold f36m6
  generalize (layF t F x.elem).size = s at *
  generalize fnM A = fm at *
  clear hp hi hG hb hB
  repeat (any_goals first | simp (dsimp := false) (maxSteps := 4000000) (maxDischargeDepth := 8) (implicitDefEqProofs := false) [*,-Int.not_le,-Int.not_lt,amLt] | with_reducible (first | apply cB | apply iB) <;> intro _ | intro _)
 | succ n ih =>
  intro i G l hi hG hn
  have m1 : (layF t F x.elem).size * ((i : Int) + 1) ≤ (layF t F x.elem).size * x.len := Int.mul_le_mul_of_nonneg_left (by omega) (by omega)
  have m2 : 0 ≤ (layF t F x.elem).size * (i : Int) := Int.mul_nonneg (by omega) (by omega)
  have m4 : 8 * (layF t F x.elem).size * (i : Int) = 8 * ((layF t F x.elem).size * i) := Int.mul_assoc ..
  have m5 : (layF t F x.elem).size * ((i : Int) + 1) = (layF t F x.elem).size * i + (layF t F x.elem).size := by rw [Int.mul_add,Int.mul_one]
  have hN := hi.hN
  obtain ⟨G1,h1,h2,h3⟩ := hp G l (a + 8 * (layF t F x.elem).size * (i : Int)) hi (by omega) (by omega)
  have hG1 : G1[B]? = some (.cells (trow (eraseT x))) := by rw [h2.2 B (List.getElem?_eq_some_iff.1 hG).1 hB.1 hB.2.1 hB.2.2]; exact hG
  obtain ⟨E',G',h4,h5,h6⟩ := ih (i + 1) G1 _ h1 hG1 (by omega)
  refine ⟨E',G',?_,h2.trans h5,?_⟩
  ·rw [List.range'_succ,List.flatMap_cons,doM_app]; exact h4
  ·rw [← h6,Brun_loop]
   push_cast
   generalize Brun tab 107 (.loop f36l6) = L at *
   rw [f36l6_b]
   unfold f36m6
   have q1 : (i : Int) < x.len := by omega
   have w1 : IntKind.i64.wrap ((i : Int) + 1) = (i : Int) + 1 := IntWalk.i64_in _ (by omega)
   have w2 : IntKind.i64.wrap (8 * (layF t F x.elem).size) = 8 * (layF t F x.elem).size := IntWalk.i64_in _ (by omega)
   have w3 : IntKind.i64.wrap (8 * (layF t F x.elem).size * i) = 8 * (layF t F x.elem).size * i := IntWalk.i64_in _ (by omega)
   have w4 : IntKind.i64.wrap (a + 8 * (layF t F x.elem).size * i) = a + 8 * (layF t F x.elem).size * i := IntWalk.i64_in _ (by omega)
   unfold trow eraseT at hG
   generalize (layF t F x.elem).size = s at *
   unfold fnM at *
   clear hp hi hb hB ih h1 h2 h4 h5 h6 hG1 m1 m2 m4 m5
   repeat (any_goals first | simp (dsimp := false) (maxSteps := 4000000) (maxDischargeDepth := 8) (implicitDefEqProofs := false) [*,-Int.not_le,-Int.not_lt,amLt] | with_reducible (first | apply cB | apply iB) <;> intro _ | intro _)
end
def markP (t : List TR) (F f : Nat) (a : Int) (x : TR) (p : PlT) : List GapT := match x.mem[p.mem.toNat]? with
 | none => []
 | some m => if m.2.2 < 0 then marksF t F f p.ty (a + 8 * p.off) else if m.1 ≠ [] then [(a + 8 * p.off + p.bit,p.bits)] else []
section
variable {t : List TR} {rho : Nat → Nat} {F T R M K KM A O N : Nat} {ex : Bool}
theorem HInv.markI {G : Heap} {l : List Bool} (h : HInv t F T R M K KM A O N ex G l) {a m : Int} (h0 : 0 ≤ a ∧ 0 ≤ m) (ham : a + m ≤ N) :
  ∃ G',Ccall tab 37 [.int .i64 a,.int .i64 m,.mp A 0] G = some (.tup [],G') ∧ HInv t F T R M K KM A O N ex G' (doM l [(a,m)]) ∧ Ext3 K KM O G G' := by
 have := h.mark (a := a.toNat) (m := m.toNat) (by omega)
 rw [Int.toNat_of_nonneg h0.1,Int.toNat_of_nonneg h0.2] at this
 exact ⟨_,this⟩
theorem has_loop2 {f : Nat} (x : TR) {sz al : Int} (pl : List PlT) (hpl : ∀ p ∈ pl,PlOK (layF t F) x.mem (8 * sz) al p) (hp : ∀ p ∈ pl,HasP t F T R M K KM A O N ex f p.ty) (a : Int) (ha : 0 ≤ a) (hb : a + 8 * sz ≤ N) (hln : pl.length ≤ 1000) (c : Cap) (B : Nat) (hB : B ≠ K ∧ B ≠ KM ∧ B ≠ O) : ∀ (n i : Nat) (G : Heap) (l : List Bool),HInv t F T R M K KM A O N ex G l → G[B]? = some (.cells (trow (eraseT x))) → i + n = pl.length →
  ∃ E' G',HInv t F T R M K KM A O N ex G' (doM l ((pl.drop i).flatMap (markP t F f a x))) ∧ Ext3 K KM O G G' ∧
   Brun tab 107 (.loop f36l13) (ofL [(0,.mp K 0),(2,.int .i64 a),(3,fnM A),(8,.mp B 0),(64,.is (plRows pl) c),(65,.int .i64 pl.length),(66,.int .i64 i)]) G = some (.exit 3,ofL E',G') := by
 have hll : (plRows pl).length = pl.length := by unfold plRows; exact List.length_map ..
 intro n
 induction n with
 | zero =>
  intro i G l hi hG hn
  have e : pl.drop i = [] := List.drop_eq_nil_of_le (by omega)
  rw [e]
  refine ⟨[(0,.mp K 0),(2,.int .i64 a),(3,fnM A),(8,.mp B 0),(64,.is (plRows pl) c),(65,.int .i64 pl.length),(66,.int .i64 i),(67,.bool false)],G,hi,Ext3.refl ..,?_⟩
  have q1 : ¬ (i : Int) < pl.length := by omega
  have q2 : (pl.length : Int) ≤ i := by omega
  rw [Brun_loop,f36l13_b]
  unfold f36m13
  generalize plRows pl = PL at *
  generalize fnM A = fm at *
  clear hp hi hG hb hB hpl e
  repeat (any_goals first | simp (dsimp := false) (maxSteps := 4000000) (maxDischargeDepth := 8) (implicitDefEqProofs := false) [*,-Int.not_le,-Int.not_lt,amLt] | with_reducible (first | apply cB | apply iB) <;> intro _ | intro _)
 | succ n ih =>
  intro i G l hi hG hn
  have c1 : i < pl.length := by omega
  have gl := List.getElem?_eq_getElem c1
  have q1 : (i : Int) < pl.length := by omega
  have rl := plrow_at gl
  have rl2 : ∀ hh,(plRows pl)[i]'hh = _ := fun hh => (List.getElem?_eq_some_iff.1 rl).2
  have hpk := hpl _ (List.getElem_mem c1)
  have hpp := hp _ (List.getElem_mem c1)
  obtain ⟨km,m,e1,e2,e3,e4,e5⟩ := hpk.mem
  have hmr : (memRows x.mem)[km]? = some [.str m.1,.int .i64 m.2.1,.int .i64 m.2.2] := by unfold memRows; rw [List.getElem?_map,e2]; rfl
  have hmr2 : ∀ hh,(memRows x.mem)[km]'hh = _ := fun hh => (List.getElem?_eq_some_iff.1 hmr).2
  have hml : (memRows x.mem).length = x.mem.length := memRows_len x.mem
  have lkm := (List.getElem?_eq_some_iff.1 e2).1
  have q3 : (km : Int) < x.mem.length := by omega
  have hw : IntKind.i64.wrap ((i : Int) + 1) = (i : Int) + 1 := IntWalk.i64_in _ (by omega)
  have hN := hi.hN
  have h1 := hpk.hi
  have h2 := hpk.off
  have h3 := hpk.bit
  have h4 := hpk.lo
  have h5 := hpk.fine.lo
  unfold hiP loP at h1
  unfold loP at h4
  have hmark : markP t F f a x pl[i] = if m.2.2 < 0 then marksF t F f pl[i].ty (a + 8 * pl[i].off) else if m.1 ≠ [] then [(a + 8 * pl[i].off + pl[i].bit,pl[i].bits)] else [] := by
   unfold markP
   rw [e1]
   have : x.mem[((km : Nat) : Int).toNat]? = some m := e2
   rw [this]
  rw [pldrop_cons gl,List.flatMap_cons,doM_app,hmark]
  have lB := (List.getElem?_eq_some_iff.1 hG).1
  have gB : ∀ y,(G ++ y)[B]? = some (.cells (trow (eraseT x))) := fun y => rapp hG y
  have hi2 := hi.app [.cells (plRow pl[i]),.cells (memRow m)]
  have gG : ∀ j (b : Blk),j < G.length → (G ++ [b])[j]? = G[j]? := fun j b hj => List.getElem?_append_left hj
  have go : ∀ (G1 : Heap) (l1 : List Bool),HInv t F T R M K KM A O N ex G1 l1 → Ext3 K KM O (G ++ [.cells (plRow pl[i]),.cells (memRow m)]) G1 →
    ∃ E' G',HInv t F T R M K KM A O N ex G' (doM l1 ((pl.drop (i + 1)).flatMap (markP t F f a x))) ∧ Ext3 K KM O G G' ∧
     Brun tab 107 (.loop f36l13) (ofL [(0,.mp K 0),(2,.int .i64 a),(3,fnM A),(8,.mp B 0),(64,.is (plRows pl) c),(65,.int .i64 pl.length),(66,.int .i64 ((i : Int) + 1))]) G1 = some (.exit 3,ofL E',G') := fun G1 l1 k1 k2 => by
   have k3 : G1[B]? = some (.cells (trow (eraseT x))) := by rw [k2.2 B (by simp; omega) hB.1 hB.2.1 hB.2.2]; exact gB _
   obtain ⟨E',G',r1,r2,r3⟩ := ih (i + 1) G1 l1 k1 k3 (by omega)
   push_cast at r3
   exact ⟨E',G',r1,((Ext3.app K KM O G _).trans k2).trans r2,r3⟩
  by_cases c2 : m.2.2 < 0
  ·rw [if_pos c2]
   have hb0 : pl[i].bits = 0 := by omega
   rw [if_neg (by omega)] at h1
   obtain ⟨G1,r1,r2,r3⟩ := hpp _ l (a + 8 * pl[i].off) hi2 (by omega) (by omega)
   obtain ⟨E',G',s1,s2,s3⟩ := go G1 _ r1 r2
   refine ⟨E',G',s1,s2,?_⟩
   have w2 : IntKind.i64.wrap (8 * pl[i].off) = 8 * pl[i].off := IntWalk.i64_in _ (by omega)
   have w3 : IntKind.i64.wrap (a + 8 * pl[i].off) = a + 8 * pl[i].off := IntWalk.i64_in _ (by omega)
   rw [← s3,Brun_loop]
   generalize Brun tab 107 (.loop f36l13) = L at *
   rw [f36l13_b]
   unfold f36m13
   generalize pl[i] = pk at *
   unfold plRow memRow at *
   rw [e1] at rl rl2 r3
   unfold trow eraseT fnM at *
   generalize plRows pl = PL at *
   generalize memRows x.mem = MS at *
   clear hb0
   clear hpl hp hi hb hB gl c1 ih e2 lkm hi2 go s1 s2 s3 r1 r2 hmark h1 h2 h3 h4 h5 e1 e3 e4 e5 hpk hpp gG
   repeat (any_goals first | simp (dsimp := false) (maxSteps := 4000000) (maxDischargeDepth := 8) (implicitDefEqProofs := false) [*,-Int.not_le,-Int.not_lt,amLt,app_get,app_get0,app_set,app_set0,Nat.add_assoc] | with_reducible (first | apply cB | apply iB) <;> intro _ | intro _)
  ·rw [if_neg c2]
   by_cases c3 : m.1 ≠ []
   ·rw [if_pos c3]
    have hm0 : 0 ≤ a + 8 * pl[i].off + pl[i].bit ∧ 0 ≤ pl[i].bits := by omega
    have hm1 : a + 8 * pl[i].off + pl[i].bit + pl[i].bits ≤ N := by split at h1 <;> omega
    obtain ⟨G1,r3,r1,r2⟩ := hi2.markI hm0 hm1
    obtain ⟨E',G',s1,s2,s3⟩ := go G1 _ r1 r2
    refine ⟨E',G',s1,s2,?_⟩
    have w2 : IntKind.i64.wrap (8 * pl[i].off) = 8 * pl[i].off := IntWalk.i64_in _ (by omega)
    have w3 : IntKind.i64.wrap (a + 8 * pl[i].off) = a + 8 * pl[i].off := IntWalk.i64_in _ (by omega)
    have w4 : IntKind.i64.wrap (a + 8 * pl[i].off + pl[i].bit) = a + 8 * pl[i].off + pl[i].bit := IntWalk.i64_in _ (by omega)
    rw [← s3,Brun_loop]
    generalize Brun tab 107 (.loop f36l13) = L at *
    rw [f36l13_b]
    unfold f36m13
    generalize pl[i] = pk at *
    unfold plRow memRow at *
    rw [e1] at rl rl2 r3
    unfold trow eraseT fnM at *
    generalize plRows pl = PL at *
    generalize memRows x.mem = MS at *
    clear hpl hp hi hb hB gl c1 ih e2 lkm hi2 go s1 s2 s3 r1 r2 hmark h1 h2 h3 h4 h5 e1 e3 e4 e5 hpk hpp gG hm0 hm1
    repeat (any_goals first | simp (dsimp := false) (maxSteps := 4000000) (maxDischargeDepth := 8) (implicitDefEqProofs := false) [*,-Int.not_le,-Int.not_lt,amLt,app_get,app_get0,app_set,app_set0,Nat.add_assoc] | with_reducible (first | apply cB | apply iB) <;> intro _ | intro _)
   ·rw [if_neg c3]
    obtain ⟨E',G',s1,s2,s3⟩ := go _ _ hi2 (Ext3.refl ..)
    refine ⟨E',G',s1,s2,?_⟩
    rw [← s3,Brun_loop]
    generalize Brun tab 107 (.loop f36l13) = L at *
    rw [f36l13_b]
    unfold f36m13
    generalize pl[i] = pk at *
    unfold plRow memRow at *
    rw [e1] at rl rl2
    rw [e1]
    unfold trow eraseT fnM at *
    generalize plRows pl = PL at *
    generalize memRows x.mem = MS at *
    simp only [ne_eq,Decidable.not_not] at c3
    clear hpl hp hi hb hB gl c1 ih e2 lkm hi2 go s1 s2 s3 hmark h1 h2 h3 h4 h5 e1 e3 e4 e5 hpk hpp gG
    repeat (any_goals first | simp (dsimp := false) (maxSteps := 4000000) (maxDischargeDepth := 8) (implicitDefEqProofs := false) [*,-Int.not_le,-Int.not_lt,amLt,app_get,app_get0,app_set,app_set0,Nat.add_assoc] | with_reducible (first | apply cB | apply iB) <;> intro _ | intro _)
end
section
variable {t : List TR} {rho : Nat → Nat} {F T R M K KM A O N : Nat} {ex : Bool}
theorem marks_arr {f : Nat} {id a : Int} {x : TR} (hg : getT t id = some x) (h14 : x.kind = 14) : marksF t F (f + 1) id a = (List.range' 0 x.len.toNat).flatMap fun (i : Nat) => marksF t F f x.elem (a + 8 * (layF t F x.elem).size * (i : Int)) := by
 rw [marksF,hg]
 simp only
 rw [if_pos h14,List.range_eq_range']
theorem marks_rec {f : Nat} {id a : Int} {x : TR} (hg : getT t id = some x) (h : x.kind = 15 ∨ x.kind = 16) : marksF t F (f + 1) id a = (layF t F id).pl.flatMap (markP t F f a x) := by
 rw [marksF,hg]
 simp only
 rw [if_neg (by omega),if_pos h]
 rfl
theorem marks_one {f : Nat} {id a : Int} {x : TR} (hg : getT t id = some x) (h14 : x.kind ≠ 14) (h : ¬ (x.kind = 15 ∨ x.kind = 16)) : marksF t F (f + 1) id a = [(a,8 * (layF t F id).size)] := by
 rw [marksF,hg]
 simp only
 rw [if_neg h14,if_neg h]
theorem arr_ok (hx : Tbl t rho F) {id : Int} {x : TR} (hg : getT t id = some x) (h14 : x.kind = 14) (hb : begE t F id = 0) : begE t F x.elem = 0 ∧ (layF t F id).size = (layF t F x.elem).size * x.len ∧ 1 ≤ x.len ∧ x.len ≤ 16384 := by
 obtain ⟨q1,q2,q3⟩ := beg_has hb
 obtain ⟨_,gi⟩ := getT_some hg
 have wel : wholeS t x.elem = true := hx.acc.whole x (List.mem_of_getElem? gi) h14
 obtain ⟨e1,e2⟩ := lay_eq hx.rank hx.hF hg
 rw [e2] at q3
 simp only [Bool.or_eq_false_iff,decide_eq_false_iff_not] at q3
 have be : bigF t F x.elem = false := by
  have := List.any_eq_false.1 q3.2 x.elem (by unfold deps; rw [if_pos h14]; simp)
  simpa using this
 have h0 : hasS t x.elem = true := by
  unfold wholeS at wel
  unfold hasS
  cases hgd : getT t x.elem with
  | none => rw [hgd] at wel; cases wel
  | some z => rfl
 have er : rawL (layF t F) x = ⟨x.len * (layF t F x.elem).size,(layF t F x.elem).align,[]⟩ := by unfold rawL; rw [if_pos h14]
 have hln : 1 ≤ x.len ∧ x.len ≤ 16384 := by
  have hw := q2
  unfold wholeS at hw
  rw [hg] at hw
  dsimp only at hw
  have hlen14 := (acc_kind hx.acc gi).2.2.1 h14
  unfold longS at hlen14
  simp only [decide_eq_true_eq] at hlen14
  unfold wholeR at hw
  rw [if_neg (by omega),if_pos h14] at hw
  simp only [decide_eq_true_eq] at hw
  omega
 refine ⟨?_,?_,hln⟩
 ·unfold begE
  rw [if_neg (by rw [h0]; decide),if_neg (by rw [wel]; decide),be]
  rfl
 ·rw [e1]
  unfold capL
  rw [if_neg q3.1,er,Int.mul_comm]
theorem has_all (hx : Tbl t rho F) : ∀ (n : Nat) (id : Int),rho id.toNat < n → begE t F id = 0 → HasP t F T R M K KM A O N ex n id := by
 intro n
 induction n with
 | zero => intro id h; omega
 | succ n ih =>
  intro id hn hb G l a hi ha hal
  obtain ⟨q1,q2,q3⟩ := beg_has hb
  cases hg : getT t id with
  | none => unfold hasS at q1; rw [hg] at q1; cases q1
  | some x =>
   obtain ⟨_,gi⟩ := getT_some hg
   have hmem := List.mem_of_getElem? gi
   obtain ⟨es,ck,hK⟩ := hi.k
   have hkk := fun y => rapp hK.k y
   have hrow := trow_ok (hK.tab.app [.free]) hg (hx.sz x hmem)
   obtain ⟨rw_,hrw⟩ : ∃ rw_ : Blk,rw_ = .cells (trow (eraseT x)) := ⟨_,rfl⟩
   obtain ⟨G3,es3,ck3,cap,hK3,hE3,hlook⟩ := look_all hx.acc hx.rank hx.hF hx.sz (rho id.toNat + 1) id (by omega) q2 (G ++ [rw_,rw_,.free]) es ck false (hK.app _)
   rw [q3,Bool.or_false] at hK3
   have l3 : (G ++ [rw_,rw_,Blk.free]).length = G.length + 3 := by simp
   have gl3 := hE3.1
   rw [l3] at gl3
   obtain ⟨u1,u2,u3,u4⟩ := hK.lt
   have uA := (List.getElem?_eq_some_iff.1 hi.a).1
   have uO := (List.getElem?_eq_some_iff.1 hi.o).1
   have g3S : G3[G.length + 2]? = some .free := by rw [hE3.2 _ (by omega) (by omega) (by omega),List.getElem?_append_right (by omega),show G.length + 2 - G.length = 2 by omega]; rfl
   have g30 : G3[G.length]? = some rw_ := by rw [hE3.2 _ (by omega) (by omega) (by omega),List.getElem?_append_right (by omega),Nat.sub_self]; rfl
   have hi3 := (hi.app [rw_,rw_,.free]).look hK3 hE3
   obtain ⟨lay,hlay⟩ : ∃ lay : List AV,lay = [.int .i64 (layF t F id).size,.int .i64 (layF t F id).align,.is (plRows (layF t F id).pl) cap] := ⟨_,rfl⟩
   have hi4 := hi3.set (.cells lay) (.inr g3S)
   have g4S : ∀ b,(G3.set (G.length + 2) b)[G.length + 2]? = some b := fun b => by rw [List.getElem?_set,if_pos rfl,if_pos (by omega)]
   have g40 : ∀ b,(G3.set (G.length + 2) b)[G.length]? = some rw_ := fun b => by rw [List.getElem?_set_ne (by omega)]; exact g30
   have ss : ∀ b b',(G3.set (G.length + 2) b).set (G.length + 2) b' = G3.set (G.length + 2) b' := fun b b' => List.set_set ..
   have hE4 : Ext3 K KM O G (G3.set (G.length + 2) (.cells lay)) := ⟨by rw [List.length_set]; omega,fun j hj h1 h2 h3 => by
    rw [List.getElem?_set_ne (by omega),hE3.2 j (by omega) h1 h2,List.getElem?_append_left hj]⟩
   have hB : G.length ≠ K ∧ G.length ≠ KM ∧ G.length ≠ O := ⟨by omega,by omega,by omega⟩
   by_cases k14 : x.kind = 14
   ·obtain ⟨b1,b2,b3,b4⟩ := arr_ok hx hg k14 hb
    obtain ⟨p1,p2,p3⟩ := beg_has b1
    obtain ⟨es4,ck4,hK4⟩ := hi4.k
    obtain ⟨G5,es5,ck5,cap5,hK5,hE5,hlook5⟩ := look_all hx.acc hx.rank hx.hF hx.sz (rho x.elem.toNat + 1) x.elem (by omega) p2 _ es4 ck4 false hK4
    rw [p3,Bool.or_false] at hK5
    have hi5 := hi4.look hK5 hE5
    have hf := whole_lay hx.acc hx.rank hx.hF p2
    have f1 := hf.lo
    have f2 := hf.hi
    have g50 : G5[G.length]? = some (.cells (trow (eraseT x))) := by rw [hE5.2 _ (by rw [List.length_set]; omega) (by omega) (by omega),g40,hrw]
    have hre : rho x.elem.toNat < n := by
     have := (hx.rank _ x gi x.elem (by unfold deps; rw [if_pos k14]; simp)).2.2
     omega
    obtain ⟨E',G',r1,r2,r3⟩ := has_loop1 x (ih x.elem hre b1) ⟨f1,f2⟩ ⟨by omega,b4⟩ a ha (by rw [← b2]; exact hal) G.length hB x.len.toNat 0 G5 l hi5 g50 (by omega)
    refine ⟨G',by rw [marks_arr hg k14]; exact r1,(hE4.trans (hE5.to3 O)).trans r2,?_⟩
    refine Ccall_over rfl rfl rfl rfl ?_
    simp only [Int.natCast_zero] at r3
    unfold fnM at *
    subst hrw hlay
    unfold layV at hlook hlook5
    unfold trow eraseT at *
    simp only [List.append_assoc,List.cons_append,List.nil_append] at hrow
    generalize plRows (layF t F id).pl = PL at *
    generalize plRows (layF t F x.elem).pl = PL5 at *
    generalize layF t F id = li at *
    generalize layF t F x.elem = le at *
    clear hx ih hi hb hal q1 q2 q3 hg gi hmem hK hK3 hE3 l3 gl3 u1 u2 u3 u4 uA uO hi3 hi4 hE4 hB b1 b2 b3 b4 p1 p2 p3 hK4 hK5 hE5 hi5 hf f1 f2 hre r1 r2 g30
    obtain ⟨kind,elem,len,tag,mem,done_,cp⟩ := x
    dsimp only at *
    subst k14
    repeat (any_goals first | simp (dsimp := false) (maxSteps := 4000000) (maxDischargeDepth := 8) (implicitDefEqProofs := false) [*,-Int.not_le,-Int.not_lt,amLt,app_get,app_get0,app_set,app_set0,Nat.add_assoc] | with_reducible (first | apply cB | apply iB) <;> intro _ | intro _)
   ·by_cases k15 : x.kind = 15 ∨ x.kind = 16
    ·have hr := rec_ok hx hg k15 hb
     have hml := hr.ml
     have hnl := hr.nl
     have hpp : ∀ p ∈ (layF t F id).pl,HasP t F T R M K KM A O N ex n p.ty := fun p hp => by
      obtain ⟨km,m,e1,e2,e3,e4,e5⟩ := (hr.pl p hp).1.mem
      have := (hx.rank _ x gi p.ty (by unfold deps; rw [if_neg k14,List.nil_append]; exact List.mem_map.2 ⟨m,List.mem_of_getElem? e2,e3⟩)).2.2
      exact ih p.ty (by omega) (hr.pl p hp).2
     obtain ⟨E',G',r1,r2,r3⟩ := has_loop2 x (layF t F id).pl (fun p hp => (hr.pl p hp).1) hpp a ha hal (by omega) cap G.length hB (layF t F id).pl.length 0 _ l hi4 (by rw [g40,hrw]) (by omega)
     rw [List.drop_zero] at r1
     refine ⟨G',by rw [marks_rec hg k15]; exact r1,hE4.trans r2,?_⟩
     refine Ccall_over rfl rfl rfl rfl ?_
     simp only [Int.natCast_zero] at r3
     have hll : (plRows (layF t F id).pl).length = (layF t F id).pl.length := by unfold plRows; exact List.length_map ..
     unfold fnM at *
     subst hrw hlay
     unfold layV at hlook
     unfold trow eraseT at *
     simp only [List.append_assoc,List.cons_append,List.nil_append] at hrow
     generalize plRows (layF t F id).pl = PL at *
     generalize (layF t F id).pl.length = pln at *
     generalize layF t F id = li at *
     clear hx ih hi hb hal q1 q2 q3 hg gi hmem hK hK3 hE3 l3 gl3 u1 u2 u3 u4 uA uO hi3 hi4 hE4 hB hr hml hnl hpp r1 r2 g30
     obtain ⟨kind,elem,len,tag,mem,done_,cp⟩ := x
     dsimp only at *
     rcases k15 with k15 | k15
     ·subst k15
      repeat (any_goals first | simp (dsimp := false) (maxSteps := 4000000) (maxDischargeDepth := 8) (implicitDefEqProofs := false) [*,-Int.not_le,-Int.not_lt,amLt,app_get,app_get0,app_set,app_set0,Nat.add_assoc] | with_reducible (first | apply cB | apply iB) <;> intro _ | intro _)
     ·subst k15
      repeat (any_goals first | simp (dsimp := false) (maxSteps := 4000000) (maxDischargeDepth := 8) (implicitDefEqProofs := false) [*,-Int.not_le,-Int.not_lt,amLt,app_get,app_get0,app_set,app_set0,Nat.add_assoc] | with_reducible (first | apply cB | apply iB) <;> intro _ | intro _)
    ·have hf := whole_lay hx.acc hx.rank hx.hF q2
     have f1 := hf.lo
     have f2 := hf.hi
     obtain ⟨G',r3,r1,r2⟩ := hi4.markI (a := a) (m := 8 * (layF t F id).size) ⟨ha,by omega⟩ hal
     refine ⟨G',by rw [marks_one hg k14 k15]; exact r1,hE4.trans r2,?_⟩
     refine Ccall_over rfl rfl rfl rfl ?_
     have w1 : IntKind.i64.wrap (8 * (layF t F id).size) = 8 * (layF t F id).size := IntWalk.i64_in _ (by omega)
     unfold fnM at *
     subst hrw hlay
     unfold layV at hlook
     unfold trow eraseT at *
     simp only [List.append_assoc,List.cons_append,List.nil_append] at hrow
     have z1 : ¬ x.kind = 15 := fun c => k15 (.inl c)
     have z2 : ¬ x.kind = 16 := fun c => k15 (.inr c)
     generalize plRows (layF t F id).pl = PL at *
     generalize layF t F id = li at *
     clear hx ih hi hb hal q1 q2 q3 hg gi hmem hK hK3 hE3 l3 gl3 u1 u2 u3 u4 uA uO hi3 hi4 hE4 hB r1 r2 g30 hf f1 f2 k15
     repeat (any_goals first | simp (dsimp := false) (maxSteps := 4000000) (maxDischargeDepth := 8) (implicitDefEqProofs := false) [*,-Int.not_le,-Int.not_lt,amLt,app_get,app_get0,app_set,app_set0,Nat.add_assoc] | with_reducible (first | apply cB | apply iB) <;> intro _ | intro _)
end
def gapRow (g : GapT) : List AV := [.int .i64 g.1,.int .i64 g.2]
def gapRows (l : List GapT) : List (List AV) := l.map gapRow
def frI : Option Nat → Int | none => -1 | some f => f
theorem onC_get {l : List Bool} {i : Nat} {b : Bool} (h : l[i]? = some b) : (onC l)[i]? = some (.int .u8 (if b = true then 1 else 0)) := by
 unfold onC
 rw [List.getElem?_map,h]
 rfl
theorem gaps_loop (G : Heap) (O N : Nat) (ex : Bool) (l : List Bool) (hO : G[O]? = some (.cells (onC l))) (hl : l.length = N) (hN : N ≤ 200000) : ∀ (n i : Nat) (fr : Option Nat) (out : List GapT) (cap : Cap) (Z : Heap),i + n = N → (∀ f,fr = some f → f < i) → out.length ≤ i → CapAt G.length cap 2 (gapRows out) Z →
  ∃ E' cap' Z',Brun tab 70 (.loop f18l10) (ofL [(10,.is (gapRows out) cap),(11,.int .i64 (frI fr)),(38,.ms O 0 N 1 N ex),(39,.int .i64 N),(40,.int .i64 i)]) (G ++ Z) = some (.exit 0,ofL ((10,.is (gapRows (out ++ runsB i fr (l.drop i))) cap') :: E'),G ++ Z') := by
 intro n
 induction n with
 | zero =>
  intro i fr out cap Z hi hf ho hc
  have e : l.drop i = [] := List.drop_eq_nil_of_le (by omega)
  have er : runsB i fr [] = [] := by cases fr <;> rfl
  rw [e,er,List.append_nil]
  refine ⟨[(11,.int .i64 (frI fr)),(38,.ms O 0 N 1 N ex),(39,.int .i64 N),(40,.int .i64 i),(41,.bool false)],cap,Z,?_⟩
  have q1 : ¬ (i : Int) < N := by omega
  have q2 : (N : Int) ≤ i := by omega
  rw [Brun_loop,f18l10_b]
  unfold f18m10
  generalize gapRows out = OR at *
  generalize frI fr = fi at *
  generalize G ++ Z = H at *
  clear hO hc hi hf e er
  repeat (any_goals first | simp (dsimp := false) (maxSteps := 4000000) (maxDischargeDepth := 8) (implicitDefEqProofs := false) [*,-Int.not_le,-Int.not_lt,amLt] | with_reducible (first | apply cB | apply iB) <;> intro _ | intro _)
 | succ n ih =>
  intro i fr out cap Z hi hf ho hc
  have hil : i < l.length := by omega
  have gl := List.getElem?_eq_getElem hil
  have gO : ∀ y,(G ++ y)[O]? = some (.cells (onC l)) := fun y => rapp hO y
  have gc := onC_get gl
  have gc2 : ∀ hh,(onC l)[i]'hh = _ := fun hh => (List.getElem?_eq_some_iff.1 gc).2
  have cl := onC_len l
  have q1 : (i : Int) < N := by omega
  have w1 : IntKind.i64.wrap ((i : Int) + 1) = (i : Int) + 1 := IntWalk.i64_in _ (by omega)
  have hln : (gapRows out).length = out.length := List.length_map ..
  rw [List.drop_eq_getElem_cons hil]
  have b1 : i + 1 ≤ (onC l).length := by omega
  have b2 : i + 1 ≤ N := by omega
  have b3 : i < N := by omega
  cases hb : l[i] with
  | false =>
   rw [hb] at gc gc2
   simp only [Bool.false_eq_true,if_false] at gc gc2
   cases fr with
   | none =>
    obtain ⟨E',cap',Z',h⟩ := ih (i + 1) (some i) out cap Z (by omega) (fun f e => by cases e; omega) (by omega) hc
    refine ⟨E',cap',Z',?_⟩
    rw [runsB,← h,Brun_loop]
    push_cast
    generalize Brun tab 70 (.loop f18l10) = L at *
    rw [f18l10_b]
    unfold f18m10 frI
    generalize onC l = C at *
    generalize gapRows out = OR at *
    clear hO hl hN hi hf ho hc gl hil ih h hb
    repeat (any_goals first | simp (dsimp := false) (maxSteps := 4000000) (maxDischargeDepth := 8) (implicitDefEqProofs := false) [*,-Int.not_le,-Int.not_lt,amLt,List.append_assoc] | with_reducible (first | apply cB | apply iB) <;> intro _ | intro _)
   | some f =>
    have := hf f rfl
    obtain ⟨E',cap',Z',h⟩ := ih (i + 1) (some f) out cap Z (by omega) (fun f' e => by cases e; omega) (by omega) hc
    refine ⟨E',cap',Z',?_⟩
    rw [runsB,← h,Brun_loop]
    push_cast
    generalize Brun tab 70 (.loop f18l10) = L at *
    rw [f18l10_b]
    unfold f18m10 frI
    have q2 : ¬ (f : Int) < 0 := by omega
    have q3 : 0 ≤ (f : Int) := by omega
    generalize onC l = C at *
    generalize gapRows out = OR at *
    clear hO hl hN hi hf ho hc gl hil ih h hb this
    repeat (any_goals first | simp (dsimp := false) (maxSteps := 4000000) (maxDischargeDepth := 8) (implicitDefEqProofs := false) [*,-Int.not_le,-Int.not_lt,amLt,List.append_assoc] | with_reducible (first | apply cB | apply iB) <;> intro _ | intro _)
  | true =>
   rw [hb] at gc gc2
   simp only [if_true] at gc gc2
   cases fr with
   | none =>
    obtain ⟨E',cap',Z',h⟩ := ih (i + 1) none out cap Z (by omega) (fun f e => by cases e) (by omega) hc
    refine ⟨E',cap',Z',?_⟩
    rw [runsB,← h,Brun_loop]
    push_cast
    generalize Brun tab 70 (.loop f18l10) = L at *
    rw [f18l10_b]
    unfold f18m10 frI
    generalize onC l = C at *
    generalize gapRows out = OR at *
    clear hO hl hN hi hf ho hc gl hil ih h hb
    repeat (any_goals first | simp (dsimp := false) (maxSteps := 4000000) (maxDischargeDepth := 8) (implicitDefEqProofs := false) [*,-Int.not_le,-Int.not_lt,amLt,List.append_assoc] | with_reducible (first | apply cB | apply iB) <;> intro _ | intro _)
   | some f =>
    have hfi := hf f rfl
    have hroom : roomy (out.length + 1) 16 = true := by unfold roomy; simp only [decide_eq_true_eq]; omega
    have hr : roomOK cap 2 (gapRows out) (G ++ (Z ++ [.free])) = true := hc.room (p := G) rfl _
    have hs : spend cap (G ++ (Z ++ [.free])) = G ++ (spendAt G.length cap Z ++ [.free]) := hc.spend (p := G) rfl _
    have hsl := spendAt_len G.length cap Z
    have hrows : gapRows out ++ [[.int .i64 (f : Int),.int .i64 ((i : Int) - f)]] = gapRows (out ++ [((f : Int),((i - f : Nat) : Int))]) := by
     unfold gapRows gapRow
     rw [List.map_append]
     simp only [List.map_cons,List.map_nil,List.append_cancel_left_eq,List.cons.injEq,AV.int.injEq,true_and,and_true]
     omega
    have hc' : CapAt G.length (.tok (G.length + Z.length) 2) 2 (gapRows (out ++ [((f : Int),((i - f : Nat) : Int))])) (spendAt G.length cap Z ++ [.tok]) := ⟨rfl,Z.length,by omega,by rw [← hsl,List.getElem?_append_right (Nat.le_refl _),Nat.sub_self]; rfl⟩
    obtain ⟨E',cap',Z',h⟩ := ih (i + 1) none (out ++ [((f : Int),((i - f : Nat) : Int))]) _ _ (by omega) (fun f e => by cases e) (by simp; omega) hc'
    refine ⟨E',cap',Z',?_⟩
    rw [runsB,show out ++ (((f : Int),((i - f : Nat) : Int)) :: runsB (i + 1) none (l.drop (i + 1))) = out ++ [((f : Int),((i - f : Nat) : Int))] ++ runsB (i + 1) none (l.drop (i + 1)) by simp,← h,Brun_loop]
    push_cast
    rw [← hrows]
    generalize Brun tab 70 (.loop f18l10) = L at *
    rw [f18l10_b]
    unfold f18m10 frI
    have q2 : ¬ (f : Int) < 0 := by omega
    have q3 : 0 ≤ (f : Int) := by omega
    have w2 : IntKind.i64.wrap ((i : Int) - f) = (i : Int) - f := IntWalk.i64_in _ (by omega)
    have s0 : ∀ b,(spendAt G.length cap Z ++ [Blk.free]).set Z.length b = spendAt G.length cap Z ++ [b] := fun b => by
     rw [List.set_append_right _ _ (by omega),hsl,Nat.sub_self]; rfl
    have s1 : (G ++ (spendAt G.length cap Z ++ [Blk.free]))[G.length + Z.length]? = some Blk.free := by
     rw [List.getElem?_append_right (by omega),Nat.add_sub_cancel_left,List.getElem?_append_right (by omega),hsl,Nat.sub_self]; rfl
    generalize onC l = C at *
    generalize gapRows out = OR at *
    generalize spendAt G.length cap Z = SZ at *
    clear hO hl hN hi hf ho hc hc' gl hil ih h hb hrows hsl hfi
    repeat (any_goals first | simp (dsimp := false) (maxSteps := 4000000) (maxDischargeDepth := 8) (implicitDefEqProofs := false) [*,-Int.not_le,-Int.not_lt,amLt,List.append_assoc,newF] | with_reducible (first | apply cB | apply iB) <;> intro _ | intro _)
theorem onC_zero (n : Nat) : repeatCells n [.int .u8 0] = onC (List.replicate n false) := by
 unfold repeatCells onC
 rw [List.map_replicate]
 induction n with
 | zero => rfl
 | succ n ih => rw [List.replicate_succ,List.flatten_cons,ih]; rfl
def gapsF (t : List TR) (F : Nat) (n : Nat) (id : Int) : List GapT := runsB 0 none (doM ((List.replicate (8 * (layF t F id).size + 1).toNat false).set (8 * (layF t F id).size).toNat true) (marksF t F n id 0))
theorem pre_app {G H : Heap} (hl : G.length ≤ H.length) (h : ∀ j,j < G.length → H[j]? = G[j]?) : ∃ Y,H = G ++ Y := by
 refine ⟨H.drop G.length,?_⟩
 apply List.ext_getElem?
 intro j
 by_cases c : j < G.length
 ·rw [h j c,List.getElem?_append_left c]
 ·rw [List.getElem?_append_right (by omega),List.getElem?_drop]
  congr 1
  omega
section
variable {t : List TR} {rho : Nat → Nat} {F T R M : Nat}
theorem gaps_ok (hx : Tbl t rho F) (G : Heap) (ht : TabAt G T R M t.length false t) (id : Int) :
  ∃ Y,(begE t F id ≠ 0 → Ccall tab 18 [.mp T 0,.int .i64 id] G = some (.tup [.is [] .nil,.int .i64 (begE t F id)],G ++ Y)) ∧
   (begE t F id = 0 → ∃ cap,Ccall tab 18 [.mp T 0,.int .i64 id] G = some (.tup [.is (gapRows (gapsF t F (rho id.toNat + 1) id)) cap,.int .i64 0],G ++ Y)) := by
 obtain ⟨Y,h1,h2⟩ := begin_ok hx (G ++ [.free]) (ht.app _) id
 have uT := (List.getElem?_eq_some_iff.1 ht.t0).1
 have uR := (List.getElem?_eq_some_iff.1 ht.r0).1
 by_cases h0 : begE t F id = 0
 ·obtain ⟨K,KM,es,ck,cap,hK,hk1,hk2,hb⟩ := h2 h0
  obtain ⟨q1,q2,q3⟩ := beg_has h0
  have hf := whole_lay hx.acc hx.rank hx.hF q2
  have f1 := hf.lo
  have f2 := hf.hi
  unfold layV at hb
  rw [List.length_append,List.length_singleton] at hk1 hk2
  obtain ⟨eb,heb⟩ : ∃ eb : Blk,eb = .cells [.int .i64 (layF t F id).size,.int .i64 (layF t F id).align,.is (plRows (layF t F id).pl) cap] := ⟨_,rfl⟩
  have hK1 : KInv t F T R M K KM (G ++ ([eb] ++ Y)) es ck false := by
   have e : G ++ ([eb] ++ Y) = (G ++ [Blk.free] ++ Y).set G.length eb := by
    rw [List.append_assoc,List.set_append_right _ _ (Nat.le_refl _),Nat.sub_self]; rfl
   rw [e]
   have n1 : G.length ≠ T := by omega
   have n2 : G.length ≠ R := by omega
   have n3 : G.length ≠ K := by omega
   have n4 : G.length ≠ KM := by omega
   exact hK.keep ⟨List.getElem?_set_ne n1,List.getElem?_set_ne n2,List.getElem?_set_ne n3,List.getElem?_set_ne n4⟩
  obtain ⟨O,hO⟩ : ∃ O,O = (G ++ ([eb] ++ Y)).length := ⟨_,rfl⟩
  obtain ⟨N,hN⟩ : ∃ N,N = (8 * (layF t F id).size + 1).toNat := ⟨_,rfl⟩
  obtain ⟨l0,hl0⟩ : ∃ l0,l0 = (List.replicate N false).set (8 * (layF t F id).size).toNat true := ⟨_,rfl⟩
  obtain ⟨u1,u2,u3,u4⟩ := hK1.lt
  rw [← hO] at u1 u2 u3 u4
  have hO2 : G.length < O := by rw [hO]; simp
  have hi : HInv t F T R M K KM (O + 1) O N true (G ++ ([eb] ++ Y) ++ [.cells (onC l0),.cells [.ms O 0 N 1 N true]]) l0 := by
   refine ⟨⟨es,ck,hK1.app _⟩,?_,?_,by rw [hl0]; simp,⟨by omega,by omega,by omega,by omega,by omega,by omega,by omega⟩,by omega⟩
   ·rw [hO,List.getElem?_append_right (by omega),Nat.add_sub_cancel_left]; rfl
   ·rw [hO,List.getElem?_append_right (by omega),Nat.sub_self]; rfl
  obtain ⟨G',r1,r2,r3⟩ := has_all hx (rho id.toNat + 1) id (by omega) h0 _ l0 0 hi (by omega) (by omega)
  obtain ⟨l1,hl1⟩ : ∃ l1,l1 = doM l0 (marksF t F (rho id.toNat + 1) id 0) := ⟨_,rfl⟩
  rw [← hl1] at r1
  obtain ⟨E',cap',Z',r4⟩ := gaps_loop G' O N true l1 r1.o r1.ln r1.hN N 0 none [] .nil [] (by omega) (fun f e => by cases e) (by simp) (CapAt.nil ..)
  rw [List.drop_zero,List.nil_append,List.append_nil] at r4
  have hgf : gapsF t F (rho id.toNat + 1) id = runsB 0 none l1 := by rw [hl1,hl0,hN]; rfl
  have hpre : ∃ Y',G' ++ Z' = G ++ Y' := by
   have := r2.1
   rw [List.length_append,← hO] at this
   refine pre_app (by rw [List.length_append]; omega) fun j hj => ?_
   rw [List.getElem?_append_left (by omega),r2.2 j (by rw [List.length_append,← hO]; omega) (by omega) (by omega) (by omega),List.append_assoc,List.getElem?_append_left hj]
  obtain ⟨Y',hY'⟩ := hpre
  refine ⟨Y',fun c => absurd h0 c,fun _ => ⟨cap',?_⟩⟩
  rw [hgf]
  have w1 : IntKind.i64.wrap (8 * (layF t F id).size) = 8 * (layF t F id).size := IntWalk.i64_in _ (by omega)
  have w2 : IntKind.i64.wrap (8 * (layF t F id).size + 1) = 8 * (layF t F id).size + 1 := IntWalk.i64_in _ (by omega)
  have hroom : roomy N 1 = true := by unfold roomy; simp only [decide_eq_true_eq]; omega
  have hz : repeatCells N [.int .u8 0] = onC (List.replicate N false) := onC_zero N
  have hzl : (onC (List.replicate N false)).length = N := by rw [onC_len,List.length_replicate]
  have hz2 : List.take (8 * (layF t F id).size).toNat (onC (List.replicate N false)) ++ (.int .u8 1) :: List.drop ((8 * (layF t F id).size).toNat + 1) (onC (List.replicate N false)) = onC l0 := by
   rw [hl0,← onC_set,List.set_eq_take_append_cons_drop,if_pos (by rw [hzl]; omega)]
  have v1 : 0 ≤ 8 * (layF t F id).size := by omega
  have v2 : 8 * (layF t F id).size < (N : Int) := by omega
  have v3 : (8 * (layF t F id).size + 1).toNat = N := hN.symm
  have v4 : 0 ≤ 8 * (layF t F id).size + 1 := by omega
  have v5 : 8 * (layF t F id).size + 1 ≤ 9223372036854775807 := by omega
  have v6 : (8 * (layF t F id).size).toNat + 1 ≤ N := by omega
  have v7 : (8 * (layF t F id).size).toNat < N := by omega
  refine Ccall_over rfl rfl rfl rfl ?_
  unfold fnM at r3
  rw [← hY']
  simp only [Int.natCast_zero,frI] at r4
  simp only [List.append_assoc,List.cons_append,List.nil_append] at *
  have o1 : O = G.length + (Y.length + 1) := by rw [hO]; simp
  have gA := r1.a
  unfold gapRows at *
  simp only [List.map_nil] at r4
  generalize onC l0 = C0 at *
  generalize onC (List.replicate N false) = CZ at *
  subst heb
  generalize plRows (layF t F id).pl = PL at *
  generalize layF t F id = li at *
  clear hl0 hl1 hgf hi r1 r2 hY' hN hO hK hK1 hk1 hk2 h1 h2 ht hx h0 q1 q2 q3 hf f1 f2 u1 u2 u3 u4 hO2
  subst o1
  have o2 : G.length + (Y.length + 1) + 1 = G.length + (Y.length + 2) := by omega
  rw [o2] at r3 gA
  repeat (any_goals first | simp (dsimp := false) (maxSteps := 4000000) (maxDischargeDepth := 8) (implicitDefEqProofs := false) [*,-Int.not_le,-Int.not_lt,amLt,app_get,app_get0,app_set,app_set0,Nat.add_assoc] | with_reducible (first | apply cB | apply iB) <;> intro _ | intro _)
 ·have hb := h1 h0
  generalize begE t F id = e at *
  refine ⟨[.cells [.int .i64 0,.int .i64 0,.is [] .nil]] ++ Y,fun _ => ?_,fun q => absurd q h0⟩
  refine Ccall_over rfl rfl rfl rfl ?_
  clear h1 h2 ht hx uT uR
  simp only [List.append_assoc,List.cons_append,List.nil_append] at *
  repeat (any_goals first | simp (dsimp := false) (maxSteps := 4000000) (maxDischargeDepth := 8) (implicitDefEqProofs := false) [*,-Int.not_le,-Int.not_lt,amLt,app_get,app_get0,app_set,app_set0] | with_reducible (first | apply cB | apply iB) <;> intro _ | intro _)
end
end Go.Proofs.YtfhijkapcdmdnaaDoor
