/- A walk goes on from where another one ended. -/
import Derived.Test.YtfhijkapcdmdnaaDoorZd
import Derived.Test.YtfhijkapcdmdnaaDoorHd
import Derived.Test.YtfhijkapcdmdnaaDoorAmW
namespace Go.Proofs.YtfhijkapcdmdnaaDoor
open Go.AM
set_option maxRecDepth 20000
set_option maxHeartbeats 4000000
set_option linter.unusedSimpArgs false
set_option linter.unusedVariables false
attribute [local congr] andF_cg onF_cg bthen_cg bkeep_cg bcond_cg guardV_cg putF_cg guardF_cg ite_cg stepsF_cg
attribute [local simp] Brun_skip Brun_exit Brun_ret Brun_seq Brun_cond Brun_block Brun_region bthen_normal bthen_ret bthen_exit bblock_normal bblock_ret bblock_exit bkeep_some andF_some onF_some onF_none guardF_none guardF_some guardV_tup putF_some putF_none stepsF_nil stepsF_cons upd_apply ofL_cons ofL_nil bown_normal bown_ret banswer_normal banswer_ret aresults ares List.replicate stepF_call stepF_callD stepF_move stepF_pick stepF_alloc stepF_allocV stepF_box stepF_boxV stepF_build stepF_buildSlice stepF_buildSliceV stepF_load stepF_store stepF_nilCheck stepF_bin stepF_eq stepF_un stepF_conv stepF_strId strIdV_str strIdV_int stepF_toStr stepF_toBytes stepF_fn stepF_mkSlice stepF_slice stepF_strSlice stepF_fieldAddr stepF_field stepF_idxAddr stepF_idxArr stepF_index stepF_strIndex stepF_extract stepF_len0 stepF_len1 stepF_min stepF_max stepF_append stepF_appendF appF_none appF_row stepF_mkMap stepF_mkIface stepF_lookup stepF_mapUpdate stepF_ext aext_idx aext_count aext_same cellsF newF abin_add abin_sub abin_mul abin_quo abin_rem abin_eql abin_neq abin_lss abin_leq abin_gtr abin_geq abin_and abin_or abin_xor abin_shl abin_shr abin_seql abin_sneq aun_not aun_neg aeq_bool aeq_agg eqCells_nil eqCells_int eqCells_bool eqCells_str cellsOf_agg cellsOf_int cellsOf_bool cellsOf_str cellsOf_is cellsOf_ms cellsOf_fn cellsOf_nilp cellsOf_mp cellsOf_mm cellsOf_nilm cellsOf_nili cellsOf_ifc cellsOf_ip cget_one cget_agg ev_t ev_c fillp_nil fillp_cons isSc_int isSc_bool isSc_str isSc_is isSc_ms isSc_fn isSc_mm isSc_mp isSc_ip isSc_nilp isSc_nilm isSc_nili isSc_nilf isSc_ifc splice chunk strip strip.stripL imm imm.immL Areify_int Areify_bool Areify_str Areify_is Areify_nilp Areify_tup Areify_agg AreifyL andF_chi andF_ch onF_chi onF_ch bthen_ch bthen_chi bblock_ch bblock_chi bkeep_ch bkeep_chi bown_ch bown_chi banswer_ch banswer_chi isSome_ch bcond_ch guardV_ch1 guardV_ch0 chF_true chF_false chF_not
attribute [local simp ↓] andF_some andF_chi andF_ch onF_some onF_none onF_chi onF_ch bthen_normal bthen_ret bthen_exit bthen_ch bthen_chi bblock_normal bblock_ret bblock_exit bblock_ch bblock_chi bkeep_some bkeep_ch bkeep_chi bown_normal bown_ret bown_ch bown_chi banswer_normal banswer_ret banswer_ch banswer_chi bcond_ch guardV_ch1 guardV_ch0 guardV_tup guardF_none guardF_some putF_some putF_none stepsF_nil stepsF_cons chF_true chF_false Brun_seq Brun_cond Brun_block Brun_region Brun_skip Brun_ret Brun_exit stepF_call stepF_callD stepF_move stepF_pick stepF_alloc stepF_allocV stepF_box stepF_boxV stepF_build stepF_buildSlice stepF_buildSliceV stepF_load stepF_store stepF_nilCheck stepF_bin stepF_eq stepF_un stepF_conv stepF_strId stepF_toStr stepF_toBytes stepF_fn stepF_mkSlice stepF_slice stepF_strSlice stepF_fieldAddr stepF_field stepF_idxAddr stepF_idxArr stepF_index stepF_strIndex stepF_extract stepF_len0 stepF_len1 stepF_min stepF_max stepF_append stepF_appendF stepF_mkMap stepF_mkIface stepF_lookup stepF_mapUpdate stepF_ext
set_option maxHeartbeats 4000000
section
variable {t : List TR} {rho : Nat → Nat} {F T R M : Nat}
structure RecOK (t : List TR) (F : Nat) (id : Int) (r : TR) : Prop where
 al : (layF t F id).align = 1 ∨ (layF t F id).align = 2 ∨ (layF t F id).align = 4
 lo : 1 ≤ (layF t F id).size
 hi : (layF t F id).size ≤ 16384
 md : (layF t F id).size % (layF t F id).align = 0
 pl : ∀ p ∈ (layF t F id).pl, PlOK (layF t F) r.mem (8 * (layF t F id).size) (layF t F id).align p ∧ begE t F p.ty = 0
 ap : r.kind = 15 → (layF t F id).pl.Pairwise fun a b => hiP (layF t F) a ≤ loP b
 un : r.kind = 16 → ∀ p ∈ (layF t F id).pl, p.off = 0 ∧ p.bit = 0
 ml : r.mem.length ≤ 64
 nl : (layF t F id).pl.length ≤ r.mem.length
theorem foldS_len (E : Int → LayT) : ∀ (l : List Mem) (i : Nat) (s : AtT), (foldS E i l s).pl.length ≤ s.pl.length + l.length := by
 intro l
 induction l with
 | nil => intro i s; simp [foldS]
 | cons m r ih =>
  intro i s
  have h1 := ih (i + 1) (stepS E s i m)
  have h2 : (stepS E s i m).pl.length ≤ s.pl.length + 1 := by
   unfold stepS
   split
   ·simp
   ·split
    ·simp
    ·simp
  simp only [foldS, List.length_cons]
  omega
theorem foldU_len (E : Int → LayT) : ∀ (l : List Mem) (i : Nat) (s : LayT), (foldU E i l s).pl.length ≤ s.pl.length + l.length := by
 intro l
 induction l with
 | nil => intro i s; simp [foldU]
 | cons m r ih =>
  intro i s
  have h1 := ih (i + 1) (stepU E s i m)
  have h2 : (stepU E s i m).pl.length ≤ s.pl.length + 1 := by
   unfold stepU
   split
   ·simp
   ·split
    ·simp
    ·simp
  simp only [foldU, List.length_cons]
  omega
theorem rec_ok (hx : Tbl t rho F) {id : Int} {r : TR} (hg : getT t id = some r) (hk : r.kind = 15 ∨ r.kind = 16) (hb : begE t F id = 0) : RecOK t F id r := by
 obtain ⟨q1, q2, q3⟩ := beg_has hb
 have hmem : r ∈ t := List.mem_of_getElem? (getT_some hg).2
 have hd : r.done = true := by
  unfold wholeS at q2
  rw [hg] at q2
  dsimp only at q2
  unfold wholeR at q2
  rw [if_neg (by omega), if_neg (by omega), if_pos hk] at q2
  exact q2
 obtain ⟨e1, e2, e3⟩ := lay_rec hx.acc hx.rank hx.hF hg hk hd q3
 have hfit := mems_fit hx.acc hx.rank hx.hF hmem hd
 obtain ⟨hl64, hwm⟩ := mem_ok (ha := hx.acc) hmem hd
 have hme := hx.acc.mems r hmem hd
 have hhas : ∀ m ∈ r.mem, hasS t m.2.1 = true := fun m hm => by
  unfold membersE at hme
  split at hme
  ·cases hme
  ·exact (memsE_has hme m hm).1
 have hbeg : ∀ m ∈ r.mem, begE t F m.2.1 = 0 := fun m hm => by
  unfold begE
  rw [if_neg (by rw [hhas m hm]; simp), if_neg (by rw [hwm m hm]; simp), if_neg (by rw [e3 m hm]; simp)]
 have hpb : ∀ (pos al : Int) (p : PlT), PlOK (layF t F) r.mem pos al p → begE t F p.ty = 0 := fun pos al p h => by
  obtain ⟨k, m, _, g2, g3, _⟩ := h.mem
  rw [← g3]; exact hbeg m (List.mem_of_getElem? g2)
 rcases hk with k | k
 ·have hraw : layF t F id = structL (layF t F) r.mem := by rw [e1]; unfold rawL; rw [if_neg (by omega), if_pos k]
  obtain ⟨s1, s2, s3, s4, s5⟩ := struct_ok hfit
  have hnl := foldS_len (layF t F) r.mem 0 ⟨0, 1, []⟩
  rw [← hraw] at s1 s2 s3 s4 s5
  refine ⟨s1, s2, e2, s3, fun p hp => ⟨s4 p hp, hpb _ _ p (s4 p hp)⟩, fun _ => s5, fun q => by omega, hl64, ?_⟩
  rw [hraw]; unfold structL; simpa using hnl
 ·have hraw : layF t F id = unionL (layF t F) r.mem := by rw [e1]; unfold rawL; rw [if_neg (by omega), if_neg (by omega), if_pos k]
  obtain ⟨s1, s2, s3, s4⟩ := union_ok hfit
  have hnl := foldU_len (layF t F) r.mem 0 ⟨1, 1, []⟩
  rw [← hraw] at s1 s2 s3 s4
  refine ⟨s1, s2, e2, s3, fun p hp => ⟨(s4 p hp).1, hpb _ _ p (s4 p hp).1⟩, fun q => by omega, fun _ p hp => (s4 p hp).2, hl64, ?_⟩
  rw [hraw]; unfold unionL; simpa using hnl
end
theorem basicR_erase (i : Nat) (r : TR) : basicR i (eraseT r) = basicR i r := rfl
theorem shapedR_erase (i : Nat) (r : TR) : shapedR i (eraseT r) = shapedR i r := rfl
theorem twice_erase (t : List TR) (i : Nat) (r : TR) : twiceS (t.map eraseT) i (eraseT r) = twiceS t i r := by
 unfold twiceS
 rw [← List.map_take, List.any_map]
 rfl
theorem acc_erase {t : List TR} (h : AccP (t.map eraseT)) : AccP t := by
 have hl : (t.map eraseT).length = t.length := List.length_map ..
 have get : ∀ (i : Nat) (r : TR), t[i]? = some r → (t.map eraseT)[i]? = some (eraseT r) := fun i r hi => by rw [List.getElem?_map, hi]; rfl
 have mem : ∀ r ∈ t, eraseT r ∈ t.map eraseT := fun r hr => List.mem_map.2 ⟨r, hr, rfl⟩
 refine ⟨by rw [← hl]; exact h.lo, by rw [← hl]; exact h.hi, fun i r hi hlt => ?_, fun i r hi hge => ?_, fun r hr hk => ?_, fun r hr hd => ?_, ?_⟩
 ·rw [← basicR_erase]; exact h.basic i _ (get i r hi) hlt
 ·rw [← shapedR_erase, ← twice_erase]; exact h.row i _ (get i r hi) hge
 ·have := h.whole _ (mem r hr) hk
  rw [whole_erase] at this; exact this
 ·have := h.mems _ (mem r hr) hd
  rw [whole_erase, kind_erase, has_erase] at this; exact this
 ·obtain ⟨rho, hr⟩ := h.rank
  refine ⟨rho, fun i w hi d hd => ?_⟩
  have := hr i _ (get i w hi) d hd
  rw [hl] at this; exact this
theorem rho_bound (rho : Nat → Nat) : ∀ n, ∃ F, ∀ i, i < n → rho i < F := by
 intro n
 induction n with
 | zero => exact ⟨0, fun i h => by omega⟩
 | succ n ih =>
  obtain ⟨F, hF⟩ := ih
  refine ⟨max F (rho n + 1), fun i hi => ?_⟩
  by_cases e : i = n
  ·subst e; omega
  ·have := hF i (by omega); omega
theorem tbl_of {rows : List TR} (hcap : ∀ w ∈ rows, w.cap = .no) (hsz : ∀ w ∈ rows, w.mem.length ≤ 16777216) (ha : AccR rows) : ∃ rho F, Tbl (tabOf rows) rho F ∧ (tabOf rows).map eraseT = rows ∧ (tabOf rows).length = rows.length := by
 have hp := acc_imp ha
 have he := tab_erase hcap hp
 have hacc : AccP (tabOf rows) := acc_erase (by rw [he]; exact hp)
 obtain ⟨rho, hr⟩ := hacc.rank
 obtain ⟨F, hF⟩ := rho_bound rho (tabOf rows).length
 refine ⟨rho, F, ⟨hacc, hr, hF, fun w hw => ?_⟩, he, tab_len hcap hp⟩
 have : eraseT w ∈ rows := by rw [← he]; exact List.mem_map.2 ⟨w, hw, rfl⟩
 show (eraseT w).mem.length ≤ 16777216
 exact hsz _ this
theorem mems_of (B : Nat) : ∀ (l : List (List AV)), (∀ r ∈ l, ∃ nm ty bits, r = [.str nm, .int .i64 ty, .int .i64 bits] ∧ nm.length ≤ B) → ∃ ms : List Mem, l = memRows ms ∧ ∀ m ∈ ms, m.1.length ≤ B := by
 intro l
 induction l with
 | nil => intro _; exact ⟨[], rfl, fun m hm => by cases hm⟩
 | cons r t ih =>
  intro h
  obtain ⟨nm, ty, bits, rfl, hn⟩ := h r List.mem_cons_self
  obtain ⟨ms, rfl, hm⟩ := ih fun q hq => h q (List.mem_cons_of_mem _ hq)
  exact ⟨(nm, ty, bits) :: ms, rfl, fun m hq => by
   rcases List.mem_cons.1 hq with rfl | hq
   ·exact hn
   ·exact hm m hq⟩
def TRok (B : Nat) (w : TR) : Prop := w.cap = .no ∧ w.tag.length ≤ B ∧ w.mem.length ≤ B ∧ ∀ m ∈ w.mem, m.1.length ≤ B
theorem rows_of (B : Nat) : ∀ (l : List (List AV)), (∀ r ∈ l, ∃ (k e n : Int) (tg : List UInt8) (ms : List (List AV)) (b : Bool), r = [.int .i64 k, .int .i64 e, .int .i64 n, .str tg, .is ms .no, .bool b] ∧ tg.length ≤ B ∧ ms.length ≤ B ∧ ∀ q ∈ ms, ∃ nm ty bits, q = [.str nm, .int .i64 ty, .int .i64 bits] ∧ nm.length ≤ B) →
  ∃ rows : List TR, l = rows.map trow ∧ ∀ w ∈ rows, TRok B w := by
 intro l
 induction l with
 | nil => intro _; exact ⟨[], rfl, fun m hm => by cases hm⟩
 | cons r t ih =>
  intro h
  obtain ⟨k, e, n, tg, ms, b, rfl, h1, h2, h3⟩ := h r List.mem_cons_self
  obtain ⟨rows, rfl, hr⟩ := ih fun q hq => h q (List.mem_cons_of_mem _ hq)
  obtain ⟨l, rfl, hl⟩ := mems_of B ms h3
  rw [memRows_len] at h2
  exact ⟨⟨k, e, n, tg, l, b, .no⟩ :: rows, rfl, fun w hq => by
   rcases List.mem_cons.1 hq with rfl | hq
   ·exact ⟨rfl, h1, h2, hl⟩
   ·exact hr w hq⟩
abbrev rowSh : Sh := .st [(.int .i64), (.int .i64), (.int .i64), .str, (.sl (.st [.str, (.int .i64), (.int .i64)])), .bool]
theorem arg_rows {B : Nat} {x : AV} (h : (Sh.sl rowSh).Arg B x) : ∃ rows : List TR, x = .is (rows.map trow) .no ∧ rows.length ≤ B ∧ ∀ w ∈ rows, TRok B w := by
 simp only [Sh.Arg, Sh.Row, RowL] at h
 obtain ⟨l, hx, hl, hr⟩ := h
 simp only [List.cons.injEq, and_true] at hx
 subst hx
 obtain ⟨rows, rfl, hw⟩ := rows_of B l fun q hq => by
  obtain ⟨_, _, rfl, ⟨k, _, rfl⟩, _, _, rfl, ⟨e, _, rfl⟩, _, _, rfl, ⟨n, _, rfl⟩, _, _, rfl, ⟨tg, ht, rfl⟩, _, _, rfl, ⟨ms, rfl, hml, hmr⟩, _, _, rfl, ⟨b, rfl⟩, rfl⟩ := hr q hq
  refine ⟨k, e, n, tg, ms, b, rfl, ht, hml, fun z hz => ?_⟩
  obtain ⟨_, _, rfl, ⟨nm, hn, rfl⟩, _, _, rfl, ⟨ty, _, rfl⟩, _, _, rfl, ⟨bits, _, rfl⟩, rfl⟩ := hmr z hz
  exact ⟨nm, ty, bits, rfl, hn⟩
 rw [List.length_map] at hl
 exact ⟨rows, rfl, hl, hw⟩
theorem arg_int {B : Nat} {x : AV} (h : (Sh.int .i64).Arg B x) : ∃ n : Int, x = .int .i64 n ∧ (Lit.int .i64 n).wf = true := by
 simp only [Sh.Arg, Sh.Row] at h
 obtain ⟨n, hn, hx⟩ := h
 simp only [List.cons.injEq, and_true] at hx
 exact ⟨n, hx, hn⟩
theorem trok_sz {rows : List TR} (h : ∀ w ∈ rows, TRok 1048576 w) : (∀ w ∈ rows, w.cap = .no) ∧ ∀ w ∈ rows, w.tag.length ≤ 1048576 ∧ w.mem.length ≤ 16777216 ∧ ∀ m ∈ w.mem, m.1.length ≤ 1048576 :=
 ⟨fun w hw => (h w hw).1, fun w hw => ⟨(h w hw).2.1, by have := (h w hw).2.2.1; omega, (h w hw).2.2.2⟩⟩
abbrev HopT := List UInt8 × Int
def hopRow (h : HopT) : List AV := [.str h.1, .int .i64 h.2]
def hopRows (l : List HopT) : List (List AV) := l.map hopRow
def zpl : PlT := ⟨0, 0, 0, 0, 0⟩
def isN (ms : List Mem) (nm : List UInt8) (p : PlT) : Bool := match ms[p.mem.toNat]? with | some m => decide (m.1 = nm) | none => false
def namedS (ms : List Mem) (pl : List PlT) (nm : List UInt8) : Option PlT := pl.find? (isN ms nm)
def stepW (t : List TR) (F : Nat) (w : PlT) (h : HopT) : Option PlT :=
 match getT t w.ty with
 | none => none
 | some x =>
  if h.1 = [] then (if x.kind ≠ 14 ∨ 0 < w.bits ∨ h.2 < 0 ∨ x.len ≤ h.2 then none else some { w with off := w.off + h.2 * (layF t F x.elem).size, ty := x.elem })
  else if ¬ (x.kind = 15 ∨ x.kind = 16) then none
  else match namedS x.mem (layF t F w.ty).pl h.1 with
   | none => none
   | some p => some { p with off := p.off + w.off }
def walkS (t : List TR) (F : Nat) : PlT → List HopT → Option PlT
 | w, [] => some w
 | w, h :: r => match stepW t F w h with
  | none => none
  | some w' => walkS t F w' r
theorem walkS_app (t : List TR) (F : Nat) : ∀ (a b : List HopT) (w : PlT), walkS t F w (a ++ b) = (walkS t F w a).bind fun w' => walkS t F w' b := by
 intro a
 induction a with
 | nil => intro b w; rfl
 | cons h r ih =>
  intro b w
  simp only [List.cons_append, walkS]
  cases stepW t F w h with
  | none => rfl
  | some w' => exact ih b w'
def Shift (d : Int) (a b : PlT) : Prop := b.ty = a.ty ∧ b.off = a.off + d ∧ b.bit = a.bit ∧ b.bits = a.bits
theorem step_shift {t : List TR} {F : Nat} {d : Int} {a b : PlT} (h : Shift d a b) (hp : HopT) : (stepW t F a hp = none ∧ stepW t F b hp = none) ∨ ∃ a' b', stepW t F a hp = some a' ∧ stepW t F b hp = some b' ∧ Shift d a' b' := by
 obtain ⟨h1, h2, h3, h4⟩ := h
 unfold stepW
 rw [h1, h4]
 cases hg : getT t a.ty with
 | none => exact .inl ⟨rfl, rfl⟩
 | some x =>
  simp only
  by_cases c1 : hp.1 = []
  ·rw [if_pos c1, if_pos c1]
   by_cases c2 : x.kind ≠ 14 ∨ 0 < a.bits ∨ hp.2 < 0 ∨ x.len ≤ hp.2
   ·rw [if_pos c2, if_pos c2]; exact .inl ⟨rfl, rfl⟩
   ·rw [if_neg c2, if_neg c2]
    exact .inr ⟨_, _, rfl, rfl, rfl, by simp only; omega, h3, rfl⟩
  ·rw [if_neg c1, if_neg c1]
   by_cases c2 : ¬ (x.kind = 15 ∨ x.kind = 16)
   ·rw [if_pos c2, if_pos c2]; exact .inl ⟨rfl, rfl⟩
   ·rw [if_neg c2, if_neg c2]
    cases namedS x.mem (layF t F a.ty).pl hp.1 with
    | none => exact .inl ⟨rfl, rfl⟩
    | some p => exact .inr ⟨_, _, rfl, rfl, rfl, by simp only; omega, rfl, rfl⟩
theorem walk_shift {t : List TR} {F : Nat} {d : Int} : ∀ (l : List HopT) {a b : PlT}, Shift d a b → (walkS t F a l = none ∧ walkS t F b l = none) ∨ ∃ a' b', walkS t F a l = some a' ∧ walkS t F b l = some b' ∧ Shift d a' b' := by
 intro l
 induction l with
 | nil => intro a b h; exact .inr ⟨a, b, rfl, rfl, h⟩
 | cons hp r ih =>
  intro a b h
  unfold walkS
  rcases step_shift (t := t) (F := F) h hp with ⟨e1, e2⟩ | ⟨a', b', e1, e2, h'⟩
  ·rw [e1, e2]; exact .inl ⟨rfl, rfl⟩
  ·rw [e1, e2]; exact ih h'
structure WOK (t : List TR) (F : Nat) (n : Nat) (w : PlT) : Prop where
 whole : wholeS t w.ty = true
 big : bigF t F w.ty = false
 lo : 0 ≤ w.off
 hi : w.off ≤ n * 300000000
 bits : 0 ≤ w.bits
 bit : w.bits = 0 → w.bit = 0
theorem named_mem {ms : List Mem} {pl : List PlT} {nm : List UInt8} {p : PlT} (h : namedS ms pl nm = some p) : p ∈ pl := List.mem_of_find?_eq_some h
theorem hop_wok {t : List TR} {rho : Nat → Nat} {F n : Nat} (hx : Tbl t rho F) {w w' : PlT} {h : HopT} (hw : WOK t F n w) (hs : stepW t F w h = some w') : WOK t F (n + 1) w' := by
 unfold stepW at hs
 cases hg : getT t w.ty with
 | none => rw [hg] at hs; cases hs
 | some x =>
  rw [hg] at hs
  simp only at hs
  obtain ⟨g0, gi⟩ := getT_some hg
  have hb : begE t F w.ty = 0 := by
   have h0 : hasS t w.ty = true := by unfold hasS; rw [hg]; rfl
   unfold begE
   rw [if_neg (by rw [h0]; decide), if_neg (by rw [hw.whole]; decide), if_neg (by rw [hw.big]; decide)]
  have hlo := hw.lo
  have hhi := hw.hi
  by_cases c1 : h.1 = []
  ·rw [if_pos c1] at hs
   by_cases c2 : x.kind ≠ 14 ∨ 0 < w.bits ∨ h.2 < 0 ∨ x.len ≤ h.2
   ·rw [if_pos c2] at hs; cases hs
   ·rw [if_neg c2] at hs
    simp only [not_or, Int.not_lt, Int.not_le, ne_eq, Decidable.not_not] at c2
    obtain ⟨k14, b0, i0, il⟩ := c2
    simp only [Option.some.injEq] at hs
    subst hs
    have wel : wholeS t x.elem = true := hx.acc.whole x (List.mem_of_getElem? gi) k14
    have fin := (whole_fine hx.acc hx.rank hx.hF (rho x.elem.toNat + 1) x.elem (by omega) wel).1
    have e := (lay_eq hx.rank hx.hF hg).2
    rw [hw.big] at e
    simp only [Bool.false_eq, Bool.or_eq_false_iff, decide_eq_false_iff_not] at e
    have be : bigF t F x.elem = false := by
     have := List.any_eq_false.1 e.2 x.elem (by unfold deps; rw [if_pos k14]; simp)
     simpa using this
    have n11 : ¬ w.ty.toNat < 11 := fun c => by
     have := hx.acc.basic _ x gi c
     simp only [basicR, decide_eq_true_eq] at this
     omega
    have hlen : x.len ≤ 16384 := by
     have := (hx.acc.row _ x gi (by omega)).1
     unfold shapedR at this
     rw [if_neg (by omega), if_pos k14] at this
     simp only [Bool.and_eq_true, longS, decide_eq_true_eq] at this
     omega
    have flo := fin.lo
    have fhi := fin.hi
    have m1 := Int.mul_le_mul (a := h.2) (b := (layF t F x.elem).size) (c := 16384) (d := 16385) (by omega) fhi (by omega) (by omega)
    have m0 := Int.mul_nonneg (a := h.2) (b := (layF t F x.elem).size) i0 (by omega)
    exact ⟨wel, be, by simp only; omega, by simp only; push_cast; omega, hw.bits, hw.bit⟩
  ·rw [if_neg c1] at hs
   by_cases c2 : ¬ (x.kind = 15 ∨ x.kind = 16)
   ·rw [if_pos c2] at hs; cases hs
   ·rw [if_neg c2] at hs
    have k15 : x.kind = 15 ∨ x.kind = 16 := Decidable.not_not.1 c2
    cases hn : namedS x.mem (layF t F w.ty).pl h.1 with
    | none => rw [hn] at hs; cases hs
    | some p =>
     rw [hn] at hs
     simp only [Option.some.injEq] at hs
     subst hs
     have hr := rec_ok hx hg k15 hb
     obtain ⟨hp, hb2⟩ := hr.pl p (named_mem hn)
     have hsz := hr.hi
     obtain ⟨_, q2, q3⟩ := beg_has hb2
     have h1 := hp.hi
     have h2 := hp.off
     have h3 := hp.bit
     have h4 := hp.lo
     have h5 : 0 ≤ p.bits := by
      obtain ⟨k, m, _, _, _, e, _⟩ := hp.mem
      rw [← e]; omega
     have h6 : 8 * p.off ≤ 8 * (layF t F w.ty).size := by
      unfold hiP loP at h1
      have := hp.fine.lo
      split at h1 <;> omega
     exact ⟨q2, q3, by simp only; omega, by simp only; push_cast; omega, h5, h3.1⟩
theorem plrow_at {l : List PlT} {i : Nat} {p : PlT} (h : l[i]? = some p) : (plRows l)[i]? = some (plRow p) := by
 unfold plRows
 rw [List.getElem?_map, h]
 rfl
theorem pldrop_cons {l : List PlT} {k : Nat} {p : PlT} (h : l[k]? = some p) : l.drop k = p :: l.drop (k + 1) := by
 obtain ⟨h1, h2⟩ := List.getElem?_eq_some_iff.1 h
 rw [List.drop_eq_getElem_cons h1, h2]
theorem named_loop (a0 a1 a2 a3 a5 : AV) (ms : List Mem) (pl : List PlT) (nm : List UInt8) (hnm : nm ≠ []) (hpl : ∀ p ∈ pl, ∃ (k : Nat) (m : Mem), p.mem = k ∧ ms[k]? = some m) (hl : pl.length ≤ 1000) : ∀ (n k : Nat) (Z : Heap), k + n = pl.length → Z.length = k →
  (∀ p, (pl.drop k).find? (isN ms nm) = some p → ∃ Z', Brun tab 33 (.loop f40l2) (ofL [(2, .str nm), (3, .ip [a0, a1, a2, a3, .is (memRows ms) .no, a5] 0), (6, .mp 0 0), (11, .is (plRows pl) .no), (12, .int .i64 pl.length), (13, .int .i64 k)]) (.cells [.int .i64 0, .int .i64 0, .int .i64 0, .int .i64 0, .int .i64 0] :: Z) =
   some (.ret, ofL [(6, .mp 0 0), (7, .bool true)], .cells (plRow p) :: Z')) ∧
  ((pl.drop k).find? (isN ms nm) = none → ∃ E' Z', Brun tab 33 (.loop f40l2) (ofL [(2, .str nm), (3, .ip [a0, a1, a2, a3, .is (memRows ms) .no, a5] 0), (6, .mp 0 0), (11, .is (plRows pl) .no), (12, .int .i64 pl.length), (13, .int .i64 k)]) (.cells [.int .i64 0, .int .i64 0, .int .i64 0, .int .i64 0, .int .i64 0] :: Z) =
   some (.exit 0, ofL ((2, .str nm) :: (3, .ip [a0, a1, a2, a3, .is (memRows ms) .no, a5] 0) :: (6, .mp 0 0) :: E'), .cells [.int .i64 0, .int .i64 0, .int .i64 0, .int .i64 0, .int .i64 0] :: Z')) := by
 have hll : (plRows pl).length = pl.length := by unfold plRows; exact List.length_map ..
 intro n
 induction n with
 | zero =>
  intro k Z hk hZ
  have e : pl.drop k = [] := List.drop_eq_nil_of_le (by omega)
  rw [e]
  refine ⟨fun p h => (by cases h), fun _ => ⟨[(11, .is (plRows pl) .no), (12, .int .i64 pl.length), (13, .int .i64 k), (14, .bool false)], Z, ?_⟩⟩
  have q1 : ¬ (k : Int) < pl.length := by omega
  have q2 : (pl.length : Int) ≤ k := by omega
  rw [Brun_loop, f40l2_b]
  unfold f40m2
  generalize plRows pl = PL at *
  clear hpl hl hk hZ e
  repeat (any_goals first | simp (dsimp := false) (maxSteps := 4000000) (maxDischargeDepth := 8) (implicitDefEqProofs := false) [*, -Int.not_le, -Int.not_lt, amLt, f40c, f40m2, f40r0, f40r1, f40r2, f40r3, f40r4, f40r5, f40r6, f40r7, f40l2_b] | with_reducible (first | apply cB | apply iB) <;> intro _ | intro _)
 | succ n ih =>
  intro k Z hk hZ
  have c1 : k < pl.length := by omega
  have gl := List.getElem?_eq_getElem c1
  have q1 : (k : Int) < pl.length := by omega
  have rl := plrow_at gl
  have rl2 : ∀ hh, (plRows pl)[k]'hh = _ := fun hh => (List.getElem?_eq_some_iff.1 rl).2
  obtain ⟨km, m, e1, e2⟩ := hpl _ (List.getElem_mem c1)
  have hmr : (memRows ms)[km]? = some [.str m.1, .int .i64 m.2.1, .int .i64 m.2.2] := by unfold memRows; rw [List.getElem?_map, e2]; rfl
  have hmr2 : ∀ hh, (memRows ms)[km]'hh = _ := fun hh => (List.getElem?_eq_some_iff.1 hmr).2
  have hml : (memRows ms).length = ms.length := memRows_len ms
  have lkm := (List.getElem?_eq_some_iff.1 e2).1
  have q3 : (km : Int) < ms.length := by omega
  have hw : IntKind.i64.wrap ((k : Int) + 1) = (k : Int) + 1 := IntWalk.i64_in _ (by omega)
  have hisn : isN ms nm pl[k] = decide (m.1 = nm) := by
   unfold isN
   rw [e1]
   have : ms[((km : Nat) : Int).toNat]? = some m := e2
   rw [this]
  have g0 : ∀ (x : Blk) (y : Heap), (x :: (Z ++ y))[0]? = some x := fun x y => rfl
  have g1 : ∀ (x : Blk) (y : Heap) (b : Blk), (x :: (Z ++ b :: y))[Z.length + 1]? = some b := fun x y b => by
   rw [List.getElem?_cons_succ, List.getElem?_append_right (Nat.le_refl _), Nat.sub_self]; rfl
  rw [pldrop_cons gl, List.find?_cons, hisn]
  by_cases cn : m.1 = nm
  ·rw [show decide (m.1 = nm) = true by simpa using cn]
   refine ⟨fun p hp => ?_, fun h => (by cases h)⟩
   simp only [Option.some.injEq] at hp
   refine ⟨Z ++ [.cells (plRow p)], ?_⟩
   rw [hp] at rl rl2 e1
   rw [Brun_loop, f40l2_b]
   unfold f40m2
   unfold plRow at *
   rw [e1] at rl rl2
   rw [e1]
   generalize plRows pl = PL at *
   generalize memRows ms = MS at *
   clear hpl hl hk hZ gl c1 ih e2 lkm hp hisn e1
   repeat (any_goals first | simp (dsimp := false) (maxSteps := 4000000) (maxDischargeDepth := 8) (implicitDefEqProofs := false) [*, -Int.not_le, -Int.not_lt, amLt, f40c, f40m2, f40r0, f40r1, f40r2, f40r3, f40r4, f40r5, f40r6, f40r7, f40l2_b] | with_reducible (first | apply cB | apply iB) <;> intro _ | intro _)
  ·rw [show decide (m.1 = nm) = false by simpa using cn]
   obtain ⟨i1, i2⟩ := ih (k + 1) (Z ++ [.cells (plRow pl[k])]) (by omega) (by simp; omega)
   push_cast at i1 i2
   simp only
   constructor
   ·intro p hp
    obtain ⟨Z', h⟩ := i1 p hp
    refine ⟨Z', ?_⟩
    rw [Brun_loop]
    generalize Brun tab 33 (.loop f40l2) = L at *
    rw [f40l2_b]
    unfold f40m2
    rw [← h]
    generalize pl[k] = pk at *
    unfold plRow at *
    rw [e1] at rl rl2
    rw [e1]
    generalize plRows pl = PL at *
    generalize memRows ms = MS at *
    clear hpl hl hk hZ gl c1 ih e2 lkm hisn e1 i1 i2 h hp
    repeat (any_goals first | simp (dsimp := false) (maxSteps := 4000000) (maxDischargeDepth := 8) (implicitDefEqProofs := false) [*, -Int.not_le, -Int.not_lt, amLt, f40c, f40m2, f40r0, f40r1, f40r2, f40r3, f40r4, f40r5, f40r6, f40r7, f40l2_b] | with_reducible (first | apply cB | apply iB) <;> intro _ | intro _)
   ·intro hp
    obtain ⟨E', Z', h⟩ := i2 hp
    refine ⟨E', Z', ?_⟩
    rw [Brun_loop]
    generalize Brun tab 33 (.loop f40l2) = L at *
    rw [f40l2_b]
    unfold f40m2
    rw [← h]
    generalize pl[k] = pk at *
    unfold plRow at *
    rw [e1] at rl rl2
    rw [e1]
    generalize plRows pl = PL at *
    generalize memRows ms = MS at *
    clear hpl hl hk hZ gl c1 ih e2 lkm hisn e1 i1 i2 h hp
    repeat (any_goals first | simp (dsimp := false) (maxSteps := 4000000) (maxDischargeDepth := 8) (implicitDefEqProofs := false) [*, -Int.not_le, -Int.not_lt, amLt, f40c, f40m2, f40r0, f40r1, f40r2, f40r3, f40r4, f40r5, f40r6, f40r7, f40l2_b] | with_reducible (first | apply cB | apply iB) <;> intro _ | intro _)
def plAns (o : Option PlT) : AV := match o with | some p => .tup [.agg (plRow p), .bool true] | none => .tup [.agg [.int .i64 0, .int .i64 0, .int .i64 0, .int .i64 0, .int .i64 0], .bool false]
theorem named_ok (h : Heap) (x : TR) (l : LayT) (c : Cap) (nm : List UInt8) (hnm : nm ≠ []) (hpl : ∀ p ∈ l.pl, ∃ (k : Nat) (m : Mem), p.mem = k ∧ x.mem[k]? = some m) (hl : l.pl.length ≤ 1000) :
  Ccall tab 40 [.agg (trow (eraseT x)), layV l c, .str nm] h = some (plAns (namedS x.mem l.pl nm), h) := by
 have hlp := named_loop (.int .i64 x.kind) (.int .i64 x.elem) (.int .i64 x.len) (.str x.tag) (.bool x.done) x.mem l.pl nm hnm hpl hl l.pl.length 0 [] (by omega) rfl
 rw [List.drop_zero] at hlp
 have hll : (plRows l.pl).length = l.pl.length := by unfold plRows; exact List.length_map ..
 unfold namedS
 refine Ccall_own rfl rfl rfl rfl ?_
 unfold trow eraseT layV
 cases hf : l.pl.find? (isN x.mem nm) with
 | some p =>
  obtain ⟨Z', hb⟩ := hlp.1 p hf
  unfold plAns
  unfold plRow at *
  simp only [Int.natCast_zero] at hb
  generalize plRows l.pl = PL at *
  generalize memRows x.mem = MS at *
  clear hpl hl hlp hf
  repeat (any_goals first | simp (dsimp := false) (maxSteps := 4000000) (maxDischargeDepth := 8) (implicitDefEqProofs := false) [*, -Int.not_le, -Int.not_lt, amLt, f40c, f40m2, f40r0, f40r1, f40r2, f40r3, f40r4, f40r5, f40r6, f40r7, f40l2_b] | with_reducible (first | apply cB | apply iB) <;> intro _ | intro _)
 | none =>
  obtain ⟨E', Z', hb⟩ := hlp.2 hf
  unfold plAns
  simp only [Int.natCast_zero] at hb
  generalize plRows l.pl = PL at *
  generalize memRows x.mem = MS at *
  clear hpl hl hlp hf
  repeat (any_goals first | simp (dsimp := false) (maxSteps := 4000000) (maxDischargeDepth := 8) (implicitDefEqProofs := false) [*, -Int.not_le, -Int.not_lt, amLt, f40c, f40m2, f40r0, f40r1, f40r2, f40r3, f40r4, f40r5, f40r6, f40r7, f40l2_b] | with_reducible (first | apply cB | apply iB) <;> intro _ | intro _)
section
variable {t : List TR} {rho : Nat → Nat} {F T R M K KM : Nat}
theorem look_beside (hx : Tbl t rho F) {H : Heap} {es : Ents} {ck : Nat} (hK : KInv t F T R M K KM H es ck false) (id : Int) (hw : wholeS t id = true) (hb : bigF t F id = false) {l1 l2 l3 : Nat} {b1 b2 b3 : Blk}
  (h1 : H[l1]? = some b1) (h2 : H[l2]? = some b2) (h3 : H[l3]? = some b3) (n1 : l1 ≠ T ∧ l1 ≠ R ∧ l1 ≠ K ∧ l1 ≠ KM) (n2 : l2 ≠ T ∧ l2 ≠ R ∧ l2 ≠ K ∧ l2 ≠ KM) (n3 : l3 ≠ T ∧ l3 ≠ R ∧ l3 ≠ K ∧ l3 ≠ KM) (d12 : l1 ≠ l2) (d13 : l1 ≠ l3) (d23 : l2 ≠ l3) :
  ∃ (G : Heap) (es' : Ents) (ck' : Nat) (cap : Cap) (w : List Nat), KInv t F T R M K KM G es' ck' false ∧ Ext2 K KM H G ∧ Acall tab 39 [.mp K 0, .int .i64 id] H = some (layV (layF t F id) cap, G, w) ∧
   w.contains l1 = false ∧ w.contains l2 = false ∧ w.contains l3 = false ∧ ∀ j, H[j]? = some .free → w.contains j = false := by
 have u1 := (List.getElem?_eq_some_iff.1 h1).1
 have u2 := (List.getElem?_eq_some_iff.1 h2).1
 have u3 := (List.getElem?_eq_some_iff.1 h3).1
 have hs : ∀ j, j ≠ l1 → j ≠ l2 → j ≠ l3 → (((H.set l1 .free).set l2 .free).set l3 .free)[j]? = H[j]? := fun j a1 a2 a3 => by
  rw [List.getElem?_set_ne (Ne.symm a3), List.getElem?_set_ne (Ne.symm a2), List.getElem?_set_ne (Ne.symm a1)]
 have hK3 : KInv t F T R M K KM (((H.set l1 .free).set l2 .free).set l3 .free) es ck false :=
  hK.keep ⟨hs T (Ne.symm n1.1) (Ne.symm n2.1) (Ne.symm n3.1), hs R (Ne.symm n1.2.1) (Ne.symm n2.2.1) (Ne.symm n3.2.1), hs K (Ne.symm n1.2.2.1) (Ne.symm n2.2.2.1) (Ne.symm n3.2.2.1), hs KM (Ne.symm n1.2.2.2) (Ne.symm n2.2.2.2) (Ne.symm n3.2.2.2)⟩
 obtain ⟨G', es', ck', cap, hKG, hE, hlook⟩ := look_all hx.acc hx.rank hx.hF hx.sz (rho id.toNat + 1) id (by omega) hw _ es ck false hK3
 unfold Ccall at hlook
 obtain ⟨⟨v4, G4, w⟩, hA, hA2⟩ := Option.map_eq_some_iff.1 hlook
 simp only [Prod.mk.injEq] at hA2
 obtain ⟨rfl, rfl⟩ := hA2
 have hl := hE.1
 simp only [List.length_set] at hl
 obtain ⟨hA, m3, _⟩ := Acall_beside (b := b3) (by rw [List.getElem?_set_ne d23, List.getElem?_set_ne d13]; exact h3) hA
 obtain ⟨hA, m2, _⟩ := Acall_beside (b := b2) (by rw [List.getElem?_set_ne d12]; exact h2) hA
 obtain ⟨hA, m1, _⟩ := Acall_beside (b := b1) h1 hA
 have hg : ∀ j, j ≠ l1 → j ≠ l2 → j ≠ l3 → (((G4.set l3 b3).set l2 b2).set l1 b1)[j]? = G4[j]? := fun j a1 a2 a3 => by
  rw [List.getElem?_set_ne (Ne.symm a1), List.getElem?_set_ne (Ne.symm a2), List.getElem?_set_ne (Ne.symm a3)]
 rw [hb, Bool.or_false] at hKG
 refine ⟨((G4.set l3 b3).set l2 b2).set l1 b1, es', ck', cap, w, hKG.keep ⟨hg T (Ne.symm n1.1) (Ne.symm n2.1) (Ne.symm n3.1), hg R (Ne.symm n1.2.1) (Ne.symm n2.2.1) (Ne.symm n3.2.1), hg K (Ne.symm n1.2.2.1) (Ne.symm n2.2.2.1) (Ne.symm n3.2.2.1), hg KM (Ne.symm n1.2.2.2) (Ne.symm n2.2.2.2) (Ne.symm n3.2.2.2)⟩, ⟨by simp only [List.length_set]; exact hl, fun j hj a1 a2 => ?_⟩, hA, m1, m2, m3, fun j hj => ?_⟩
 ·by_cases c1 : j = l1
  ·subst c1; rw [List.getElem?_set, if_pos rfl, if_pos (by simp only [List.length_set]; omega), h1]
  ·rw [List.getElem?_set_ne (Ne.symm c1)]
   by_cases c2 : j = l2
   ·subst c2; rw [List.getElem?_set, if_pos rfl, if_pos (by simp only [List.length_set]; omega), h2]
   ·rw [List.getElem?_set_ne (Ne.symm c2)]
    by_cases c3 : j = l3
    ·subst c3; rw [List.getElem?_set, if_pos rfl, if_pos (by omega), h3]
    ·rw [List.getElem?_set_ne (Ne.symm c3), hE.2 j (by simp only [List.length_set]; exact hj) a1 a2, hs j c1 c2 c3]
 ·have := (Acall_grow _ _ _ _ _ _ hA j hj .dead).2.2
  simpa using this
theorem r12_ok {H G : Heap} {w : List Nat} {l : LayT} {cap : Cap} {elem : Int} (hA : Acall tab 39 [.mp K 0, .int .i64 elem] H = some (layV l cap, G, w)) {L6 L11 L13 L14 : Nat} {w11 : w.contains L11 = false} {w13 : w.contains L13 = false} {w14 : w.contains L14 = false}
  (a0 a1 a3 a4 c0 d0 d2 d3 d4 d5 hs : AV) (off k n i : Int) (h11 : H[L11]? = some (.cells [a0, a1, .int .i64 off, a3, a4])) (h13 : H[L13]? = some (.cells [c0, .int .i64 k])) (h14 : H[L14]? = some (.cells [d0, .int .i64 elem, d2, d3, d4, d5])) (g11 : G[L11]? = some (.cells [a0, a1, .int .i64 off, a3, a4]))
  (m1 : IntKind.i64.wrap (k * l.size) = k * l.size) (m2 : IntKind.i64.wrap (off + k * l.size) = off + k * l.size) :
  Brun tab 112 (.region true f19r12 [0, 6, 8, 11, 14, 31, 32, 33] 0) (ofL [(0, .mp T 0), (6, .mp L6 0), (8, .mp K 0), (11, .mp L11 0), (13, .mp L13 0), (14, .mp L14 0), (31, hs), (32, .int .i64 n), (33, .int .i64 i), (66, .bool false)]) H =
   some (.normal, ofL [(0, .mp T 0), (6, .mp L6 0), (8, .mp K 0), (11, .mp L11 0), (14, .mp L14 0), (31, hs), (32, .int .i64 n), (33, .int .i64 i)], List.set G L11 (.cells [a0, a1, .int .i64 (off + k * l.size), a3, a4])) := by
 have u11 := (List.getElem?_eq_some_iff.1 h11).1
 have u13 := (List.getElem?_eq_some_iff.1 h13).1
 have u14 := (List.getElem?_eq_some_iff.1 h14).1
 have f11 : ∀ hh, H[L11]'hh = _ := fun hh => (List.getElem?_eq_some_iff.1 h11).2
 have f13 : ∀ hh, H[L13]'hh = _ := fun hh => (List.getElem?_eq_some_iff.1 h13).2
 have f14 : ∀ hh, H[L14]'hh = _ := fun hh => (List.getElem?_eq_some_iff.1 h14).2
 have e11 : ¬ L11 ∈ w := by simpa using w11
 have e13 : ¬ L13 ∈ w := by simpa using w13
 have e14 : ¬ L14 ∈ w := by simpa using w14
 unfold layV at hA
 generalize plRows l.pl = PL at *
 generalize l.size = sz at *
 generalize l.align = al at *
 refine Brun_told ?_
 simp [*, f19r12, f19q12, asteps, astep, stepRun, aop, HC.run, HC.rds, HC.wrs, HC.ofOpt, Blk.isFree, wanted, put, cellsOf, isSc, splice, cget, slen, ssz, scells, roomy, rowsz, Cap.tight, drawOK, freeOf, Rec.indep, disj, apart, AOper.looks, AOp.tmps, AO.tmps, pTmps, oTmps, Nat.testBit, ofL, isPure, tab, f39, fillp, imm, imm.immL, abin]
theorem r16_ok {H G : Heap} {w w2 : List Nat} {l : LayT} {cap : Cap} {ty : Int} (hA : Acall tab 39 [.mp K 0, .int .i64 ty] (H ++ [.free]) = some (layV l cap, G, w)) {L6 L11 L13 L14 : Nat} (w11 : w.contains L11 = false) (w13 : w.contains L13 = false) (w14 : w.contains L14 = false) (wn : w.contains H.length = false)
  (a0 a2 a3 a4 c1 d0 d1 d2 d3 d4 d5 hs b : AV) (nm : List UInt8) (n i : Int) (p : PlT) (h11 : H[L11]? = some (.cells [a0, .int .i64 ty, a2, a3, a4])) (h13 : H[L13]? = some (.cells [.str nm, c1])) (h14 : H[L14]? = some (.cells [d0, d1, d2, d3, d4, d5])) (gs : G[H.length]? = some .free) (g13 : G[L13]? = some (.cells [.str nm, c1]))
  (hN : Acall tab 40 [.agg [d0, d1, d2, d3, d4, d5], layV l cap, .str nm] G = some (.tup [.agg (plRow p), b], G, w2)) (him : imm.immL [d0, d1, d2, d3, d4, d5] = true) :
  Brun tab 112 (.region true f19r16 [0, 6, 8, 11, 16, 17, 31, 32, 33] 1) (ofL [(0, .mp T 0), (6, .mp L6 0), (8, .mp K 0), (11, .mp L11 0), (13, .mp L13 0), (14, .mp L14 0), (31, hs), (32, .int .i64 n), (33, .int .i64 i), (87, .bool false)]) H =
   some (.normal, ofL [(0, .mp T 0), (6, .mp L6 0), (8, .mp K 0), (11, .mp L11 0), (16, .mp H.length 0), (17, b), (31, hs), (32, .int .i64 n), (33, .int .i64 i)], List.set G H.length (.cells (plRow p))) := by
 have u11 := (List.getElem?_eq_some_iff.1 h11).1
 have u13 := (List.getElem?_eq_some_iff.1 h13).1
 have u14 := (List.getElem?_eq_some_iff.1 h14).1
 have f11 : ∀ x, (H ++ x)[L11]? = _ := fun x => rapp h11 x
 have f13 : ∀ x, (H ++ x)[L13]? = _ := fun x => rapp h13 x
 have f14 : ∀ x, (H ++ x)[L14]? = _ := fun x => rapp h14 x
 have f11' : ∀ x hh, (H ++ x)[L11]'hh = _ := fun x hh => (List.getElem?_eq_some_iff.1 (f11 x)).2
 have f13' : ∀ x hh, (H ++ x)[L13]'hh = _ := fun x hh => (List.getElem?_eq_some_iff.1 (f13 x)).2
 have f14' : ∀ x hh, (H ++ x)[L14]'hh = _ := fun x hh => (List.getElem?_eq_some_iff.1 (f14 x)).2
 have v11 : L11 < H.length + 1 := by omega
 have v13 : L13 < H.length + 1 := by omega
 have v14 : L14 < H.length + 1 := by omega
 have e11 : ¬ L11 ∈ w := by simpa using w11
 have e13 : ¬ L13 ∈ w := by simpa using w13
 have e14 : ¬ L14 ∈ w := by simpa using w14
 have en : ¬ H.length ∈ w := by simpa using wn
 have gs2 : ∀ x, (G.set H.length x)[H.length]? = some x := fun x => by
  rw [List.getElem?_set, if_pos rfl, if_pos (List.getElem?_eq_some_iff.1 gs).1]
 have ss : ∀ x y, (G.set H.length x).set H.length y = G.set H.length y := fun x y => List.set_set ..
 have hil : imm (layV l cap) = true := by unfold layV; simp [imm, imm.immL]
 have hpu : isPure tab 40 [.agg [d0, d1, d2, d3, d4, d5], layV l cap, .str nm] = true := by
  simp [isPure, tab, f40, imm, imm.immL] at him ⊢
  simp [him, hil]
 unfold plRow at hN ⊢
 generalize layV l cap = lv at *
 have him2 : imm d0 = true ∧ imm d1 = true ∧ imm d2 = true ∧ imm d3 = true ∧ imm d4 = true ∧ imm d5 = true := by simpa [imm.immL] using him
 obtain ⟨i0, i1, i2, i3, i4, i5⟩ := him2
 have x11 : ¬ H.length = L11 := by omega
 have x13 : ¬ H.length = L13 := by omega
 have x14 : ¬ H.length = L14 := by omega
 clear u11 u13 u14 h11 h13 h14 him
 refine Brun_told ?_
 simp [*, f19r16, asteps, astep, stepRun, aop, HC.run, HC.rds, HC.wrs, HC.ofOpt, Blk.isFree, wanted, put, cellsOf, isSc, splice, cget, slen, ssz, scells, roomy, rowsz, Cap.tight, drawOK, freeOf, fresh, Rec.indep, disj, apart, AOper.looks, AOp.tmps, AO.tmps, pTmps, oTmps, Nat.testBit, ofL, isPure, tab, f40, f39, fillp, imm.immL, abin]
end
def zeroC : Blk := .cells [.int .i64 0, .int .i64 0, .int .i64 0, .int .i64 0, .int .i64 0]
structure WInv (t : List TR) (F T R M K KM L6 L11 : Nat) (H0 G : Heap) (w : PlT) : Prop where
 k : ∃ es ck, KInv t F T R M K KM G es ck false
 g6 : G[L6]? = some zeroC
 g11 : G[L11]? = some (.cells (plRow w))
 ne : L6 ≠ T ∧ L6 ≠ R ∧ L6 ≠ K ∧ L6 ≠ KM ∧ L11 ≠ T ∧ L11 ≠ R ∧ L11 ≠ K ∧ L11 ≠ KM ∧ L6 ≠ L11
 old : H0.length ≤ L6 ∧ H0.length ≤ L11 ∧ H0.length ≤ K ∧ H0.length ≤ KM ∧ ∀ j, j < H0.length → G[j]? = H0[j]?
 len : H0.length ≤ G.length
section
variable {t : List TR} {rho : Nat → Nat} {F T R M K KM L6 L11 : Nat} {H0 : Heap}
theorem hop_bad1 (hx : Tbl t rho F) {G : Heap} {w : PlT} (hi : WInv t F T R M K KM L6 L11 H0 G w) {n : Nat} (hw : WOK t F n w) (hl : List HopT) (c : Cap) (i : Nat) {h : HopT} (hh : hl[i]? = some h) (hn : h.1 = []) (hs : stepW t F w h = none) :
  ∃ E' Y, Brun tab 112 f19l6 (ofL [(0, .mp T 0), (6, .mp L6 0), (8, .mp K 0), (11, .mp L11 0), (31, .is (hopRows hl) c), (32, .int .i64 hl.length), (33, .int .i64 i)]) G =
   some (.ret, ofL ((6, .mp L6 0) :: (7, .int .i64 30) :: E'), G ++ Y) := by
 obtain ⟨es, ck, hK⟩ := hi.k
 unfold stepW at hs
 cases hg : getT t w.ty with
 | none =>
  have := hw.whole
  unfold wholeS at this
  rw [hg] at this
  cases this
 | some x =>
  rw [hg] at hs
  simp only at hs
  rw [if_pos hn] at hs
  have hc : x.kind ≠ 14 ∨ 0 < w.bits ∨ h.2 < 0 ∨ x.len ≤ h.2 := by
   by_cases c : x.kind ≠ 14 ∨ 0 < w.bits ∨ h.2 < 0 ∨ x.len ≤ h.2
   ·exact c
   ·rw [if_neg c] at hs; cases hs
  obtain ⟨_, gi⟩ := getT_some hg
  have hrow := fun x0 => trow_ok (hK.tab.app x0) hg (hx.sz x (List.mem_of_getElem? gi))
  have hrl : (hopRows hl)[i]? = some [.str [], .int .i64 h.2] := by unfold hopRows; rw [List.getElem?_map, hh]; unfold hopRow; rw [Option.map_some, hn]
  have hrl2 : ∀ hh, (hopRows hl)[i]'hh = _ := fun hh => (List.getElem?_eq_some_iff.1 hrl).2
  have hlen : (hopRows hl).length = hl.length := by unfold hopRows; exact List.length_map ..
  have li : (i : Int) < hl.length := by have := (List.getElem?_eq_some_iff.1 hh).1; omega
  have g6 := fun x0 => rapp (X := x0) hi.g6
  have g11 := fun x0 => rapp (X := x0) hi.g11
  have u6 := (List.getElem?_eq_some_iff.1 hi.g6).1
  have s6 : ∀ x0 b, (G ++ x0).set L6 b = G.set L6 b ++ x0 := fun x0 b => by rw [List.set_append_left _ _ u6]
  have ss : G.set L6 zeroC = G := by
   apply List.ext_getElem?
   intro j
   by_cases e : L6 = j
   ·subst e; rw [List.getElem?_set, if_pos rfl, if_pos u6]; exact hi.g6.symm
   ·rw [List.getElem?_set_ne e]
  unfold zeroC at g6 ss
  unfold plRow at g11
  unfold trow eraseT at hrow
  generalize hopRows hl = HR at *
  refine ⟨[], [.cells [.str [], .int .i64 h.2], .cells (trow (eraseT x)), .cells (trow (eraseT x))], ?_⟩
  unfold trow eraseT
  rw [f19l6_b]
  unfold f19m6
  generalize ACode.region true f19r12 [0, 6, 8, 11, 14, 31, 32, 33] 0 = rg at *
  generalize ACode.region true f19r16 [0, 6, 8, 11, 16, 17, 31, 32, 33] 1 = rg2 at *
  clear hx hi hw hh hn hs hK hg gi u6
  rcases hc with q | q | q | q
  ·repeat (any_goals first | simp (dsimp := false) (maxSteps := 4000000) (maxDischargeDepth := 8) (implicitDefEqProofs := false) [*, -Int.not_le, -Int.not_lt, amLt, f19c, f19m6, f19r0, f19r1, f19r2, f19r3, f19r4, f19r5, f19r6, f19r7, f19r8, f19r9, f39_p, f19q12, f19r10, f19r11, f19r13, f19r14, f19r15, f19r17, f19r18, f19r19, f19r20, f19r21, f19r22, f19l6_b, f19r12_u, f19r12_w, app_get, app_get0, app_set, app_set0, Nat.add_assoc] | with_reducible (first | apply cB | apply iB) <;> intro _ | intro _)
  ·repeat (any_goals first | simp (dsimp := false) (maxSteps := 4000000) (maxDischargeDepth := 8) (implicitDefEqProofs := false) [*, -Int.not_le, -Int.not_lt, amLt, f19c, f19m6, f19r0, f19r1, f19r2, f19r3, f19r4, f19r5, f19r6, f19r7, f19r8, f19r9, f39_p, f19q12, f19r10, f19r11, f19r13, f19r14, f19r15, f19r17, f19r18, f19r19, f19r20, f19r21, f19r22, f19l6_b, f19r12_u, f19r12_w, app_get, app_get0, app_set, app_set0, Nat.add_assoc] | with_reducible (first | apply cB | apply iB) <;> intro _ | intro _)
  ·repeat (any_goals first | simp (dsimp := false) (maxSteps := 4000000) (maxDischargeDepth := 8) (implicitDefEqProofs := false) [*, -Int.not_le, -Int.not_lt, amLt, f19c, f19m6, f19r0, f19r1, f19r2, f19r3, f19r4, f19r5, f19r6, f19r7, f19r8, f19r9, f39_p, f19q12, f19r10, f19r11, f19r13, f19r14, f19r15, f19r17, f19r18, f19r19, f19r20, f19r21, f19r22, f19l6_b, f19r12_u, f19r12_w, app_get, app_get0, app_set, app_set0, Nat.add_assoc] | with_reducible (first | apply cB | apply iB) <;> intro _ | intro _)
  ·repeat (any_goals first | simp (dsimp := false) (maxSteps := 4000000) (maxDischargeDepth := 8) (implicitDefEqProofs := false) [*, -Int.not_le, -Int.not_lt, amLt, f19c, f19m6, f19r0, f19r1, f19r2, f19r3, f19r4, f19r5, f19r6, f19r7, f19r8, f19r9, f39_p, f19q12, f19r10, f19r11, f19r13, f19r14, f19r15, f19r17, f19r18, f19r19, f19r20, f19r21, f19r22, f19l6_b, f19r12_u, f19r12_w, app_get, app_get0, app_set, app_set0, Nat.add_assoc] | with_reducible (first | apply cB | apply iB) <;> intro _ | intro _)
end
section
variable {t : List TR} {rho : Nat → Nat} {F T R M K KM L6 L11 : Nat} {H0 : Heap}
theorem hop_arr (hx : Tbl t rho F) {G : Heap} {w w' : PlT} (hi : WInv t F T R M K KM L6 L11 H0 G w) {n : Nat} (hw : WOK t F n w) (hn1 : n ≤ 4194304) (hl : List HopT) (hll : hl.length ≤ 4194304) (c : Cap) (i : Nat) {h : HopT} (hh : hl[i]? = some h) (hn : h.1 = []) (hs : stepW t F w h = some w') :
  ∃ G', WInv t F T R M K KM L6 L11 H0 G' w' ∧ Brun tab 112 f19l6 (ofL [(0, .mp T 0), (6, .mp L6 0), (8, .mp K 0), (11, .mp L11 0), (31, .is (hopRows hl) c), (32, .int .i64 hl.length), (33, .int .i64 i)]) G =
   some (.normal, ofL [(0, .mp T 0), (6, .mp L6 0), (8, .mp K 0), (11, .mp L11 0), (31, .is (hopRows hl) c), (32, .int .i64 hl.length), (33, .int .i64 ((i : Int) + 1))], G') := by
 have hok := hop_wok hx hw hs
 obtain ⟨es, ck, hK⟩ := hi.k
 obtain ⟨n1, n2, n3, n4, n5, n6, n7, n8, n9⟩ := hi.ne
 obtain ⟨o1, o2, o3, o4, o5⟩ := hi.old
 have hlen0 := hi.len
 unfold stepW at hs
 cases hg : getT t w.ty with
 | none => rw [hg] at hs; cases hs
 | some x =>
  rw [hg] at hs
  simp only at hs
  rw [if_pos hn] at hs
  by_cases hc : x.kind ≠ 14 ∨ 0 < w.bits ∨ h.2 < 0 ∨ x.len ≤ h.2
  ·rw [if_pos hc] at hs; cases hs
  ·rw [if_neg hc] at hs
   simp only [not_or, Int.not_lt, Int.not_le, ne_eq, Decidable.not_not] at hc
   obtain ⟨k14, b0, i0, il⟩ := hc
   simp only [Option.some.injEq] at hs
   obtain ⟨_, gi⟩ := getT_some hg
   have hrow := fun x0 => trow_ok (hK.tab.app x0) hg (hx.sz x (List.mem_of_getElem? gi))
   have hrl : (hopRows hl)[i]? = some [.str [], .int .i64 h.2] := by unfold hopRows; rw [List.getElem?_map, hh]; unfold hopRow; rw [Option.map_some, hn]
   have hrl2 : ∀ hh, (hopRows hl)[i]'hh = _ := fun hh => (List.getElem?_eq_some_iff.1 hrl).2
   have hlen : (hopRows hl).length = hl.length := by unfold hopRows; exact List.length_map ..
   have li : (i : Int) < hl.length := by have := (List.getElem?_eq_some_iff.1 hh).1; omega
   have u6 := (List.getElem?_eq_some_iff.1 hi.g6).1
   have u11 := (List.getElem?_eq_some_iff.1 hi.g11).1
   have f11 := rapp hi.g11 [.cells [.str [], .int .i64 h.2], .cells (trow (eraseT x)), .cells (trow (eraseT x))]
   have f13 : (G ++ [.cells [.str [], .int .i64 h.2], .cells (trow (eraseT x)), .cells (trow (eraseT x))])[G.length]? = some (.cells [.str [], .int .i64 h.2]) := by simp
   have f14 : (G ++ [.cells [.str [], .int .i64 h.2], .cells (trow (eraseT x)), .cells (trow (eraseT x))])[G.length + 1]? = some (.cells (trow (eraseT x))) := by simp
   have uT := (List.getElem?_eq_some_iff.1 hK.tab.t0).1
   have uR := (List.getElem?_eq_some_iff.1 hK.tab.r0).1
   have uK := (List.getElem?_eq_some_iff.1 hK.k).1
   have uM := (List.getElem?_eq_some_iff.1 hK.m).1
   have wel : wholeS t x.elem = true := hx.acc.whole x (List.mem_of_getElem? gi) k14
   have hbe : bigF t F x.elem = false := by rw [← hs] at hok; exact hok.big
   obtain ⟨G4, es4, ck4, cap4, wl, hK4, hE, hA, w11, w13, w14, _⟩ := look_beside hx (hK.app [.cells [.str [], .int .i64 h.2], .cells (trow (eraseT x)), .cells (trow (eraseT x))]) x.elem wel hbe f11 f13 f14 ⟨n5, n6, n7, n8⟩ ⟨by omega, by omega, by omega, by omega⟩ ⟨by omega, by omega, by omega, by omega⟩ (by omega) (by omega) (by omega)
   have fin := (whole_fine hx.acc hx.rank hx.hF (rho x.elem.toNat + 1) x.elem (by omega) wel).1
   have flo := fin.lo
   have fhi := fin.hi
   have n11 : ¬ w.ty.toNat < 11 := fun c => by
    have := hx.acc.basic _ x gi c
    simp only [basicR, decide_eq_true_eq] at this
    omega
   have hlenx : x.len ≤ 16384 := by
    have := (hx.acc.row _ x gi (by omega)).1
    unfold shapedR at this
    rw [if_neg (by omega), if_pos k14] at this
    simp only [Bool.and_eq_true, longS, decide_eq_true_eq] at this
    omega
   have m1 := Int.mul_le_mul (a := h.2) (b := (layF t F x.elem).size) (c := 16384) (d := 16385) (by omega) fhi (by omega) (by omega)
   have m0 := Int.mul_nonneg (a := h.2) (b := (layF t F x.elem).size) i0 (by omega)
   have wlo := hw.lo
   have whi := hw.hi
   have ww1 : IntKind.i64.wrap (h.2 * (layF t F x.elem).size) = h.2 * (layF t F x.elem).size := IntWalk.i64_in _ (by omega)
   have ww2 : IntKind.i64.wrap (w.off + h.2 * (layF t F x.elem).size) = w.off + h.2 * (layF t F x.elem).size := IntWalk.i64_in _ (by omega)
   have ww3 : IntKind.i64.wrap ((i : Int) + 1) = (i : Int) + 1 := IntWalk.i64_in _ (by omega)
   have l3 : (G ++ [Blk.cells [.str [], .int .i64 h.2], .cells (trow (eraseT x)), .cells (trow (eraseT x))]).length = G.length + 3 := by simp
   have hl4 := hE.1
   rw [l3] at hl4
   have g4 : ∀ j, j < G.length → j ≠ K → j ≠ KM → G4[j]? = G[j]? := fun j a1 a2 a3 => by
    rw [hE.2 j (by omega) a2 a3, List.getElem?_append_left a1]
   have g11 : G4[L11]? = some (.cells (plRow w)) := by rw [g4 L11 u11 n7 n8]; exact hi.g11
   have g14 : G4[G.length + 1]? = some (.cells (trow (eraseT x))) := by rw [hE.2 _ (by omega) (by omega) (by omega)]; exact f14
   have e14 : ∀ b, (List.set G4 L11 b)[G.length + 1]? = some (.cells (trow (eraseT x))) := fun b => by
    rw [List.getElem?_set_ne (by omega)]; exact g14
   have e11 : ∀ b, (List.set G4 L11 b)[L11]? = some b := fun b => by rw [List.getElem?_set, if_pos rfl, if_pos (by omega)]
   have ss : ∀ b b', (List.set G4 L11 b).set L11 b' = List.set G4 L11 b' := fun b b' => List.set_set ..
   have r12 := r12_ok (L6 := L6) (T := T) hA (w11 := w11) (w13 := w13) (w14 := w14) (.int .i64 w.mem) (.int .i64 w.ty) (.int .i64 w.bit) (.int .i64 w.bits) (.str []) (.int .i64 x.kind) (.int .i64 x.len) (.str x.tag) (.is (memRows x.mem) .no) (.bool x.done) (.is (hopRows hl) c) w.off h.2 hl.length i f11 f13 f14 g11 ww1 ww2
   have g11' := rapp hi.g11
   refine ⟨List.set G4 L11 (.cells (plRow w')), ⟨⟨es4, ck4, hK4.keep ?_⟩, ?_, e11 _, hi.ne, ⟨o1, o2, o3, o4, fun j hj => ?_⟩, by rw [List.length_set]; omega⟩, ?_⟩
   ·exact ⟨List.getElem?_set_ne n5, List.getElem?_set_ne n6, List.getElem?_set_ne n7, List.getElem?_set_ne n8⟩
   ·rw [List.getElem?_set_ne (fun e => n9 e.symm), g4 L6 u6 n3 n4]; exact hi.g6
   ·rw [List.getElem?_set_ne (by omega), g4 j (by omega) (by omega) (by omega)]; exact o5 j hj
   ·rw [f19l6_b]
    unfold f19m6
    generalize ACode.region true f19r12 [0, 6, 8, 11, 14, 31, 32, 33] 0 = rg at *
    generalize ACode.region true f19r16 [0, 6, 8, 11, 16, 17, 31, 32, 33] 1 = rg2 at *
    unfold plRow at *
    unfold trow eraseT at *
    rw [← hs]
    generalize hopRows hl = HR at *
    generalize (layF t F x.elem).size = sz at *
    clear hx hi hw hok hh hn hs hK hg gi u6 u11 f11 f13 f14 uT uR uK uM wel hbe hK4 hE hA w11 w13 w14 fin flo fhi n11 hlenx m1 m0 wlo whi ww1 l3 hl4 g4 g11 g14 n1 n2 n3 n4 n5 n6 n7 n8 n9 o1 o2 o3 o4 o5 hlen0 hn1 hll
    rw [k14] at hrow e14 r12
    have q1 : ¬ h.2 < 0 := by omega
    have q2 : ¬ x.len ≤ h.2 := by omega
    have q3 : ¬ 0 < w.bits := by omega
    repeat (any_goals first | simp (dsimp := false) (maxSteps := 4000000) (maxDischargeDepth := 8) (implicitDefEqProofs := false) [*, -Int.not_le, -Int.not_lt, amLt, f19c, f19m6, f19r0, f19r1, f19r2, f19r3, f19r4, f19r5, f19r6, f19r7, f19r8, f19r9, f39_p, f19q12, f19r10, f19r11, f19r13, f19r14, f19r15, f19r17, f19r18, f19r19, f19r20, f19r21, f19r22, f19l6_b, f19r12_u, f19r12_w, app_get, app_get0, app_set, app_set0, Nat.add_assoc] | with_reducible (first | apply cB | apply iB) <;> intro _ | intro _)
end
def WBad (L6 : Nat) (H0 G' : Heap) : Prop := H0.length ≤ G'.length ∧ (∀ j, j < H0.length → G'[j]? = H0[j]?) ∧ G'[L6]? = some zeroC
section
variable {t : List TR} {rho : Nat → Nat} {F T R M K KM L6 L11 : Nat} {H0 : Heap}
theorem hop_rec (hx : Tbl t rho F) {G : Heap} {w : PlT} (hi : WInv t F T R M K KM L6 L11 H0 G w) {n : Nat} (hw : WOK t F n w) (hn1 : n ≤ 4194304) (hl : List HopT) (hll : hl.length ≤ 4194304) (c : Cap) (i : Nat) {h : HopT} (hh : hl[i]? = some h) (hn : h.1 ≠ []) :
  (stepW t F w h = none → ∃ E' G', WBad L6 H0 G' ∧ Brun tab 112 f19l6 (ofL [(0, .mp T 0), (6, .mp L6 0), (8, .mp K 0), (11, .mp L11 0), (31, .is (hopRows hl) c), (32, .int .i64 hl.length), (33, .int .i64 i)]) G =
   some (.ret, ofL ((6, .mp L6 0) :: (7, .int .i64 30) :: E'), G')) ∧
  (∀ w', stepW t F w h = some w' → ∃ G', WInv t F T R M K KM L6 L11 H0 G' w' ∧ Brun tab 112 f19l6 (ofL [(0, .mp T 0), (6, .mp L6 0), (8, .mp K 0), (11, .mp L11 0), (31, .is (hopRows hl) c), (32, .int .i64 hl.length), (33, .int .i64 i)]) G =
   some (.normal, ofL [(0, .mp T 0), (6, .mp L6 0), (8, .mp K 0), (11, .mp L11 0), (31, .is (hopRows hl) c), (32, .int .i64 hl.length), (33, .int .i64 ((i : Int) + 1))], G')) := by
 have hok := fun w' hs => hop_wok (w' := w') (h := h) hx hw hs
 obtain ⟨es, ck, hK⟩ := hi.k
 obtain ⟨n1, n2, n3, n4, n5, n6, n7, n8, n9⟩ := hi.ne
 obtain ⟨o1, o2, o3, o4, o5⟩ := hi.old
 have hlen0 := hi.len
 cases hg : getT t w.ty with
 | none =>
  have := hw.whole
  unfold wholeS at this
  rw [hg] at this
  cases this
 | some x =>
  have hstep : stepW t F w h = if ¬ (x.kind = 15 ∨ x.kind = 16) then none else match namedS x.mem (layF t F w.ty).pl h.1 with | none => none | some p => some { p with off := p.off + w.off } := by
   unfold stepW
   rw [hg]
   simp only
   exact if_neg hn
  rw [hstep] at hok ⊢
  obtain ⟨_, gi⟩ := getT_some hg
  have hrow := fun x0 => trow_ok (hK.tab.app x0) hg (hx.sz x (List.mem_of_getElem? gi))
  have hrl : (hopRows hl)[i]? = some [.str h.1, .int .i64 h.2] := by unfold hopRows; rw [List.getElem?_map, hh]; rfl
  have hrl2 : ∀ hh, (hopRows hl)[i]'hh = _ := fun hh => (List.getElem?_eq_some_iff.1 hrl).2
  have hlen : (hopRows hl).length = hl.length := by unfold hopRows; exact List.length_map ..
  have li : (i : Int) < hl.length := by have := (List.getElem?_eq_some_iff.1 hh).1; omega
  have u6 := (List.getElem?_eq_some_iff.1 hi.g6).1
  have u11 := (List.getElem?_eq_some_iff.1 hi.g11).1
  have g6 := fun x0 => rapp (X := x0) hi.g6
  have g11G := fun x0 => rapp (X := x0) hi.g11
  unfold plRow at g11G
  have s6 : ∀ x0 b, (G ++ x0).set L6 b = G.set L6 b ++ x0 := fun x0 b => by rw [List.set_append_left _ _ u6]
  have ss : G.set L6 zeroC = G := by
   apply List.ext_getElem?
   intro j
   by_cases e : L6 = j
   ·subst e; rw [List.getElem?_set, if_pos rfl, if_pos u6]; exact hi.g6.symm
   ·rw [List.getElem?_set_ne e]
  have hh0 : hasS t w.ty = true := by unfold hasS; rw [hg]; rfl
  have hkS : recS t w.ty = decide (x.kind = 15 ∨ x.kind = 16) := by unfold recS kindS; rw [hg]
  obtain ⟨Y3, hrec⟩ := recl_ok (G ++ [.cells [.str h.1, .int .i64 h.2], .cells (trow (eraseT x)), .cells (trow (eraseT x))]) hx.sz (hK.tab.app _) w.ty hh0
  rw [hkS] at hrec
  have ww3 : IntKind.i64.wrap ((i : Int) + 1) = (i : Int) + 1 := IntWalk.i64_in _ (by omega)
  by_cases hk : x.kind = 15 ∨ x.kind = 16
  ·rw [show decide (x.kind = 15 ∨ x.kind = 16) = true by simpa using hk] at hrec
   simp only [hk, not_true_eq_false, if_false] at hok ⊢
   obtain ⟨H4, hH4⟩ : ∃ H4 : Heap, H4 = G ++ [.cells [.str h.1, .int .i64 h.2], .cells (trow (eraseT x)), .cells (trow (eraseT x))] ++ Y3 := ⟨_, rfl⟩
   have hK4 : KInv t F T R M K KM (H4 ++ [.free]) es ck false := by rw [hH4]; exact ((hK.app _).app _).app _
   have h4o : ∀ j, j < G.length → H4[j]? = G[j]? := fun j hj => by
    rw [hH4, List.append_assoc, List.getElem?_append_left hj]
   have l4 : H4.length = G.length + 3 + Y3.length := by rw [hH4]; simp; omega
   have f11 : H4[L11]? = some (.cells (plRow w)) := by rw [h4o L11 u11]; exact hi.g11
   have f13 : H4[G.length]? = some (.cells [.str h.1, .int .i64 h.2]) := by
    rw [hH4, List.append_assoc, List.getElem?_append_right (Nat.le_refl _), Nat.sub_self]; rfl
   have f14 : H4[G.length + 1]? = some (.cells (trow (eraseT x))) := by
    rw [hH4, List.append_assoc, List.getElem?_append_right (by omega), Nat.add_sub_cancel_left]; rfl
   have uT := (List.getElem?_eq_some_iff.1 hK.tab.t0).1
   have uR := (List.getElem?_eq_some_iff.1 hK.tab.r0).1
   have uK := (List.getElem?_eq_some_iff.1 hK.k).1
   have uM := (List.getElem?_eq_some_iff.1 hK.m).1
   obtain ⟨G5, es5, ck5, cap5, wl, hK5, hE, hA, w11, w13, w14, wfr⟩ := look_beside hx hK4 w.ty hw.whole hw.big (rapp f11 _) (rapp f13 _) (rapp f14 _) ⟨n5, n6, n7, n8⟩ ⟨by omega, by omega, by omega, by omega⟩ ⟨by omega, by omega, by omega, by omega⟩ (by omega) (by omega) (by omega)
   have hfree : (H4 ++ [Blk.free])[H4.length]? = some .free := by rw [List.getElem?_append_right (Nat.le_refl _), Nat.sub_self]; rfl
   have wn := wfr H4.length hfree
   have hl5 := hE.1
   have l4f : (H4 ++ [Blk.free]).length = H4.length + 1 := by simp
   rw [l4f] at hl5
   have g5 : ∀ j, j < H4.length → j ≠ K → j ≠ KM → G5[j]? = H4[j]? := fun j a1 a2 a3 => by
    rw [hE.2 j (by omega) a2 a3, List.getElem?_append_left a1]
   have gs : G5[H4.length]? = some .free := by rw [hE.2 _ (by omega) (by omega) (by omega)]; exact hfree
   have g13 : G5[G.length]? = some (.cells [.str h.1, .int .i64 h.2]) := by rw [g5 _ (by omega) (by omega) (by omega)]; exact f13
   have g11 : G5[L11]? = some (.cells (plRow w)) := by rw [g5 _ (by omega) n7 n8]; exact f11
   have g6' : G5[L6]? = some zeroC := by rw [g5 _ (by omega) n3 n4, h4o _ u6]; exact hi.g6
   have hb : begE t F w.ty = 0 := by
    unfold begE
    rw [if_neg (by rw [hh0]; decide), if_neg (by rw [hw.whole]; decide), if_neg (by rw [hw.big]; decide)]
   have hr := rec_ok hx hg hk hb
   have hnl := hr.nl
   have hml := hr.ml
   have hN := named_ok G5 x (layF t F w.ty) cap5 h.1 hn (fun p hp => by obtain ⟨k, m, q1, q2, _⟩ := (hr.pl p hp).1.mem; exact ⟨k, m, q1, q2⟩) (by omega)
   unfold Ccall at hN
   obtain ⟨⟨vN, GN, wN⟩, hN1, hN2⟩ := Option.map_eq_some_iff.1 hN
   simp only [Prod.mk.injEq] at hN2
   obtain ⟨rfl, rfl⟩ := hN2
   have r16 := fun (p : PlT) (b : AV) hNN => r16_ok (L6 := L6) (T := T) (l := layF t F w.ty) (cap := cap5) hA w11 w13 w14 wn (.int .i64 w.mem) (.int .i64 w.off) (.int .i64 w.bit) (.int .i64 w.bits) (.int .i64 h.2) (.int .i64 x.kind) (.int .i64 x.elem) (.int .i64 x.len) (.str x.tag) (.is (memRows x.mem) .no) (.bool x.done) (.is (hopRows hl) c) b h.1 hl.length i p f11 f13 f14 gs g13 (w2 := wN) hNN rfl
   have e6 : ∀ b, (List.set GN H4.length b)[L6]? = some zeroC := fun b => by rw [List.getElem?_set_ne (by omega)]; exact g6'
   have e11 : ∀ b, (List.set GN H4.length b)[L11]? = some (.cells (plRow w)) := fun b => by rw [List.getElem?_set_ne (by omega)]; exact g11
   have es : ∀ b, (List.set GN H4.length b)[H4.length]? = some b := fun b => by rw [List.getElem?_set, if_pos rfl, if_pos (by omega)]
   have s1 : ∀ b b', (List.set GN H4.length b).set H4.length b' = List.set GN H4.length b' := fun b b' => List.set_set ..
   have s2 : ∀ b, (List.set GN H4.length b).set L6 zeroC = List.set GN H4.length b := fun b => by
    apply List.ext_getElem?
    intro j
    by_cases e : L6 = j
    ·subst e; rw [List.getElem?_set, if_pos rfl, if_pos (by rw [List.length_set]; omega)]; exact (e6 b).symm
    ·rw [List.getElem?_set_ne e]
   rw [hH4, List.append_assoc] at r16
   cases hf : namedS x.mem (layF t F w.ty).pl h.1 with
   | none =>
    refine ⟨fun _ => ?_, fun w' hs => (by simp only at hs; cases hs)⟩
    rw [hf] at hN1
    have r16 := r16 zpl (.bool false) hN1
    refine ⟨[], List.set GN H4.length (.cells (plRow zpl)), ⟨by rw [List.length_set]; omega, fun j hj => ?_, e6 _⟩, ?_⟩
    ·rw [List.getElem?_set_ne (by omega), g5 j (by omega) (by omega) (by omega), h4o j (by omega)]; exact o5 j hj
    ·have es' := es (.cells (plRow zpl))
     have e6' := e6 (.cells (plRow zpl))
     have s2' := s2 (.cells (plRow zpl))
     have hH4' : H4.length = (G ++ ([Blk.cells [.str h.1, .int .i64 h.2], .cells (trow (eraseT x)), .cells (trow (eraseT x))] ++ Y3)).length := by rw [hH4, List.append_assoc]
     rw [← hH4'] at r16
     generalize List.set GN H4.length (.cells (plRow zpl)) = G7 at *
     generalize H4.length = S at *
     rw [f19l6_b]
     unfold f19m6
     generalize ACode.region true f19r12 [0, 6, 8, 11, 14, 31, 32, 33] 0 = rg at *
     generalize ACode.region true f19r16 [0, 6, 8, 11, 16, 17, 31, 32, 33] 1 = rg2 at *
     unfold zeroC at *
     unfold trow eraseT at *
     generalize hopRows hl = HR at *
     clear hx hi hw hok hh hK hg gi u6 u11 f11 f13 f14 uT uR uK uM hK4 hE hA w11 w13 w14 hK5 hH4 h4o l4 wfr hfree wn hl5 l4f g5 gs g13 g11 g6' hb hr hnl hml hN hN1 hf e6 e11 es s1 s2 n1 n2 n3 n4 n5 n6 n7 n8 n9 o1 o2 o3 o4 o5 hlen0 hn1 hll hstep hh0 hkS hH4' g6 s6 ss
     simp only [List.append_assoc, List.cons_append, List.nil_append] at *
     repeat (any_goals first | simp (dsimp := false) (maxSteps := 4000000) (maxDischargeDepth := 8) (implicitDefEqProofs := false) [*, -Int.not_le, -Int.not_lt, amLt, f19c, f19m6, f19r0, f19r1, f19r2, f19r3, f19r4, f19r5, f19r6, f19r7, f19r8, f19r9, f39_p, f19q12, f19r10, f19r11, f19r13, f19r14, f19r15, f19r17, f19r18, f19r19, f19r20, f19r21, f19r22, f19l6_b, f19r12_u, f19r12_w, app_get, app_get0, app_set, app_set0, Nat.add_assoc] | with_reducible (first | apply cB | apply iB) <;> intro _ | intro _)
   | some p =>
    refine ⟨fun hs => (by simp only at hs; cases hs), fun w' hs => ?_⟩
    rw [hf] at hN1 hok
    simp only [Option.some.injEq] at hs
    have hok := hok w' (by simp only [hs])
    have hoff : w'.off = p.off + w.off := by rw [← hs]
    have wwo : IntKind.i64.wrap (p.off + w.off) = p.off + w.off := by
     have := hok.hi
     have := hok.lo
     exact IntWalk.i64_in _ (by omega)
    have r16 := r16 p (.bool true) hN1
    have hH4' : H4.length = (G ++ ([Blk.cells [.str h.1, .int .i64 h.2], .cells (trow (eraseT x)), .cells (trow (eraseT x))] ++ Y3)).length := by rw [hH4, List.append_assoc]
    have hw' : plRow w' = [.int .i64 p.mem, .int .i64 p.ty, .int .i64 (p.off + w.off), .int .i64 p.bit, .int .i64 p.bits] := by rw [← hs]; rfl
    have t11 : ∀ b b', ((List.set GN H4.length b).set L11 b')[L11]? = some b' := fun b b' => by rw [List.getElem?_set, if_pos rfl, if_pos (by rw [List.length_set]; omega)]
    refine ⟨(List.set GN H4.length (.cells (plRow w'))).set L11 (.cells (plRow w')), ⟨⟨es5, ck5, hK5.keep ?_⟩, ?_, t11 _ _, hi.ne, ⟨o1, o2, o3, o4, fun j hj => ?_⟩, by simp only [List.length_set]; omega⟩, ?_⟩
    ·exact ⟨by rw [List.getElem?_set_ne n5, List.getElem?_set_ne (by omega)], by rw [List.getElem?_set_ne n6, List.getElem?_set_ne (by omega)], by rw [List.getElem?_set_ne n7, List.getElem?_set_ne (by omega)], by rw [List.getElem?_set_ne n8, List.getElem?_set_ne (by omega)]⟩
    ·rw [List.getElem?_set_ne (fun e => n9 e.symm)]; exact e6 _
    ·rw [List.getElem?_set_ne (by omega), List.getElem?_set_ne (by omega), g5 j (by omega) (by omega) (by omega), h4o j (by omega)]; exact o5 j hj
    ·rw [hw']
     rw [← hH4'] at r16
     unfold plRow at *
     generalize H4.length = S at *
     rw [f19l6_b]
     unfold f19m6
     generalize ACode.region true f19r12 [0, 6, 8, 11, 14, 31, 32, 33] 0 = rg at *
     generalize ACode.region true f19r16 [0, 6, 8, 11, 16, 17, 31, 32, 33] 1 = rg2 at *
     unfold trow eraseT at *
     generalize hopRows hl = HR at *
     clear hx hi hw hok hh hK hg gi u6 u11 f11 f13 f14 uT uR uK uM hK4 hE hA w11 w13 w14 hK5 hH4 h4o l4 wfr hfree wn hl5 l4f g5 gs g13 g11 g6' hb hr hnl hml hN hN1 hf e6 s2 n1 n2 n3 n4 n5 n6 n7 n8 n9 o1 o2 o3 o4 o5 hlen0 hn1 hll hstep hh0 hkS hH4' g6 s6 ss t11 hw' hoff hs
     simp only [List.append_assoc, List.cons_append, List.nil_append] at *
     repeat (any_goals first | simp (dsimp := false) (maxSteps := 4000000) (maxDischargeDepth := 8) (implicitDefEqProofs := false) [*, -Int.not_le, -Int.not_lt, amLt, f19c, f19m6, f19r0, f19r1, f19r2, f19r3, f19r4, f19r5, f19r6, f19r7, f19r8, f19r9, f39_p, f19q12, f19r10, f19r11, f19r13, f19r14, f19r15, f19r17, f19r18, f19r19, f19r20, f19r21, f19r22, f19l6_b, f19r12_u, f19r12_w, app_get, app_get0, app_set, app_set0, Nat.add_assoc] | with_reducible (first | apply cB | apply iB) <;> intro _ | intro _)
  ·rw [show decide (x.kind = 15 ∨ x.kind = 16) = false by simpa using hk] at hrec
   rw [if_pos hk]
   refine ⟨fun _ => ?_, fun w' hs => (by cases hs)⟩
   refine ⟨[], G ++ ([.cells [.str h.1, .int .i64 h.2], .cells (trow (eraseT x)), .cells (trow (eraseT x))] ++ Y3), ⟨by simp only [List.length_append]; omega, fun j hj => ?_, rapp hi.g6 _⟩, ?_⟩
   ·rw [List.getElem?_append_left (by omega)]; exact o5 j hj
   ·rw [f19l6_b]
    unfold f19m6
    generalize ACode.region true f19r12 [0, 6, 8, 11, 14, 31, 32, 33] 0 = rg at *
    generalize ACode.region true f19r16 [0, 6, 8, 11, 16, 17, 31, 32, 33] 1 = rg2 at *
    unfold zeroC at *
    unfold trow eraseT at *
    generalize hopRows hl = HR at *
    clear hx hi hw hok hh hK hg gi u6 u11 n1 n2 n3 n4 n5 n6 n7 n8 n9 o1 o2 o3 o4 o5 hlen0 hn1 hll hstep hh0 hkS hk
    simp only [List.append_assoc, List.cons_append, List.nil_append] at *
    repeat (any_goals first | simp (dsimp := false) (maxSteps := 4000000) (maxDischargeDepth := 8) (implicitDefEqProofs := false) [*, -Int.not_le, -Int.not_lt, amLt, f19c, f19m6, f19r0, f19r1, f19r2, f19r3, f19r4, f19r5, f19r6, f19r7, f19r8, f19r9, f39_p, f19q12, f19r10, f19r11, f19r13, f19r14, f19r15, f19r17, f19r18, f19r19, f19r20, f19r21, f19r22, f19l6_b, f19r12_u, f19r12_w, app_get, app_get0, app_set, app_set0, Nat.add_assoc] | with_reducible (first | apply cB | apply iB) <;> intro _ | intro _)
end
section
variable {t : List TR} {rho : Nat → Nat} {F T R M K KM L6 L11 : Nat} {H0 : Heap}
theorem hopdrop_cons {l : List HopT} {k : Nat} {m : HopT} (h : l[k]? = some m) : l.drop k = m :: l.drop (k + 1) := by
 obtain ⟨h1, h2⟩ := List.getElem?_eq_some_iff.1 h
 rw [List.drop_eq_getElem_cons h1, h2]
theorem walk_loop (hx : Tbl t rho F) (hl : List HopT) (hll : hl.length ≤ 4194304) (c : Cap) : ∀ (m i : Nat) (G : Heap) (w : PlT), i + m = hl.length → WInv t F T R M K KM L6 L11 H0 G w → WOK t F i w →
  (walkS t F w (hl.drop i) = none → ∃ E' G', WBad L6 H0 G' ∧ Brun tab 112 (.loop f19l6) (ofL [(0, .mp T 0), (6, .mp L6 0), (8, .mp K 0), (11, .mp L11 0), (31, .is (hopRows hl) c), (32, .int .i64 hl.length), (33, .int .i64 i)]) G =
   some (.ret, ofL ((6, .mp L6 0) :: (7, .int .i64 30) :: E'), G')) ∧
  (∀ w', walkS t F w (hl.drop i) = some w' → ∃ E' G', WInv t F T R M K KM L6 L11 H0 G' w' ∧ WOK t F hl.length w' ∧ Brun tab 112 (.loop f19l6) (ofL [(0, .mp T 0), (6, .mp L6 0), (8, .mp K 0), (11, .mp L11 0), (31, .is (hopRows hl) c), (32, .int .i64 hl.length), (33, .int .i64 i)]) G =
   some (.exit 0, ofL ((0, .mp T 0) :: (6, .mp L6 0) :: (8, .mp K 0) :: (11, .mp L11 0) :: E'), G')) := by
 intro m
 induction m with
 | zero =>
  intro i G w hi hI hW
  rw [List.drop_of_length_le (by omega)]
  refine ⟨fun h => (by cases h), fun w' h => ?_⟩
  simp only [walkS, Option.some.injEq] at h
  subst h
  have e : (hl.length : Int) = i := by omega
  have ei : i = hl.length := by omega
  refine ⟨[(31, .is (hopRows hl) c), (32, .int .i64 hl.length), (33, .int .i64 i), (34, .bool false)], G, hI, ei ▸ hW, ?_⟩
  rw [Brun_loop, f19l6_b]
  unfold f19m6
  generalize ACode.region true f19r12 [0, 6, 8, 11, 14, 31, 32, 33] 0 = rg at *
  generalize ACode.region true f19r16 [0, 6, 8, 11, 16, 17, 31, 32, 33] 1 = rg2 at *
  generalize hopRows hl = HR at *
  have q1 : ¬ (i : Int) < hl.length := by omega
  clear hx hll hi hI hW ei
  repeat (any_goals first | simp (dsimp := false) (maxSteps := 4000000) (maxDischargeDepth := 8) (implicitDefEqProofs := false) [*, -Int.not_le, -Int.not_lt, amLt, f19c, f19m6, f19r0, f19r1, f19r2, f19r3, f19r4, f19r5, f19r6, f19r7, f19r8, f19r9, f39_p, f19q12, f19r10, f19r11, f19r13, f19r14, f19r15, f19r17, f19r18, f19r19, f19r20, f19r21, f19r22, f19l6_b, f19r12_u, f19r12_w] | with_reducible (first | apply cB | apply iB) <;> intro _ | intro _)
 | succ m ih =>
  intro i G w hi hI hW
  have c1 : i < hl.length := by omega
  have gh := List.getElem?_eq_getElem c1
  rw [hopdrop_cons gh]
  generalize hl[i] = h at *
  simp only [walkS]
  have next : ∀ w1 G1, WInv t F T R M K KM L6 L11 H0 G1 w1 → stepW t F w h = some w1 → Brun tab 112 f19l6 (ofL [(0, .mp T 0), (6, .mp L6 0), (8, .mp K 0), (11, .mp L11 0), (31, .is (hopRows hl) c), (32, .int .i64 hl.length), (33, .int .i64 i)]) G =
    some (.normal, ofL [(0, .mp T 0), (6, .mp L6 0), (8, .mp K 0), (11, .mp L11 0), (31, .is (hopRows hl) c), (32, .int .i64 hl.length), (33, .int .i64 ((i : Int) + 1))], G1) →
    (walkS t F w1 (hl.drop (i + 1)) = none → ∃ E' G', WBad L6 H0 G' ∧ Brun tab 112 (.loop f19l6) (ofL [(0, .mp T 0), (6, .mp L6 0), (8, .mp K 0), (11, .mp L11 0), (31, .is (hopRows hl) c), (32, .int .i64 hl.length), (33, .int .i64 i)]) G =
     some (.ret, ofL ((6, .mp L6 0) :: (7, .int .i64 30) :: E'), G')) ∧
    (∀ w', walkS t F w1 (hl.drop (i + 1)) = some w' → ∃ E' G', WInv t F T R M K KM L6 L11 H0 G' w' ∧ WOK t F hl.length w' ∧ Brun tab 112 (.loop f19l6) (ofL [(0, .mp T 0), (6, .mp L6 0), (8, .mp K 0), (11, .mp L11 0), (31, .is (hopRows hl) c), (32, .int .i64 hl.length), (33, .int .i64 i)]) G =
     some (.exit 0, ofL ((0, .mp T 0) :: (6, .mp L6 0) :: (8, .mp K 0) :: (11, .mp L11 0) :: E'), G')) := by
   intro w1 G1 hI1 hs hb
   obtain ⟨i1, i2⟩ := ih (i + 1) G1 w1 (by omega) hI1 (hop_wok hx hW hs)
   push_cast at i1 i2
   refine ⟨fun h => ?_, fun w' h => ?_⟩
   ·obtain ⟨E', G', q1, q2⟩ := i1 h
    exact ⟨E', G', q1, by rw [Brun_loop, hb, bthen_normal]; exact q2⟩
   ·obtain ⟨E', G', q1, q2, q3⟩ := i2 w' h
    exact ⟨E', G', q1, q2, by rw [Brun_loop, hb, bthen_normal]; exact q3⟩
  by_cases hn : h.1 = []
  ·cases hs : stepW t F w h with
   | none =>
    refine ⟨fun _ => ?_, fun w' q => (by cases q)⟩
    obtain ⟨E', Y, hb⟩ := hop_bad1 hx hI hW hl c i gh hn hs
    have hlen := hI.len
    refine ⟨E', G ++ Y, ⟨by simp only [List.length_append]; omega, fun j hj => ?_, rapp hI.g6 _⟩, ?_⟩
    ·rw [List.getElem?_append_left (by omega)]; exact hI.old.2.2.2.2 j hj
    ·rw [Brun_loop, hb, bthen_ret]
   | some w1 =>
    obtain ⟨G1, hI1, hb⟩ := hop_arr hx hI hW (by omega) hl hll c i gh hn hs
    exact next w1 G1 hI1 hs hb
  ·obtain ⟨r1, r2⟩ := hop_rec hx hI hW (by omega) hl hll c i gh hn
   cases hs : stepW t F w h with
   | none =>
    refine ⟨fun _ => ?_, fun w' q => (by cases q)⟩
    obtain ⟨E', G', hB, hb⟩ := r1 hs
    exact ⟨E', G', hB, by rw [Brun_loop, hb, bthen_ret]⟩
   | some w1 =>
    obtain ⟨G1, hI1, hb⟩ := r2 w1 hs
    exact next w1 G1 hI1 hs hb
end
def ansW (t : List TR) (F : Nat) (id : Int) (hl : List HopT) : PlT × Int :=
 if begE t F id = 0 then (match walkS t F ⟨0, id, 0, 0, 0⟩ hl with | none => (zpl, 30) | some w => (w, 0)) else (zpl, begE t F id)
section
variable {t : List TR} {rho : Nat → Nat} {F T R M : Nat}
theorem walk_ok (hx : Tbl t rho F) (G : Heap) (ht : TabAt G T R M t.length false t) (id : Int) (hl : List HopT) (hll : hl.length ≤ 4194304) (c : Cap) :
  ∃ Y, Ccall tab 19 [.mp T 0, .int .i64 id, .is (hopRows hl) c] G = some (.tup [.agg (plRow (ansW t F id hl).1), .int .i64 (ansW t F id hl).2], G ++ Y) := by
 have hlen : (hopRows hl).length = hl.length := by unfold hopRows; exact List.length_map ..
 obtain ⟨Y, hb1, hb2⟩ := begin_ok hx (G ++ [zeroC, .free]) (ht.app _) id
 unfold ansW
 by_cases h0 : begE t F id = 0
 ·rw [if_pos h0]
  obtain ⟨K, KM, es, ck, cap, hK, lK, lKM, hb⟩ := hb2 h0
  have lT := (List.getElem?_eq_some_iff.1 ht.t0).1
  have lR := (List.getElem?_eq_some_iff.1 ht.r0).1
  have uK := (List.getElem?_eq_some_iff.1 hK.k).1
  have uKM := (List.getElem?_eq_some_iff.1 hK.m).1
  simp only [List.length_append, List.length_cons, List.length_nil] at lK lKM uK uKM
  obtain ⟨H3, hH3⟩ : ∃ H3 : Heap, H3 = G ++ zeroC :: .cells [.int .i64 (layF t F id).size, .int .i64 (layF t F id).align, .is (plRows (layF t F id).pl) cap] :: (Y ++ [.cells (plRow ⟨0, id, 0, 0, 0⟩)]) := ⟨_, rfl⟩
  have hold : ∀ j, j < G.length + 2 + Y.length → j ≠ G.length + 1 → H3[j]? = (G ++ [zeroC, .free] ++ Y)[j]? := fun j h1 h2 => by
   rw [hH3]
   by_cases c1 : j < G.length
   ·rw [List.getElem?_append_left c1, List.append_assoc, List.getElem?_append_left c1]
   ·rw [List.getElem?_append_right (by omega), List.append_assoc, List.getElem?_append_right (by omega)]
    by_cases c2 : j - G.length = 0
    ·rw [c2]; rfl
    ·obtain ⟨m, hm⟩ : ∃ m, j - G.length = m + 2 := ⟨j - G.length - 2, by omega⟩
     rw [hm]
     show (Y ++ _)[m]? = Y[m]?
     rw [List.getElem?_append_left (by omega)]
  have l3 : H3.length = G.length + (Y.length + 3) := by rw [hH3]; simp
  have hK3 : KInv t F T R M K KM H3 es ck false := hK.keep ⟨hold T (by omega) (by omega), hold R (by omega) (by omega), hold K (by omega) (by omega), hold KM (by omega) (by omega)⟩
  have hI : WInv t F T R M K KM G.length (G.length + (Y.length + 2)) G H3 ⟨0, id, 0, 0, 0⟩ := by
   refine ⟨⟨es, ck, hK3⟩, ?_, ?_, ⟨by omega, by omega, by omega, by omega, by omega, by omega, by omega, by omega, by omega⟩, ⟨by omega, by omega, by omega, by omega, fun j hj => ?_⟩, by omega⟩
   ·rw [hold _ (by omega) (by omega), List.append_assoc, List.getElem?_append_right (Nat.le_refl _), Nat.sub_self]; rfl
   ·rw [hH3, List.getElem?_append_right (by omega), Nat.add_sub_cancel_left]
    show (Y ++ _)[Y.length]? = _
    rw [List.getElem?_append_right (Nat.le_refl _), Nat.sub_self]; rfl
   ·rw [hold j (by omega) (by omega), List.append_assoc, List.getElem?_append_left hj]
  obtain ⟨q1, q2, q3⟩ := beg_has h0
  have hW : WOK t F 0 ⟨0, id, 0, 0, 0⟩ := ⟨q2, q3, Int.le_refl 0, by simp, Int.le_refl 0, fun _ => rfl⟩
  obtain ⟨l1, l2⟩ := walk_loop hx hl hll .no hl.length 0 H3 ⟨0, id, 0, 0, 0⟩ (by omega) hI hW
  obtain ⟨k1, k2⟩ := walk_loop hx hl hll c hl.length 0 H3 ⟨0, id, 0, 0, 0⟩ (by omega) hI hW
  rw [List.drop_zero] at k1 k2
  clear l1 l2
  rw [hH3] at k1 k2
  cases hs : walkS t F ⟨0, id, 0, 0, 0⟩ hl with
  | none =>
   obtain ⟨E', G', ⟨w1, w2, w3⟩, hlp⟩ := k1 hs
   obtain ⟨Yf, hYf⟩ := heap_app (G := G) (G' := G') w1 w2
   refine ⟨Yf, ?_⟩
   rw [← hYf]
   simp only [Int.natCast_zero] at hlp
   unfold zpl
   unfold layV at hb
   unfold zeroC plRow at *
   generalize plRows (layF t F id).pl = PL at *
   generalize (layF t F id).size = sa at *
   generalize (layF t F id).align = aa at *
   generalize hopRows hl = HR at *
   refine Ccall_over rfl rfl rfl rfl ?_
   clear hK lK lKM ht hx hH3 hold l3 hK3 hI hW k1 k2 hs q1 q2 q3 lT lR uK uKM h0 hb1 hb2 w1 w2 hYf
   simp only [List.append_assoc, List.cons_append, List.nil_append] at *
   repeat (any_goals first | simp (dsimp := false) (maxSteps := 4000000) (maxDischargeDepth := 8) (implicitDefEqProofs := false) [*, -Int.not_le, -Int.not_lt, amLt, f19c, f19m6, f19r0, f19r1, f19r2, f19r3, f19r4, f19r5, f19r6, f19r7, f19r8, f19r9, f39_p, f19q12, f19r10, f19r11, f19r13, f19r14, f19r15, f19r17, f19r18, f19r19, f19r20, f19r21, f19r22, f19l6_b, f19r12_u, f19r12_w, app_get, app_get0, app_set, app_set0, Nat.add_assoc] | with_reducible (first | apply cB | apply iB) <;> intro _ | intro _)
  | some w' =>
   obtain ⟨E', G', hI', _, hlp⟩ := k2 w' hs
   have lG := hI'.len
   have u6 := (List.getElem?_eq_some_iff.1 hI'.g6).1
   obtain ⟨Yf, hYf⟩ := heap_app (G := G) (G' := G'.set G.length (.cells (plRow w'))) (by rw [List.length_set]; omega) (fun j hj => by rw [List.getElem?_set_ne (by omega)]; exact hI'.old.2.2.2.2 j hj)
   refine ⟨Yf, ?_⟩
   rw [← hYf]
   have g6 := hI'.g6
   have g11 := hI'.g11
   have e6 : ∀ b, (G'.set G.length b)[G.length]? = some b := fun b => by rw [List.getElem?_set, if_pos rfl, if_pos u6]
   simp only [Int.natCast_zero] at hlp
   unfold layV at hb
   unfold zeroC plRow at *
   generalize plRows (layF t F id).pl = PL at *
   generalize (layF t F id).size = sa at *
   generalize (layF t F id).align = aa at *
   generalize hopRows hl = HR at *
   refine Ccall_over rfl rfl rfl rfl ?_
   clear hK lK lKM ht hx hH3 hold l3 hK3 hI hW k1 k2 hs q1 q2 q3 lT lR uK uKM h0 hb1 hb2 hYf hI' lG u6
   simp only [List.append_assoc, List.cons_append, List.nil_append] at *
   repeat (any_goals first | simp (dsimp := false) (maxSteps := 4000000) (maxDischargeDepth := 8) (implicitDefEqProofs := false) [*, -Int.not_le, -Int.not_lt, amLt, f19c, f19m6, f19r0, f19r1, f19r2, f19r3, f19r4, f19r5, f19r6, f19r7, f19r8, f19r9, f39_p, f19q12, f19r10, f19r11, f19r13, f19r14, f19r15, f19r17, f19r18, f19r19, f19r20, f19r21, f19r22, f19l6_b, f19r12_u, f19r12_w, app_get, app_get0, app_set, app_set0, Nat.add_assoc] | with_reducible (first | apply cB | apply iB) <;> intro _ | intro _)
 ·rw [if_neg h0]
  have hb := hb1 h0
  refine ⟨zeroC :: .cells [.int .i64 0, .int .i64 0, .is [] .nil] :: Y, ?_⟩
  unfold zpl
  generalize begE t F id = e at *
  unfold zeroC plRow at *
  generalize hopRows hl = HR at *
  refine Ccall_over rfl rfl rfl rfl ?_
  clear ht hx hb1 hb2
  simp only [List.append_assoc, List.cons_append, List.nil_append] at *
  repeat (any_goals first | simp (dsimp := false) (maxSteps := 4000000) (maxDischargeDepth := 8) (implicitDefEqProofs := false) [*, -Int.not_le, -Int.not_lt, amLt, f19c, f19m6, f19r0, f19r1, f19r2, f19r3, f19r4, f19r5, f19r6, f19r7, f19r8, f19r9, f39_p, f19q12, f19r10, f19r11, f19r13, f19r14, f19r15, f19r17, f19r18, f19r19, f19r20, f19r21, f19r22, f19l6_b, f19r12_u, f19r12_w, app_get, app_get0, app_set, app_set0, Nat.add_assoc] | with_reducible (first | apply cB | apply iB) <;> intro _ | intro _)
end
theorem hopRows_ok (l : List HopT) : ∀ r ∈ hopRows l, RowOK 2 r := by
 intro r hr
 obtain ⟨y, _, rfl⟩ := List.mem_map.1 hr
 exact ⟨rfl, rfl, rfl, rfl⟩
theorem hopRows_app (a b : List HopT) : hopRows (a ++ b) = hopRows a ++ hopRows b := by simp [hopRows]
theorem walk_wok {t : List TR} {rho : Nat → Nat} {F : Nat} (hx : Tbl t rho F) : ∀ (l : List HopT) (n : Nat) (w w' : PlT), WOK t F n w → walkS t F w l = some w' → WOK t F (n + l.length) w' := by
 intro l
 induction l with
 | nil =>
  intro n w w' hw h
  simp only [walkS, Option.some.injEq] at h
  subst h
  exact hw
 | cons h r ih =>
  intro n w w' hw hs
  unfold walkS at hs
  cases h1 : stepW t F w h with
  | none => rw [h1] at hs; cases hs
  | some w1 =>
   rw [h1] at hs
   have := ih (n + 1) w1 w' (hop_wok hx hw h1) hs
   rw [List.length_cons, show n + (r.length + 1) = n + 1 + r.length by omega]
   exact this
theorem walks_on {t : List TR} {rho : Nat → Nat} {F : Nat} (hx : Tbl t rho F) (id : Int) (a b : List HopT) (he : (ansW t F id a).2 = 0) (hb : ¬ 0 < (ansW t F id a).1.bits) :
  ((ansW t F (ansW t F id a).1.ty b).2 ≠ 0 ∧ (ansW t F id (a ++ b)).2 = (ansW t F (ansW t F id a).1.ty b).2) ∨
   ((ansW t F (ansW t F id a).1.ty b).2 = 0 ∧ (ansW t F id (a ++ b)).2 = 0 ∧ (ansW t F id (a ++ b)).1.off = (ansW t F id a).1.off + (ansW t F (ansW t F id a).1.ty b).1.off ∧
    (ansW t F id (a ++ b)).1.bit = (ansW t F (ansW t F id a).1.ty b).1.bit ∧ (ansW t F id (a ++ b)).1.bits = (ansW t F (ansW t F id a).1.ty b).1.bits ∧ (ansW t F id (a ++ b)).1.ty = (ansW t F (ansW t F id a).1.ty b).1.ty) := by
 have e1 : begE t F id = 0 := by
  unfold ansW at he
  split at he
  ·assumption
  ·exact he
 have q := beg_has e1
 have hW : WOK t F 0 ⟨0, id, 0, 0, 0⟩ := ⟨q.2.1, q.2.2, Int.le_refl 0, by simp, Int.le_refl 0, fun _ => rfl⟩
 unfold ansW at he hb ⊢
 rw [if_pos e1] at he hb ⊢
 rw [if_pos e1, walkS_app]
 cases hp : walkS t F ⟨0, id, 0, 0, 0⟩ a with
 | none => rw [hp] at he; cases he
 | some p =>
  rw [hp] at hb
  simp only [Option.bind_some] at hb ⊢
  have hWp := walk_wok hx a 0 _ p hW hp
  have e2 : begE t F p.ty = 0 := by
   have h0 : hasS t p.ty = true := by
    have := hWp.whole
    unfold wholeS at this
    unfold hasS
    cases hg : getT t p.ty with
    | none => rw [hg] at this; cases this
    | some z => rfl
   unfold begE
   rw [if_neg (by rw [h0]; decide), if_neg (by rw [hWp.whole]; decide), if_neg (by rw [hWp.big]; decide)]
  rw [if_pos e2]
  have hbits : p.bits = 0 := by have := hWp.bits; omega
  have hsh : Shift p.off ⟨0, p.ty, 0, 0, 0⟩ p := ⟨rfl, by simp only; omega, hWp.bit hbits, hbits⟩
  rcases walk_shift (t := t) (F := F) b hsh with ⟨s1, s2⟩ | ⟨u, v, s1, s2, s3, s4, s5, s6⟩
  ·rw [s1, s2]; exact .inl ⟨by simp, rfl⟩
  ·rw [s1, s2]
   refine .inr ⟨rfl, rfl, ?_, s5, s6, s3⟩
   simp only
   omega
theorem ans_bound {t : List TR} {rho : Nat → Nat} {F : Nat} (hx : Tbl t rho F) (id : Int) (l : List HopT) : 0 ≤ (ansW t F id l).1.off ∧ (ansW t F id l).1.off ≤ l.length * 300000000 := by
 unfold ansW
 by_cases e1 : begE t F id = 0
 ·rw [if_pos e1]
  cases hp : walkS t F ⟨0, id, 0, 0, 0⟩ l with
  | none => simp only [zpl]; omega
  | some p =>
   have q := beg_has e1
   have hW : WOK t F 0 ⟨0, id, 0, 0, 0⟩ := ⟨q.2.1, q.2.2, Int.le_refl 0, by simp, Int.le_refl 0, fun _ => rfl⟩
   have := walk_wok hx l 0 _ p hW hp
   have h1 := this.lo
   have h2 := this.hi
   rw [Nat.zero_add] at h2
   exact ⟨h1, h2⟩
 ·rw [if_neg e1]; simp only [zpl]; omega
theorem walks_law (rows : List TR) (c0 : Cap) (id : Int) (a b : List HopT) (hcap : ∀ w ∈ rows, w.cap = .no) (hsz : ∀ w ∈ rows, w.tag.length ≤ 1048576 ∧ w.mem.length ≤ 16777216 ∧ ∀ m ∈ w.mem, m.1.length ≤ 1048576) (hlen : rows.length ≤ 16777216) (hla : a.length ≤ 1048576) (hlb : b.length ≤ 1048576) (H : Heap) :
  ∃ G', Ccall tab 6 [.is (rows.map trow) c0, .int .i64 id, .is (hopRows a) .no, .is (hopRows b) .no] H = some (.bool true, G') := by
 obtain ⟨G, k1, hB⟩ := both_ok [] rows .no hcap hsz hlen
 have hh := heads_ok
 refine ⟨H, Ccall_own rfl rfl rfl rfl ?_⟩
 rcases hB with ⟨T, R, M, C, cap, es, ck, hat, hb⟩ | hb
 ·obtain ⟨rho, F, hx, he, hl⟩ := tbl_of hcap (fun w hw => (hsz w hw).2.1) hat.acc
  have ht := hat.tab
  rw [← hl] at ht
  generalize rows.map trow = X at *
  generalize tabOf rows = t at *
  obtain ⟨Y1, w1⟩ := walk_ok hx (G ++ [.free]) (ht.app _) id a (by omega) .no
  by_cases c1 : (ansW t F id a).2 = 0
  ·by_cases c2 : 0 < (ansW t F id a).1.bits
   ·unfold plRow at w1
    generalize ansW t F id a = p at *
    clear hcap hsz hlen k1 hat hx he hl ht hla hlb
    generalize hopRows a = HA at *
    generalize hopRows b = HB at *
    simp only [List.append_assoc, List.cons_append, List.nil_append] at *
    repeat (any_goals first | simp (dsimp := false) (maxSteps := 4000000) (maxDischargeDepth := 8) (implicitDefEqProofs := false) [*, -Int.not_le, -Int.not_lt, amLt, f6c, f6r0, f6r1, f6r2, f6r3, f6r4, f6r5, f6r6, f6r7, f6r8, f6r9, f6r10, f6r11, app_get, app_get0, app_set, app_set0, Nat.add_assoc] | with_reducible (first | apply cB | apply iB) <;> intro _ | intro _)
   ·obtain ⟨Y2, w2⟩ := walk_ok hx (G ++ [.cells (plRow (ansW t F id a).1)] ++ Y1 ++ [.free]) (((ht.app _).app _).app _) (ansW t F id a).1.ty b (by omega) .no
    obtain ⟨G7, hG7⟩ : ∃ G7 : Heap, G7 = G ++ .cells (plRow (ansW t F id a).1) :: (Y1 ++ .cells (plRow (ansW t F (ansW t F id a).1.ty b).1) :: Y2) := ⟨_, rfl⟩
    have ht7 : TabAt G7 T R M t.length false t := by
     have := (((ht.app [.cells (plRow (ansW t F id a).1)]).app Y1).app [.cells (plRow (ansW t F (ansW t F id a).1.ty b).1)]).app Y2
     simp only [List.append_assoc, List.cons_append, List.nil_append] at this
     rw [hG7]; exact this
    have g12 : ∀ x, (G7 ++ x)[G.length]? = some (.cells (plRow (ansW t F id a).1)) := fun x => by
     rw [hG7, List.append_assoc, List.getElem?_append_right (Nat.le_refl _), Nat.sub_self]; rfl
    have g14 : ∀ x, (G7 ++ x)[G.length + (Y1.length + 1)]? = some (.cells (plRow (ansW t F (ansW t F id a).1.ty b).1)) := fun x => by
     rw [hG7, List.append_assoc, List.getElem?_append_right (by omega), Nat.add_sub_cancel_left, List.cons_append, List.getElem?_cons_succ, List.append_assoc, List.getElem?_append_right (Nat.le_refl _), Nat.sub_self]; rfl
    have w3 := fun b0 b1 c => walk_ok hx (G7 ++ [b0, b1, .free]) (ht7.app _) id (a ++ b) (by rw [List.length_append]; omega) c
    have hfold := hG7.symm
    have hpl := walks_on hx id a b c1 c2
    have bo1 := ans_bound hx id a
    have bo2 := ans_bound hx (ansW t F id a).1.ty b
    have wadd : IntKind.i64.wrap ((ansW t F id a).1.off + (ansW t F (ansW t F id a).1.ty b).1.off) = (ansW t F id a).1.off + (ansW t F (ansW t F id a).1.ty b).1.off := IntWalk.i64_in _ (by omega)
    have apA := fun slot rws cp h (hne : hopRows a ≠ []) => appF_rows slot 2 24 rws cp .no h (hopRows_ok a) hne
    have apB := fun slot rws cp h (hne : hopRows b ≠ []) => appF_rows slot 2 24 rws cp .no h (hopRows_ok b) hne
    have apN := fun slot rws cp h => appF_none slot 2 24 rws cp .no h
    have lA : (hopRows a).length = a.length := by unfold hopRows; exact List.length_map ..
    have lB : (hopRows b).length = b.length := by unfold hopRows; exact List.length_map ..
    have rm1 : roomy (hopRows a).length 24 = true := roomy_sm (by omega) (by decide)
    have rm2 : roomy (hopRows b).length 24 = true := roomy_sm (by omega) (by decide)
    have rm3 : roomy ((hopRows a).length + (hopRows b).length) 24 = true := roomy_sm (by omega) (by decide)
    have rk : ∀ h, roomOK Cap.full 2 [] h = true := fun h => rfl
    have sp : ∀ h, spend Cap.full h = h := fun h => rfl
    have rt : ∀ h id, h[id]? = some Blk.tok → roomOK (.tok id 2) 2 (hopRows a) h = true := fun h id q => roomOK_tok q 2 _
    have st : ∀ h id, spend (.tok id 2) h = h.set id .dead := fun h id => rfl
    rw [hopRows_app] at w3
    unfold plRow at *
    generalize ansW t F (ansW t F id a).1.ty b = q at *
    generalize ansW t F id a = p at *
    generalize ansW t F id (a ++ b) = r at *
    have hA : hopRows a = [] ∨ hopRows a ≠ [] := Decidable.em _
    have hB : hopRows b = [] ∨ hopRows b ≠ [] := Decidable.em _
    generalize hopRows a = HA at *
    generalize hopRows b = HB at *
    clear hcap hsz hlen k1 hat hx he hl ht hla hlb bo1 bo2 lA lB hG7 ht7
    obtain ⟨y1, v1⟩ := w3 .free .free .full
    obtain ⟨y2, v2⟩ := w3 .tok .free (.tok G7.length 2)
    obtain ⟨y3, v3⟩ := w3 .free .tok (.tok (G7.length + 1) 2)
    obtain ⟨y4, v4⟩ := w3 .dead .tok (.tok (G7.length + 1) 2)
    clear w3
    simp only [List.append_assoc, List.cons_append, List.nil_append] at *
    rcases hA with rfl | hA <;> rcases hB with rfl | hB <;> rcases hpl with ⟨z1, z2⟩ | ⟨z1, z2, z3, z4, z5, z6⟩ <;> (try simp only [List.nil_append, List.append_nil] at v1 v2 v3 v4)
    ·repeat (any_goals first | simp (dsimp := false) (maxSteps := 4000000) (maxDischargeDepth := 8) (implicitDefEqProofs := false) [*, -Int.not_le, -Int.not_lt, amLt, f6c, f6r0, f6r1, f6r2, f6r3, f6r4, f6r5, f6r6, f6r7, f6r8, f6r9, f6r10, f6r11, app_get, app_get0, app_set, app_set0, Nat.add_assoc] | with_reducible (first | apply cB | apply iB) <;> intro _ | intro _)
    ·repeat (any_goals first | simp (dsimp := false) (maxSteps := 4000000) (maxDischargeDepth := 8) (implicitDefEqProofs := false) [*, -Int.not_le, -Int.not_lt, amLt, f6c, f6r0, f6r1, f6r2, f6r3, f6r4, f6r5, f6r6, f6r7, f6r8, f6r9, f6r10, f6r11, app_get, app_get0, app_set, app_set0, Nat.add_assoc] | with_reducible (first | apply cB | apply iB) <;> intro _ | intro _)
    ·repeat (any_goals first | simp (dsimp := false) (maxSteps := 4000000) (maxDischargeDepth := 8) (implicitDefEqProofs := false) [*, -Int.not_le, -Int.not_lt, amLt, f6c, f6r0, f6r1, f6r2, f6r3, f6r4, f6r5, f6r6, f6r7, f6r8, f6r9, f6r10, f6r11, app_get, app_get0, app_set, app_set0, Nat.add_assoc] | with_reducible (first | apply cB | apply iB) <;> intro _ | intro _)
    ·repeat (any_goals first | simp (dsimp := false) (maxSteps := 4000000) (maxDischargeDepth := 8) (implicitDefEqProofs := false) [*, -Int.not_le, -Int.not_lt, amLt, f6c, f6r0, f6r1, f6r2, f6r3, f6r4, f6r5, f6r6, f6r7, f6r8, f6r9, f6r10, f6r11, app_get, app_get0, app_set, app_set0, Nat.add_assoc] | with_reducible (first | apply cB | apply iB) <;> intro _ | intro _)
    ·repeat (any_goals first | simp (dsimp := false) (maxSteps := 4000000) (maxDischargeDepth := 8) (implicitDefEqProofs := false) [*, -Int.not_le, -Int.not_lt, amLt, f6c, f6r0, f6r1, f6r2, f6r3, f6r4, f6r5, f6r6, f6r7, f6r8, f6r9, f6r10, f6r11, app_get, app_get0, app_set, app_set0, Nat.add_assoc] | with_reducible (first | apply cB | apply iB) <;> intro _ | intro _)
    ·repeat (any_goals first | simp (dsimp := false) (maxSteps := 4000000) (maxDischargeDepth := 8) (implicitDefEqProofs := false) [*, -Int.not_le, -Int.not_lt, amLt, f6c, f6r0, f6r1, f6r2, f6r3, f6r4, f6r5, f6r6, f6r7, f6r8, f6r9, f6r10, f6r11, app_get, app_get0, app_set, app_set0, Nat.add_assoc] | with_reducible (first | apply cB | apply iB) <;> intro _ | intro _)
    ·repeat (any_goals first | simp (dsimp := false) (maxSteps := 4000000) (maxDischargeDepth := 8) (implicitDefEqProofs := false) [*, -Int.not_le, -Int.not_lt, amLt, f6c, f6r0, f6r1, f6r2, f6r3, f6r4, f6r5, f6r6, f6r7, f6r8, f6r9, f6r10, f6r11, app_get, app_get0, app_set, app_set0, Nat.add_assoc] | with_reducible (first | apply cB | apply iB) <;> intro _ | intro _)
    ·repeat (any_goals first | simp (dsimp := false) (maxSteps := 4000000) (maxDischargeDepth := 8) (implicitDefEqProofs := false) [*, -Int.not_le, -Int.not_lt, amLt, f6c, f6r0, f6r1, f6r2, f6r3, f6r4, f6r5, f6r6, f6r7, f6r8, f6r9, f6r10, f6r11, app_get, app_get0, app_set, app_set0, Nat.add_assoc] | with_reducible (first | apply cB | apply iB) <;> intro _ | intro _)
  ·unfold plRow at w1
   generalize ansW t F id a = p at *
   clear hcap hsz hlen k1 hat hx he hl ht hla hlb
   generalize hopRows a = HA at *
   generalize hopRows b = HB at *
   simp only [List.append_assoc, List.cons_append, List.nil_append] at *
   repeat (any_goals first | simp (dsimp := false) (maxSteps := 4000000) (maxDischargeDepth := 8) (implicitDefEqProofs := false) [*, -Int.not_le, -Int.not_lt, amLt, f6c, f6r0, f6r1, f6r2, f6r3, f6r4, f6r5, f6r6, f6r7, f6r8, f6r9, f6r10, f6r11, app_get, app_get0, app_set, app_set0, Nat.add_assoc] | with_reducible (first | apply cB | apply iB) <;> intro _ | intro _)
 ·generalize rows.map trow = X at *
  generalize hopRows a = HA at *
  generalize hopRows b = HB at *
  clear hcap hsz hlen k1 hla hlb
  repeat (any_goals first | simp (dsimp := false) (maxSteps := 4000000) (maxDischargeDepth := 8) (implicitDefEqProofs := false) [*, -Int.not_le, -Int.not_lt, amLt, f6c, f6r0, f6r1, f6r2, f6r3, f6r4, f6r5, f6r6, f6r7, f6r8, f6r9, f6r10, f6r11] | with_reducible (first | apply cB | apply iB) <;> intro _ | intro _)
theorem arg_hops {B : Nat} {x : AV} (h : (Sh.sl (.st [.str, (.int .i64)])).Arg B x) : ∃ l : List HopT, x = .is (hopRows l) .no ∧ l.length ≤ B := by
 simp only [Sh.Arg, Sh.Row, RowL] at h
 obtain ⟨l, hx, hl, hr⟩ := h
 simp only [List.cons.injEq, and_true] at hx
 subst hx
 have key : ∀ l : List (List AV), (∀ z ∈ l, ∃ (nm : List UInt8) (k : Int), z = [.str nm, .int .i64 k]) → ∃ m : List HopT, l = hopRows m := by
  intro l
  induction l with
  | nil => intro _; exact ⟨[], rfl⟩
  | cons z r ih =>
   intro h
   obtain ⟨nm, k, rfl⟩ := h z (by simp)
   obtain ⟨m, rfl⟩ := ih fun y hy => h y (by simp [hy])
   exact ⟨(nm, k) :: m, rfl⟩
 obtain ⟨m, rfl⟩ := key l fun z hz => by
  obtain ⟨_, _, rfl, ⟨nm, _, rfl⟩, _, _, rfl, ⟨k, _, rfl⟩, rfl⟩ := hr z hz
  exact ⟨nm, k, rfl⟩
 exact ⟨m, rfl, by simpa [hopRows] using hl⟩
theorem walks_args : ∀ xs, ArgsL 1048576 f6s xs → ∃ h', Ccall tab 6 xs [] = some (.bool true, h') := by
 intro xs hxs
 obtain ⟨x, _, rfl, h1, y, _, rfl, h2, z, _, rfl, h3, u, _, rfl, h4, rfl⟩ := hxs
 obtain ⟨rows, rfl, hl, hw⟩ := arg_rows h1
 obtain ⟨id, rfl, _⟩ := arg_int h2
 obtain ⟨a, rfl, la⟩ := arg_hops h3
 obtain ⟨b, rfl, lb⟩ := arg_hops h4
 obtain ⟨g1, g2⟩ := trok_sz hw
 exact walks_law rows .no id a b g1 g2 (by omega) la lb []
end Go.Proofs.YtfhijkapcdmdnaaDoor
