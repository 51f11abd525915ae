/- Structs that begin alike are laid out alike so far. -/
import Derived.Test.YtfhijkapcdmdnaaDoorZd
import Derived.Test.YtfhijkapcdmdnaaDoorHd
import Derived.Test.YtfhijkapcdmdnaaDoorAmW
namespace Go.Proofs.YtfhijkapcdmdnaaDoor
open Go.AM
set_option maxRecDepth 20000
set_option maxHeartbeats 4000000
set_option linter.unusedSimpArgs false
set_option linter.unusedVariables false
attribute [local congr] andF_cg onF_cg bthen_cg bkeep_cg bcond_cg guardV_cg putF_cg guardF_cg ite_cg stepsF_cg
attribute [local simp] Brun_skip Brun_exit Brun_ret Brun_seq Brun_cond Brun_block Brun_region bthen_normal bthen_ret bthen_exit bblock_normal bblock_ret bblock_exit bkeep_some andF_some onF_some onF_none guardF_none guardF_some guardV_tup putF_some putF_none stepsF_nil stepsF_cons upd_apply ofL_cons ofL_nil bown_normal bown_ret banswer_normal banswer_ret aresults ares List.replicate stepF_call stepF_callD stepF_move stepF_pick stepF_alloc stepF_allocV stepF_box stepF_boxV stepF_build stepF_buildSlice stepF_buildSliceV stepF_load stepF_store stepF_nilCheck stepF_bin stepF_eq stepF_un stepF_conv stepF_strId strIdV_str strIdV_int stepF_toStr stepF_toBytes stepF_fn stepF_mkSlice stepF_slice stepF_strSlice stepF_fieldAddr stepF_field stepF_idxAddr stepF_idxArr stepF_index stepF_strIndex stepF_extract stepF_len0 stepF_len1 stepF_min stepF_max stepF_append stepF_appendF appF_none appF_row stepF_mkMap stepF_mkIface stepF_lookup stepF_mapUpdate stepF_ext aext_idx aext_count aext_same cellsF newF abin_add abin_sub abin_mul abin_quo abin_rem abin_eql abin_neq abin_lss abin_leq abin_gtr abin_geq abin_and abin_or abin_xor abin_shl abin_shr abin_seql abin_sneq aun_not aun_neg aeq_bool aeq_agg eqCells_nil eqCells_int eqCells_bool eqCells_str cellsOf_agg cellsOf_int cellsOf_bool cellsOf_str cellsOf_is cellsOf_ms cellsOf_fn cellsOf_nilp cellsOf_mp cellsOf_mm cellsOf_nilm cellsOf_nili cellsOf_ifc cellsOf_ip cget_one cget_agg ev_t ev_c fillp_nil fillp_cons isSc_int isSc_bool isSc_str isSc_is isSc_ms isSc_fn isSc_mm isSc_mp isSc_ip isSc_nilp isSc_nilm isSc_nili isSc_nilf isSc_ifc splice chunk strip strip.stripL imm imm.immL Areify_int Areify_bool Areify_str Areify_is Areify_nilp Areify_tup Areify_agg AreifyL andF_chi andF_ch onF_chi onF_ch bthen_ch bthen_chi bblock_ch bblock_chi bkeep_ch bkeep_chi bown_ch bown_chi banswer_ch banswer_chi isSome_ch bcond_ch guardV_ch1 guardV_ch0 chF_true chF_false chF_not
attribute [local simp ↓] andF_some andF_chi andF_ch onF_some onF_none onF_chi onF_ch bthen_normal bthen_ret bthen_exit bthen_ch bthen_chi bblock_normal bblock_ret bblock_exit bblock_ch bblock_chi bkeep_some bkeep_ch bkeep_chi bown_normal bown_ret bown_ch bown_chi banswer_normal banswer_ret banswer_ch banswer_chi bcond_ch guardV_ch1 guardV_ch0 guardV_tup guardF_none guardF_some putF_some putF_none stepsF_nil stepsF_cons chF_true chF_false Brun_seq Brun_cond Brun_block Brun_region Brun_skip Brun_ret Brun_exit stepF_call stepF_callD stepF_move stepF_pick stepF_alloc stepF_allocV stepF_box stepF_boxV stepF_build stepF_buildSlice stepF_buildSliceV stepF_load stepF_store stepF_nilCheck stepF_bin stepF_eq stepF_un stepF_conv stepF_strId stepF_toStr stepF_toBytes stepF_fn stepF_mkSlice stepF_slice stepF_strSlice stepF_fieldAddr stepF_field stepF_idxAddr stepF_idxArr stepF_index stepF_strIndex stepF_extract stepF_len0 stepF_len1 stepF_min stepF_max stepF_append stepF_appendF stepF_mkMap stepF_mkIface stepF_lookup stepF_mapUpdate stepF_ext
set_option maxHeartbeats 4000000
section
variable {t : List TR} {rho : Nat → Nat} {F T R M : Nat}
structure RecOK (t : List TR) (F : Nat) (id : Int) (r : TR) : Prop where
 al : (layF t F id).align = 1 ∨ (layF t F id).align = 2 ∨ (layF t F id).align = 4
 lo : 1 ≤ (layF t F id).size
 hi : (layF t F id).size ≤ 16384
 md : (layF t F id).size % (layF t F id).align = 0
 pl : ∀ p ∈ (layF t F id).pl, PlOK (layF t F) r.mem (8 * (layF t F id).size) (layF t F id).align p ∧ begE t F p.ty = 0
 ap : r.kind = 15 → (layF t F id).pl.Pairwise fun a b => hiP (layF t F) a ≤ loP b
 un : r.kind = 16 → ∀ p ∈ (layF t F id).pl, p.off = 0 ∧ p.bit = 0
 ml : r.mem.length ≤ 64
 nl : (layF t F id).pl.length ≤ r.mem.length
theorem foldS_len (E : Int → LayT) : ∀ (l : List Mem) (i : Nat) (s : AtT), (foldS E i l s).pl.length ≤ s.pl.length + l.length := by
 intro l
 induction l with
 | nil => intro i s; simp [foldS]
 | cons m r ih =>
  intro i s
  have h1 := ih (i + 1) (stepS E s i m)
  have h2 : (stepS E s i m).pl.length ≤ s.pl.length + 1 := by
   unfold stepS
   split
   ·simp
   ·split
    ·simp
    ·simp
  simp only [foldS, List.length_cons]
  omega
end
theorem basicR_erase (i : Nat) (r : TR) : basicR i (eraseT r) = basicR i r := rfl
theorem shapedR_erase (i : Nat) (r : TR) : shapedR i (eraseT r) = shapedR i r := rfl
theorem twice_erase (t : List TR) (i : Nat) (r : TR) : twiceS (t.map eraseT) i (eraseT r) = twiceS t i r := by
 unfold twiceS
 rw [← List.map_take, List.any_map]
 rfl
theorem acc_erase {t : List TR} (h : AccP (t.map eraseT)) : AccP t := by
 have hl : (t.map eraseT).length = t.length := List.length_map ..
 have get : ∀ (i : Nat) (r : TR), t[i]? = some r → (t.map eraseT)[i]? = some (eraseT r) := fun i r hi => by rw [List.getElem?_map, hi]; rfl
 have mem : ∀ r ∈ t, eraseT r ∈ t.map eraseT := fun r hr => List.mem_map.2 ⟨r, hr, rfl⟩
 refine ⟨by rw [← hl]; exact h.lo, by rw [← hl]; exact h.hi, fun i r hi hlt => ?_, fun i r hi hge => ?_, fun r hr hk => ?_, fun r hr hd => ?_, ?_⟩
 ·rw [← basicR_erase]; exact h.basic i _ (get i r hi) hlt
 ·rw [← shapedR_erase, ← twice_erase]; exact h.row i _ (get i r hi) hge
 ·have := h.whole _ (mem r hr) hk
  rw [whole_erase] at this; exact this
 ·have := h.mems _ (mem r hr) hd
  rw [whole_erase, kind_erase, has_erase] at this; exact this
 ·obtain ⟨rho, hr⟩ := h.rank
  refine ⟨rho, fun i w hi d hd => ?_⟩
  have := hr i _ (get i w hi) d hd
  rw [hl] at this; exact this
theorem rho_bound (rho : Nat → Nat) : ∀ n, ∃ F, ∀ i, i < n → rho i < F := by
 intro n
 induction n with
 | zero => exact ⟨0, fun i h => by omega⟩
 | succ n ih =>
  obtain ⟨F, hF⟩ := ih
  refine ⟨max F (rho n + 1), fun i hi => ?_⟩
  by_cases e : i = n
  ·subst e; omega
  ·have := hF i (by omega); omega
theorem tbl_of {rows : List TR} (hcap : ∀ w ∈ rows, w.cap = .no) (hsz : ∀ w ∈ rows, w.mem.length ≤ 16777216) (ha : AccR rows) : ∃ rho F, Tbl (tabOf rows) rho F ∧ (tabOf rows).map eraseT = rows ∧ (tabOf rows).length = rows.length := by
 have hp := acc_imp ha
 have he := tab_erase hcap hp
 have hacc : AccP (tabOf rows) := acc_erase (by rw [he]; exact hp)
 obtain ⟨rho, hr⟩ := hacc.rank
 obtain ⟨F, hF⟩ := rho_bound rho (tabOf rows).length
 refine ⟨rho, F, ⟨hacc, hr, hF, fun w hw => ?_⟩, he, tab_len hcap hp⟩
 have : eraseT w ∈ rows := by rw [← he]; exact List.mem_map.2 ⟨w, hw, rfl⟩
 show (eraseT w).mem.length ≤ 16777216
 exact hsz _ this
section
variable {t : List TR} {rho : Nat → Nat} {F T R M C : Nat} {c cp : Cap}
end
theorem mems_of (B : Nat) : ∀ (l : List (List AV)), (∀ r ∈ l, ∃ nm ty bits, r = [.str nm, .int .i64 ty, .int .i64 bits] ∧ nm.length ≤ B) → ∃ ms : List Mem, l = memRows ms ∧ ∀ m ∈ ms, m.1.length ≤ B := by
 intro l
 induction l with
 | nil => intro _; exact ⟨[], rfl, fun m hm => by cases hm⟩
 | cons r t ih =>
  intro h
  obtain ⟨nm, ty, bits, rfl, hn⟩ := h r List.mem_cons_self
  obtain ⟨ms, rfl, hm⟩ := ih fun q hq => h q (List.mem_cons_of_mem _ hq)
  exact ⟨(nm, ty, bits) :: ms, rfl, fun m hq => by
   rcases List.mem_cons.1 hq with rfl | hq
   ·exact hn
   ·exact hm m hq⟩
def TRok (B : Nat) (w : TR) : Prop := w.cap = .no ∧ w.tag.length ≤ B ∧ w.mem.length ≤ B ∧ ∀ m ∈ w.mem, m.1.length ≤ B
theorem rows_of (B : Nat) : ∀ (l : List (List AV)), (∀ r ∈ l, ∃ (k e n : Int) (tg : List UInt8) (ms : List (List AV)) (b : Bool), r = [.int .i64 k, .int .i64 e, .int .i64 n, .str tg, .is ms .no, .bool b] ∧ tg.length ≤ B ∧ ms.length ≤ B ∧ ∀ q ∈ ms, ∃ nm ty bits, q = [.str nm, .int .i64 ty, .int .i64 bits] ∧ nm.length ≤ B) →
  ∃ rows : List TR, l = rows.map trow ∧ ∀ w ∈ rows, TRok B w := by
 intro l
 induction l with
 | nil => intro _; exact ⟨[], rfl, fun m hm => by cases hm⟩
 | cons r t ih =>
  intro h
  obtain ⟨k, e, n, tg, ms, b, rfl, h1, h2, h3⟩ := h r List.mem_cons_self
  obtain ⟨rows, rfl, hr⟩ := ih fun q hq => h q (List.mem_cons_of_mem _ hq)
  obtain ⟨l, rfl, hl⟩ := mems_of B ms h3
  rw [memRows_len] at h2
  exact ⟨⟨k, e, n, tg, l, b, .no⟩ :: rows, rfl, fun w hq => by
   rcases List.mem_cons.1 hq with rfl | hq
   ·exact ⟨rfl, h1, h2, hl⟩
   ·exact hr w hq⟩
abbrev rowSh : Sh := .st [(.int .i64), (.int .i64), (.int .i64), .str, (.sl (.st [.str, (.int .i64), (.int .i64)])), .bool]
theorem arg_rows {B : Nat} {x : AV} (h : (Sh.sl rowSh).Arg B x) : ∃ rows : List TR, x = .is (rows.map trow) .no ∧ rows.length ≤ B ∧ ∀ w ∈ rows, TRok B w := by
 simp only [Sh.Arg, Sh.Row, RowL] at h
 obtain ⟨l, hx, hl, hr⟩ := h
 simp only [List.cons.injEq, and_true] at hx
 subst hx
 obtain ⟨rows, rfl, hw⟩ := rows_of B l fun q hq => by
  obtain ⟨_, _, rfl, ⟨k, _, rfl⟩, _, _, rfl, ⟨e, _, rfl⟩, _, _, rfl, ⟨n, _, rfl⟩, _, _, rfl, ⟨tg, ht, rfl⟩, _, _, rfl, ⟨ms, rfl, hml, hmr⟩, _, _, rfl, ⟨b, rfl⟩, rfl⟩ := hr q hq
  refine ⟨k, e, n, tg, ms, b, rfl, ht, hml, fun z hz => ?_⟩
  obtain ⟨_, _, rfl, ⟨nm, hn, rfl⟩, _, _, rfl, ⟨ty, _, rfl⟩, _, _, rfl, ⟨bits, _, rfl⟩, rfl⟩ := hmr z hz
  exact ⟨nm, ty, bits, rfl, hn⟩
 rw [List.length_map] at hl
 exact ⟨rows, rfl, hl, hw⟩
theorem arg_mems {B : Nat} {x : AV} (h : (Sh.sl (.st [.str, (.int .i64), (.int .i64)])).Arg B x) : ∃ ms : List Mem, x = .is (memRows ms) .no ∧ ms.length ≤ B ∧ ∀ m ∈ ms, m.1.length ≤ B := by
 simp only [Sh.Arg, Sh.Row, RowL] at h
 obtain ⟨l, hx, hl, hr⟩ := h
 simp only [List.cons.injEq, and_true] at hx
 subst hx
 obtain ⟨ms, rfl, hm⟩ := mems_of B l fun z hz => by
  obtain ⟨_, _, rfl, ⟨nm, hn, rfl⟩, _, _, rfl, ⟨ty, _, rfl⟩, _, _, rfl, ⟨bits, _, rfl⟩, rfl⟩ := hr z hz
  exact ⟨nm, ty, bits, rfl, hn⟩
 rw [memRows_len] at hl
 exact ⟨ms, rfl, hl, hm⟩
theorem trok_sz {rows : List TR} (h : ∀ w ∈ rows, TRok 1048576 w) : (∀ w ∈ rows, w.cap = .no) ∧ ∀ w ∈ rows, w.tag.length ≤ 1048576 ∧ w.mem.length ≤ 16777216 ∧ ∀ m ∈ w.mem, m.1.length ≤ 1048576 :=
 ⟨fun w hw => (h w hw).1, fun w hw => ⟨(h w hw).2.1, by have := (h w hw).2.2.1; omega, (h w hw).2.2.2⟩⟩
theorem foldS_app (E : Int → LayT) : ∀ (a b : List Mem) (i : Nat) (s : AtT), foldS E i (a ++ b) s = foldS E (i + a.length) b (foldS E i a s) := by
 intro a
 induction a with
 | nil => intro b i s; rfl
 | cons m r ih =>
  intro b i s
  simp only [List.cons_append, foldS, List.length_cons]
  rw [ih, show i + 1 + r.length = i + (r.length + 1) by omega]
theorem stepS_pl (E : Int → LayT) (s : AtT) (i : Nat) (m : Mem) : (stepS E s i m).pl = s.pl ∨ ∃ p, (stepS E s i m).pl = s.pl ++ [p] ∧ p.mem = (i : Int) := by
 unfold stepS
 split
 ·exact .inr ⟨_, rfl, rfl⟩
 ·split
  ·exact .inl rfl
  ·exact .inr ⟨_, rfl, rfl⟩
theorem foldS_tail (E : Int → LayT) : ∀ (l : List Mem) (i : Nat) (s : AtT), ∃ tl, (foldS E i l s).pl = s.pl ++ tl ∧ ∀ p ∈ tl, (i : Int) ≤ p.mem ∧ p.mem < ((i + l.length : Nat) : Int) := by
 intro l
 induction l with
 | nil => intro i s; exact ⟨[], by simp [foldS], fun p hp => by cases hp⟩
 | cons m r ih =>
  intro i s
  obtain ⟨tl, h1, h2⟩ := ih (i + 1) (stepS E s i m)
  simp only [foldS, List.length_cons]
  rcases stepS_pl E s i m with h | ⟨p, h, hp⟩
  ·exact ⟨tl, by rw [h1, h], fun q hq => by have := h2 q hq; omega⟩
  ·refine ⟨p :: tl, by rw [h1, h]; simp, fun q hq => ?_⟩
   rcases List.mem_cons.1 hq with rfl | hq
   ·rw [hp]; omega
   ·have := h2 q hq; omega
def likeN : List Mem → List Mem → Nat
 | a :: r, b :: t => if a = b then likeN r t + 1 else 0
 | _, _ => 0
theorem likeN_take : ∀ (a b : List Mem), a.take (likeN a b) = b.take (likeN a b) ∧ likeN a b ≤ a.length ∧ likeN a b ≤ b.length := by
 intro a
 induction a with
 | nil => intro b; simp [likeN]
 | cons x r ih =>
  intro b
  cases b with
  | nil => simp [likeN]
  | cons y t =>
   unfold likeN
   split
   ·rename_i h
    obtain ⟨g1, g2, g3⟩ := ih t
    subst h
    simp only [List.take_succ_cons, g1, List.length_cons]
    exact ⟨trivial, by omega, by omega⟩
   ·simp
theorem common_pl (E : Int → LayT) (a b : List Mem) (i : Nat) (p : PlT) (hp : (structL E a).pl[i]? = some p) (hm : p.mem < likeN a b) : (structL E b).pl[i]? = some p := by
 obtain ⟨h1, h2, h3⟩ := likeN_take a b
 have ea : a = a.take (likeN a b) ++ a.drop (likeN a b) := (List.take_append_drop ..).symm
 have eb : b = a.take (likeN a b) ++ b.drop (likeN a b) := by rw [h1]; exact (List.take_append_drop ..).symm
 have la : (a.take (likeN a b)).length = likeN a b := by rw [List.length_take]; omega
 have pa : (structL E a).pl = (foldS E (likeN a b) (a.drop (likeN a b)) (foldS E 0 (a.take (likeN a b)) ⟨0, 1, []⟩)).pl := by
  show (foldS E 0 a ⟨0, 1, []⟩).pl = _
  conv => lhs; rw [ea]
  rw [foldS_app, la, Nat.zero_add]
 have pb : (structL E b).pl = (foldS E (likeN a b) (b.drop (likeN a b)) (foldS E 0 (a.take (likeN a b)) ⟨0, 1, []⟩)).pl := by
  show (foldS E 0 b ⟨0, 1, []⟩).pl = _
  conv => lhs; rw [eb]
  rw [foldS_app, la, Nat.zero_add]
 obtain ⟨t1, q1, q2⟩ := foldS_tail E (a.drop (likeN a b)) (likeN a b) (foldS E 0 (a.take (likeN a b)) ⟨0, 1, []⟩)
 obtain ⟨t2, q3, _⟩ := foldS_tail E (b.drop (likeN a b)) (likeN a b) (foldS E 0 (a.take (likeN a b)) ⟨0, 1, []⟩)
 rw [pa, q1] at hp
 rw [pb, q3]
 by_cases hi : i < (foldS E 0 (a.take (likeN a b)) ⟨0, 1, []⟩).pl.length
 ·rw [List.getElem?_append_left hi] at hp ⊢; exact hp
 ·rw [List.getElem?_append_right (by omega)] at hp
  have := q2 p (List.mem_of_getElem? hp)
  omega
theorem wholeS_le {t t' : List TR} (h : ∀ (i : Nat) x, t[i]? = some x → ∃ y, t'[i]? = some y ∧ (wholeR x = true → wholeR y = true)) : ∀ id, wholeS t id = true → wholeS t' id = true := by
 intro id hw
 unfold wholeS at hw ⊢
 cases hg : getT t id with
 | none => rw [hg] at hw; cases hw
 | some x =>
  rw [hg] at hw
  obtain ⟨h0, hi⟩ := getT_some hg
  obtain ⟨y, h1, h2⟩ := h id.toNat x hi
  have : getT t' id = some y := by unfold getT; rw [if_pos h0]; exact h1
  rw [this]
  exact h2 hw
def recT (k : Int) (tag : List UInt8) (ms : List Mem) (d : Bool) (c : Cap) : TR := ⟨k, 0, 0, tag, ms, d, c⟩
theorem memsE_ext {w w' : Int → Bool} {k k' : Int → Int} {h h' : Int → Bool} (hh : ∀ x, h x = true → h' x = true ∧ k' x = k x) (hw : ∀ x, w x = true → w' x = true) : ∀ (l : List Mem) (seen : List (List UInt8)), memsE w k h seen l = 0 → memsE w' k' h' seen l = 0 := by
 intro l
 induction l with
 | nil => intro seen q; unfold memsE; rfl
 | cons m r ih =>
  intro seen q
  unfold memsE at q ⊢
  split at q
  ·rename_i h1
   have : memE w' k' h' seen m = 0 := by
    unfold memE at h1 ⊢
    split at h1
    ·cases h1
    ·rename_i a1
     split at h1
     ·cases h1
     ·rename_i a2
      have b1 := hh m.2.1 (by simpa using a1)
      have b2 := hw m.2.1 (by simpa using a2)
      rw [if_neg (by rw [b1.1]; decide), if_neg (by rw [b2]; decide), b1.2]
      exact h1
   rw [if_pos this]
   exact ih _ q
  ·rename_i h1; exact absurd q h1
theorem membersE_ext {w w' : Int → Bool} {k k' : Int → Int} {h h' : Int → Bool} (hh : ∀ x, h x = true → h' x = true ∧ k' x = k x) (hw : ∀ x, w x = true → w' x = true) {l : List Mem} (q : membersE w k h l = 0) : membersE w' k' h' l = 0 := by
 unfold membersE at q ⊢
 split at q
 ·cases q
 ·rename_i h1
  rw [if_neg h1]
  exact memsE_ext hh hw l [] q
theorem getT_app {t s : List TR} {id : Int} {r : TR} (h : getT t id = some r) : getT (t ++ s) id = some r := by
 obtain ⟨h0, hi⟩ := getT_some h
 unfold getT
 rw [if_pos h0, List.getElem?_append_left (List.getElem?_eq_some_iff.1 hi).1]
 exact hi
theorem app1 {t : List TR} {a : TR} {i : Nat} {x : TR} (h : (t ++ [a])[i]? = some x) : (i < t.length ∧ t[i]? = some x) ∨ (i = t.length ∧ x = a) := by
 by_cases c : i < t.length
 ·rw [List.getElem?_append_left c] at h; exact .inl ⟨c, h⟩
 ·rw [List.getElem?_append_right (by omega)] at h
  by_cases c1 : i = t.length
  ·subst c1; rw [Nat.sub_self] at h; cases h; exact .inr ⟨rfl, rfl⟩
  ·rw [List.getElem?_eq_none (by simp; omega)] at h; cases h
theorem acc_add {t : List TR} (ha : AccP t) (k : Int) (hk : k = 15 ∨ k = 16) (tag : List UInt8) (c : Cap) (htag : tagS tag = true) (hlen : t.length < 512) : AccP (t ++ [recT k tag [] false c]) := by
 have lo := ha.lo
 have hw : ∀ x, wholeS t x = true → wholeS (t ++ [recT k tag [] false c]) x = true := wholeS_le fun i x hx => ⟨x, by rw [List.getElem?_append_left (List.getElem?_eq_some_iff.1 hx).1]; exact hx, fun q => q⟩
 have hh : ∀ x, hasS t x = true → hasS (t ++ [recT k tag [] false c]) x = true ∧ kindS (t ++ [recT k tag [] false c]) x = kindS t x := fun x hx => by
  unfold hasS kindS at *
  cases hg : getT t x with
  | none => rw [hg] at hx; cases hx
  | some r => rw [getT_app hg]; exact ⟨rfl, rfl⟩
 have htw : ∀ (i : Nat) (r : TR), i ≤ t.length → twiceS (t ++ [recT k tag [] false c]) i r = twiceS t i r := fun i r hi => by
  unfold twiceS
  rw [List.take_append_of_le_length hi]
 refine ⟨by simp; omega, by simp; omega, fun i r hi hlt => ?_, fun i r hi hge => ?_, fun r hr hk14 => ?_, fun r hr hd => ?_, ?_⟩
 ·rcases app1 hi with ⟨_, h⟩ | ⟨h, _⟩
  ·exact ha.basic i r h hlt
  ·omega
 ·rcases app1 hi with ⟨h1, h⟩ | ⟨h, e⟩
  ·rw [htw i r (by omega)]; exact ha.row i r h hge
  ·subst e
   rcases hk with rfl | rfl
   ·exact ⟨by simp [shapedR, recT, htag], by simp [twiceS, isPA, recT]⟩
   ·exact ⟨by simp [shapedR, recT, htag], by simp [twiceS, isPA, recT]⟩
 ·rcases List.mem_append.1 hr with h | h
  ·exact hw _ (ha.whole r h hk14)
  ·simp only [List.mem_cons, List.not_mem_nil, or_false] at h
   subst h
   rcases hk with rfl | rfl <;> simp [recT] at hk14
 ·rcases List.mem_append.1 hr with h | h
  ·exact membersE_ext hh hw (ha.mems r h hd)
  ·simp only [List.mem_cons, List.not_mem_nil, or_false] at h
   subst h
   simp [recT] at hd
 ·obtain ⟨rho, hr⟩ := ha.rank
  refine ⟨rho, fun i r hi d hd => ?_⟩
  rcases app1 hi with ⟨_, h⟩ | ⟨h, e⟩
  ·have := hr i r h d hd
   refine ⟨this.1, ?_, this.2.2⟩
   rw [List.length_append]; omega
  ·subst e
   rcases hk with rfl | rfl <;> simp [deps, recT] at hd
theorem set_get {t : List TR} {n i : Nat} {y x : TR} (h : (t.set n y)[i]? = some x) : (i ≠ n ∧ t[i]? = some x) ∨ (i = n ∧ x = y ∧ n < t.length) := by
 rw [List.getElem?_set] at h
 split at h
 ·rename_i e
  split at h
  ·rename_i l; injection h with h; exact .inr ⟨e.symm, h.symm, l⟩
  ·cases h
 ·rename_i e; exact .inl ⟨fun q => e q.symm, h⟩
theorem rho_max (rho : Nat → Nat) : ∀ n, ∃ F, ∀ i, i < n → rho i < F := by
 intro n
 induction n with
 | zero => exact ⟨0, fun i h => by omega⟩
 | succ n ih =>
  obtain ⟨F, hF⟩ := ih
  refine ⟨max F (rho n + 1), fun i hi => ?_⟩
  by_cases e : i = n
  ·subst e; omega
  ·have := hF i (by omega); omega
theorem membersE_has {w : Int → Bool} {k : Int → Int} {h : Int → Bool} {l : List Mem} (q : membersE w k h l = 0) : ∀ m ∈ l, h m.2.1 = true ∧ w m.2.1 = true := by
 unfold membersE at q
 split at q
 ·cases q
 ·exact memsE_has q
theorem acc_done {t : List TR} (ha : AccP t) (n : Nat) {r : TR} (hn : t[n]? = some r) (hk : r.kind = 15 ∨ r.kind = 16) (hd : r.done = false) (ms : List Mem) (c : Cap) (hm : membersE (wholeS t) (kindS t) (hasS t) ms = 0) :
  AccP (t.set n { r with mem := ms, done := true, cap := c }) := by
 have ln := (List.getElem?_eq_some_iff.1 hn).1
 have k14 : ¬ r.kind = 14 := by omega
 have nw : wholeR r = false := by
  unfold wholeR
  rw [if_neg (by omega), if_neg k14, if_pos hk, hd]
 have hg : getT t (n : Int) = some r := by
  unfold getT
  rw [if_pos (by omega)]
  simpa using hn
 have n11 : 11 ≤ n := by
  by_cases q : n < 11
  ·have := ha.basic n r hn q
   simp only [basicR, decide_eq_true_eq] at this
   omega
  ·omega
 generalize hy : ({ r with mem := ms, done := true, cap := c } : TR) = y
 have yk : y.kind = r.kind := by subst hy; rfl
 have ykey : keyR y = keyR r := by subst hy; rfl
 have yd : y.done = true := by subst hy; rfl
 have ym : y.mem = ms := by subst hy; rfl
 have hw : ∀ x, wholeS t x = true → wholeS (t.set n y) x = true := wholeS_le fun i x hx => by
  by_cases e : n = i
  ·subst e
   rw [hn] at hx
   cases hx
   exact ⟨y, by rw [List.getElem?_set, if_pos rfl, if_pos ln], fun q => by rw [nw] at q; cases q⟩
  ·exact ⟨x, by rw [List.getElem?_set_ne e]; exact hx, fun q => q⟩
 have hh : ∀ x, hasS t x = true → hasS (t.set n y) x = true ∧ kindS (t.set n y) x = kindS t x := fun x hx => by
  unfold hasS kindS at *
  cases hgx : getT t x with
  | none => rw [hgx] at hx; cases hx
  | some z =>
   obtain ⟨h0, hi⟩ := getT_some hgx
   by_cases e : n = x.toNat
   ·have : getT (t.set n y) x = some y := by
     unfold getT
     rw [if_pos h0, List.getElem?_set, if_pos e, if_pos ln]
    rw [this]
    have : z = r := by rw [← e, hn] at hi; exact (Option.some.inj hi).symm
    subst this
    exact ⟨rfl, yk⟩
   ·have : getT (t.set n y) x = some z := by
     unfold getT
     rw [if_pos h0, List.getElem?_set_ne e]
     exact hi
    rw [this]
    exact ⟨rfl, rfl⟩
 have hm' := membersE_ext hh hw hm
 have hpa : isPA y = false := by unfold isPA; rw [yk]; simp; omega
 have htw : ∀ (i : Nat) (x : TR), twiceS (t.set n y) i x = twiceS t i x := fun i x => by
  unfold twiceS
  congr 1
  rw [← List.map_id (List.take i (t.set n y)), Bool.eq_iff_iff]
  simp only [List.map_id, List.any_eq_true, decide_eq_true_eq]
  constructor
  ·rintro ⟨q, hq, e⟩
   obtain ⟨j, hj⟩ := List.mem_iff_getElem?.1 hq
   rw [List.getElem?_take] at hj
   split at hj
   ·rename_i lj
    rcases set_get hj with ⟨_, h⟩ | ⟨h1, h2, _⟩
    ·exact ⟨q, List.mem_of_getElem? (i := j) (by rw [List.getElem?_take, if_pos lj]; exact h), e⟩
    ·subst h1 h2
     exact ⟨r, List.mem_of_getElem? (i := j) (by rw [List.getElem?_take, if_pos lj]; exact hn), by rw [← ykey]; exact e⟩
   ·cases hj
  ·rintro ⟨q, hq, e⟩
   obtain ⟨j, hj⟩ := List.mem_iff_getElem?.1 hq
   rw [List.getElem?_take] at hj
   split at hj
   ·rename_i lj
    by_cases ej : n = j
    ·subst ej
     rw [hn] at hj
     cases hj
     exact ⟨y, List.mem_of_getElem? (i := n) (by rw [List.getElem?_take, if_pos lj, List.getElem?_set, if_pos rfl, if_pos ln]), by rw [ykey]; exact e⟩
    ·exact ⟨q, List.mem_of_getElem? (i := j) (by rw [List.getElem?_take, if_pos lj, List.getElem?_set_ne ej]; exact hj), e⟩
   ·cases hj
 have hsh : shapedR n y = true := by
  have := (ha.row n r hn n11).1
  unfold shapedR at this ⊢
  rw [yk]
  rw [if_neg (by omega), if_neg k14, if_neg (by omega), if_pos hk] at this ⊢
  subst hy
  simp only [Bool.and_eq_true, decide_eq_true_eq] at this ⊢
  exact ⟨⟨this.1.1, this.1.2.1, fun q => by cases q⟩, this.2⟩
 refine ⟨by rw [List.length_set]; exact ha.lo, by rw [List.length_set]; exact ha.hi, fun i x hi hlt => ?_, fun i x hi hge => ?_, fun x hx hk14 => ?_, fun x hx hdx => ?_, ?_⟩
 ·rcases set_get hi with ⟨_, h⟩ | ⟨h, _, _⟩
  ·exact ha.basic i x h hlt
  ·omega
 ·rw [htw]
  rcases set_get hi with ⟨_, h⟩ | ⟨h1, h2, _⟩
  ·exact ha.row i x h hge
  ·subst h1 h2
   exact ⟨hsh, by unfold twiceS; rw [hpa]; rfl⟩
 ·obtain ⟨j, hj⟩ := List.mem_iff_getElem?.1 hx
  rcases set_get hj with ⟨_, h⟩ | ⟨h1, h2, _⟩
  ·exact hw _ (ha.whole x (List.mem_of_getElem? h) hk14)
  ·subst h2; omega
 ·obtain ⟨j, hj⟩ := List.mem_iff_getElem?.1 hx
  rcases set_get hj with ⟨_, h⟩ | ⟨h1, h2, _⟩
  ·exact membersE_ext hh hw (ha.mems x (List.mem_of_getElem? h) hdx)
  ·subst h2; rw [ym]; exact hm'
 ·obtain ⟨rho, hr⟩ := ha.rank
  obtain ⟨F, hF⟩ := rho_max rho t.length
  have nd : ∀ (i : Nat) (x : TR), t[i]? = some x → ∀ d ∈ deps x, wholeS t d = true := fun i x hi d hdx => by
   unfold deps at hdx
   rcases List.mem_append.1 hdx with h | h
   ·split at h
    ·rename_i k
     simp only [List.mem_cons, List.not_mem_nil, or_false] at h
     subst h
     exact ha.whole x (List.mem_of_getElem? hi) k
    ·cases h
   ·obtain ⟨m, hmm, rfl⟩ := List.mem_map.1 h
    by_cases dx : x.done = true
    ·exact (membersE_has (ha.mems x (List.mem_of_getElem? hi) dx) m hmm).2
    ·exfalso
     have dx : x.done = false := by simpa using dx
     by_cases q : i < 11
     ·have := ha.basic i x hi q
      simp only [basicR, decide_eq_true_eq] at this
      rw [this.2.2.2.2.1] at hmm; cases hmm
     ·have := (ha.row i x hi (by omega)).1
      unfold shapedR at this
      by_cases k13 : x.kind = 13
      ·rw [if_pos k13] at this
       simp only [decide_eq_true_eq] at this
       rw [this.2.2.1] at hmm; cases hmm
      ·rw [if_neg k13] at this
       by_cases k14 : x.kind = 14
       ·rw [if_pos k14] at this
        simp only [Bool.and_eq_true, decide_eq_true_eq] at this
        rw [this.1.2.1] at hmm; cases hmm
       ·rw [if_neg k14] at this
        by_cases k12 : x.kind = 12
        ·rw [if_pos k12] at this
         simp only [Bool.and_eq_true, decide_eq_true_eq] at this
         rw [this.1.2.2.1] at hmm; cases hmm
        ·rw [if_neg k12] at this
         by_cases k15 : x.kind = 15 ∨ x.kind = 16
         ·rw [if_pos k15] at this
          simp only [Bool.and_eq_true, decide_eq_true_eq] at this
          rw [this.1.2.2 dx] at hmm; cases hmm
         ·rw [if_neg k15] at this; cases this
  have nn : ∀ d : Int, wholeS t d = true → d.toNat ≠ n := fun d hd e => by
   have h0 : hasS t d = true := by
    unfold wholeS at hd
    unfold hasS
    cases hgd : getT t d with
    | none => rw [hgd] at hd; cases hd
    | some z => rfl
   have h1 := has_lt h0
   have : d = n := by omega
   subst this
   unfold wholeS at hd
   rw [hg] at hd
   simp only at hd
   rw [nw] at hd; cases hd
  have wlt : ∀ d : Int, wholeS t d = true → 0 ≤ d ∧ d.toNat < t.length := fun d hd => by
   have h0 : hasS t d = true := by
    unfold wholeS at hd
    unfold hasS
    cases hgd : getT t d with
    | none => rw [hgd] at hd; cases hd
    | some z => rfl
   exact has_lt h0
  refine ⟨fun j => if j = n then F else rho j, fun i x hi d hdx => ?_⟩
  rw [List.length_set]
  rcases set_get hi with ⟨ne, h⟩ | ⟨h1, h2, _⟩
  ·have q := hr i x h d hdx
   refine ⟨q.1, q.2.1, ?_⟩
   have := nn d (nd i x h d hdx)
   simp only
   rw [if_neg this, if_neg ne]
   exact q.2.2
  ·subst h1 h2
   have wd : wholeS t d = true := by
    unfold deps at hdx
    rw [yk, if_neg k14, List.nil_append, ym] at hdx
    obtain ⟨m, hmm, rfl⟩ := List.mem_map.1 hdx
    exact (membersE_has hm m hmm).2
   have := wlt d wd
   refine ⟨this.1, this.2, ?_⟩
   show (if d.toNat = i then F else rho d.toNat) < (if i = i then F else rho i)
   rw [if_neg (nn d wd), if_pos rfl]
   exact hF _ this.2
section
variable {G : Heap} {T R M cap : Nat} {ex : Bool} {t : List TR}
theorem TabAt.ne (ht : TabAt G T R M cap ex t) : T ≠ R := by
 intro e
 have h1 := ht.t0
 have h2 := ht.r0
 rw [e, h2] at h1
 have : (cellsT t).length = 2 := by
  injection h1 with h1
  injection h1 with h1
  rw [h1]; rfl
 rw [cells_len] at this
 omega
theorem add_full (ht : TabAt G T R M cap ex t) (k e n : Int) (tg : List UInt8) (hl : 512 ≤ t.length) : Ccall tab 59 [.mp T 0, .agg [.int .i64 k, .int .i64 e, .int .i64 n, .str tg, .is [] .nil, .bool false]] G = some (.tup [.int .i64 0, .int .i64 32], G) := by
 have hT := ht.t0
 have h1 : (512 : Int) ≤ t.length := by omega
 generalize t.length = n at *
 refine Ccall_over rfl rfl rfl rfl ?_
 clear ht hl
 repeat (any_goals first | simp (dsimp := false) (maxSteps := 4000000) (maxDischargeDepth := 8) (implicitDefEqProofs := false) [*, -Int.not_le, -Int.not_lt, amLt, f59c, f59r0, f59r1, f59r2, f59r4] | with_reducible refine ch_both (fun _ => ?_) (fun _ => ?_) | with_reducible refine ite_both (fun _ => ?_) (fun _ => ?_) | intro _)
def addH (G : Heap) (T R M : Nat) (t : List TR) (w : TR) : Heap :=
 List.set (List.set G R .dead) T (.cells [.ms (G.length + 1) 0 (t.length + 1) 6 (t.length + 1) false, .mm M]) ++ [.cells (trow w), .cells (cellsT t ++ trow w)]
theorem add_reg (ht : TabAt G T R M t.length false t) (k e n : Int) (tg : List UInt8) (hl : t.length < 512) :
  Brun tab 28 (.region true f59r3 [0] 2) (ofL [(0, .mp T 0), (3, .ip [.int .i64 k, .int .i64 e, .int .i64 n, .str tg, .is [] .no, .bool false] 0), (11, .bool false)]) G = some (.normal, ofL [(0, .mp T 0)], addH G T R M t ⟨k, e, n, tg, [], false, .no⟩) := by
 have hne := ht.ne
 have hne' : ¬ R = T := fun e => hne e.symm
 have lT := (List.getElem?_eq_some_iff.1 ht.t0).1
 have lR := (List.getElem?_eq_some_iff.1 ht.r0).1
 have gT := fun x => ht.t x
 have gR := fun x => ht.r x
 have gT0 := ht.t0
 have gR0 := ht.r0
 have s1 : ∀ x b, (G ++ x).set R b = G.set R b ++ x := fun x b => by rw [List.set_append_left _ _ lR]
 have g2 : ∀ x, (G.set R .dead ++ x)[T]? = some (.cells [.ms R 0 t.length 6 t.length false, .mm M]) := fun x => by
  rw [List.getElem?_append_left (by rw [List.length_set]; exact lT), List.getElem?_set_ne (fun e => hne e.symm)]; exact ht.t0
 have s2 : ∀ x b, (G.set R .dead ++ x).set T b = (G.set R .dead).set T b ++ x := fun x b => by rw [List.set_append_left _ _ (by rw [List.length_set]; exact lT)]
 have hlen : (G.set R Blk.dead).length = G.length := List.length_set ..
 have hcs : (cellsT t).length = t.length * 6 := by rw [cells_len]
 have htk : (cellsT t).take (t.length * 6) = cellsT t := List.take_of_length_le (by omega)
 have hkk : ¬ t.length + 1 ≤ t.length := by omega
 have hcl : t.length * 6 ≤ (cellsT t).length := by omega
 have hrm : ¬ 140737488355328 < (t.length + 1) * 72 := by omega
 have hrm2 : (t.length + 1) * 72 ≤ 140737488355328 := by omega
 have hz : ¬ G = [] := by rintro rfl; simp at lT
 have hGT : ¬ G.length = T := by omega
 unfold addH
 have ew : trow ⟨k, e, n, tg, [], false, .no⟩ = [.int .i64 k, .int .i64 e, .int .i64 n, .str tg, .is [] .no, .bool false] := rfl
 rw [ew]
 clear ew
 generalize cellsT t = cs at *
 generalize t.length = nn at *
 refine Brun_told ?_
 clear ht hl lT lR hne
 simp [*, f59r3, asteps, astep, stepRun, aop, HC.run, HC.rds, HC.wrs, HC.ofOpt, Blk.isFree, wanted, put, cellsOf, isSc, splice, cget, slen, ssz, scells, roomy, rowsz, Cap.tight, drawOK, freeOf, Rec.indep, disj, apart, AOper.looks, AOp.tmps, AO.tmps, pTmps, oTmps, Nat.testBit, ofL, isPure, tab, fillp, imm, imm.immL, Nat.add_assoc]
theorem add_ok (ht : TabAt G T R M t.length false t) (k e n : Int) (tg : List UInt8) (hl : t.length < 512) : Ccall tab 59 [.mp T 0, .agg [.int .i64 k, .int .i64 e, .int .i64 n, .str tg, .is [] .nil, .bool false]] G = some (.tup [.int .i64 t.length, .int .i64 0], addH G T R M t ⟨k, e, n, tg, [], false, .no⟩) := by
 have h1 : ¬ (512 : Int) ≤ t.length := by omega
 have h1' : (t.length : Int) < 512 := by omega
 have gT0 := ht.t0
 have hr := add_reg ht k e n tg hl
 have gT2 : (addH G T R M t ⟨k, e, n, tg, [], false, .no⟩)[T]? = some (.cells [.ms (G.length + 1) 0 (t.length + 1) 6 (t.length + 1) false, .mm M]) := by
  have lT := (List.getElem?_eq_some_iff.1 ht.t0).1
  unfold addH
  rw [List.getElem?_append_left (by simpa using lT), List.getElem?_set, if_pos rfl, if_pos (by simpa using lT)]
 have hw : IntKind.i64.wrap (t.length : Int) = t.length := IntWalk.i64_in _ (by omega)
 generalize addH G T R M t ⟨k, e, n, tg, [], false, .no⟩ = G2 at *
 generalize t.length = nn at *
 refine Ccall_over rfl rfl rfl rfl ?_
 show banswer _ (Brun tab 28 f59c _ _) = _
 unfold f59c
 generalize ACode.region true f59r3 [0] 2 = rg at *
 clear ht hl
 repeat (any_goals first | simp (dsimp := false) (maxSteps := 4000000) (maxDischargeDepth := 8) (implicitDefEqProofs := false) [*, -Int.not_le, -Int.not_lt, amLt, f59c, f59r0, f59r1, f59r2, f59r4] | with_reducible refine ch_both (fun _ => ?_) (fun _ => ?_) | with_reducible refine ite_both (fun _ => ?_) (fun _ => ?_) | intro _)
theorem add_tab (ht : TabAt G T R M t.length false t) (w : TR) (hl : t.length < 512) : TabAt (addH G T R M t w) T (G.length + 1) M (t ++ [w]).length false (t ++ [w]) := by
 have hne := ht.ne
 have lT := (List.getElem?_eq_some_iff.1 ht.t0).1
 have lR := (List.getElem?_eq_some_iff.1 ht.r0).1
 unfold addH
 refine ⟨fun x => ?_, fun x => ?_⟩
 ·rw [List.append_assoc, List.getElem?_append_left (by simpa using lT), List.getElem?_set, if_pos rfl, if_pos (by simpa using lT)]
  simp
 ·rw [List.append_assoc, List.getElem?_append_right (by simp), cells_app, cells_one]
  simp
theorem tagged_ok (ht : TabAt G T R M t.length false t) (k : Int) (tg : List UInt8) (hg : tagS tg = true) (hs : tg.length ≤ 1048576) (hl : t.length < 512) :
  Ccall tab 28 [.mp T 0, .int .i64 k, .str tg] G = some (.tup [.int .i64 t.length, .int .i64 0], addH G T R M t (recT k tg [] false .no)) := by
 have ha := alive_ok ht.t0
 have hb := fun h => tag_ok h tg hs
 have hc := add_ok ht k 0 0 tg hl
 rw [hg] at hb
 unfold recT
 generalize addH G T R M t ⟨k, 0, 0, tg, [], false, .no⟩ = G2 at *
 refine Ccall_over rfl rfl rfl rfl ?_
 clear ht hl hg hs
 repeat (any_goals first | simp (dsimp := false) (maxSteps := 4000000) (maxDischargeDepth := 8) (implicitDefEqProofs := false) [*, -Int.not_le, -Int.not_lt, amLt, f28c, f28r0, f28r1, f28r2, f28r3, f28r4, f28r5] | with_reducible refine ch_both (fun _ => ?_) (fun _ => ?_) | with_reducible refine ite_both (fun _ => ?_) (fun _ => ?_) | intro _)
theorem tagged_full (ht : TabAt G T R M cap ex t) (k : Int) (tg : List UInt8) (hg : tagS tg = true) (hs : tg.length ≤ 1048576) (hl : 512 ≤ t.length) :
  Ccall tab 28 [.mp T 0, .int .i64 k, .str tg] G = some (.tup [.int .i64 0, .int .i64 32], G) := by
 have ha := alive_ok ht.t0
 have hb := fun h => tag_ok h tg hs
 have hc := add_full ht k 0 0 tg hl
 rw [hg] at hb
 refine Ccall_over rfl rfl rfl rfl ?_
 clear ht hl hg hs
 repeat (any_goals first | simp (dsimp := false) (maxSteps := 4000000) (maxDischargeDepth := 8) (implicitDefEqProofs := false) [*, -Int.not_le, -Int.not_lt, amLt, f28c, f28r0, f28r1, f28r2, f28r3, f28r4, f28r5] | with_reducible refine ch_both (fun _ => ?_) (fun _ => ?_) | with_reducible refine ite_both (fun _ => ?_) (fun _ => ?_) | intro _)
theorem tstruct_ok (ht : TabAt G T R M t.length false t) (tg : List UInt8) (hg : tagS tg = true) (hs : tg.length ≤ 1048576) (hl : t.length < 512) :
  Ccall tab 11 [.mp T 0, .str tg] G = some (.tup [.int .i64 t.length, .int .i64 0], addH G T R M t (recT 15 tg [] false .no)) := by
 have hc := tagged_ok ht 15 tg hg hs hl
 generalize addH G T R M t (recT 15 tg [] false .no) = G2 at *
 refine Ccall_over rfl rfl rfl rfl ?_
 clear ht hl hg hs
 repeat (any_goals first | simp (dsimp := false) (maxSteps := 4000000) (maxDischargeDepth := 8) (implicitDefEqProofs := false) [*, -Int.not_le, -Int.not_lt, amLt, f11c, f11r0, f11r1] | with_reducible refine ch_both (fun _ => ?_) (fun _ => ?_) | with_reducible refine ite_both (fun _ => ?_) (fun _ => ?_) | intro _)
theorem tstruct_full (ht : TabAt G T R M cap ex t) (tg : List UInt8) (hg : tagS tg = true) (hs : tg.length ≤ 1048576) (hl : 512 ≤ t.length) :
  Ccall tab 11 [.mp T 0, .str tg] G = some (.tup [.int .i64 0, .int .i64 32], G) := by
 have hc := tagged_full ht 15 tg hg hs hl
 refine Ccall_over rfl rfl rfl rfl ?_
 clear ht hl hg hs
 repeat (any_goals first | simp (dsimp := false) (maxSteps := 4000000) (maxDischargeDepth := 8) (implicitDefEqProofs := false) [*, -Int.not_le, -Int.not_lt, amLt, f11c, f11r0, f11r1] | with_reducible refine ch_both (fun _ => ?_) (fun _ => ?_) | with_reducible refine ite_both (fun _ => ?_) (fun _ => ?_) | intro _)
end
section
variable {G : Heap} {T R M cap : Nat} {ex : Bool} {t : List TR}
theorem cells_told {t : List TR} {n : Nat} {r : TR} (hn : t[n]? = some r) (ms : List Mem) : ((cellsT t).set (n * 6 + 4) (.is (memRows ms) .no)).set (n * 6 + 5) (.bool true) = cellsT (t.set n { r with mem := ms, done := true, cap := .no }) := by
 obtain ⟨ln, gn⟩ := List.getElem?_eq_some_iff.1 hn
 have hl := cells_len t
 have hl2 := cells_len (t.set n { r with mem := ms, done := true, cap := .no })
 rw [List.length_set] at hl2
 apply List.ext_getElem?
 intro i
 by_cases hi : i < t.length * 6
 ·have hq : i / 6 < t.length := by omega
  have hd : i = i / 6 * 6 + i % 6 := by omega
  have hm : i % 6 < 6 := by omega
  have a1 := cells_at (List.getElem?_eq_getElem hq) (i % 6) hm
  rw [← hd] at a1
  by_cases e : i / 6 = n
  ·have a2 := cells_at (rows := t.set n { r with mem := ms, done := true, cap := .no }) (i := i / 6) (by rw [List.getElem?_set, if_pos e.symm, if_pos ln]) (i % 6) hm
   rw [← hd] at a2
   rw [a2]
   have er : t[i / 6] = r := by
    have : some t[i / 6] = some r := by rw [← List.getElem?_eq_getElem hq, e]; exact hn
    exact Option.some.inj this
   rw [er] at a1
   by_cases c5 : n * 6 + 5 = i
   ·rw [List.getElem?_set, if_pos c5, if_pos (by rw [List.length_set]; omega), show i % 6 = 5 by omega]
    rfl
   ·rw [List.getElem?_set_ne c5]
    by_cases c4 : n * 6 + 4 = i
    ·rw [List.getElem?_set, if_pos c4, if_pos (by omega), show i % 6 = 4 by omega]
     rfl
    ·rw [List.getElem?_set_ne c4, a1]
     have : i % 6 = 0 ∨ i % 6 = 1 ∨ i % 6 = 2 ∨ i % 6 = 3 := by omega
     rcases this with h | h | h | h <;> rw [h] <;> rfl
  ·have a2 := cells_at (rows := t.set n { r with mem := ms, done := true, cap := .no }) (i := i / 6) (by rw [List.getElem?_set_ne (fun q => e q.symm)]; exact List.getElem?_eq_getElem hq) (i % 6) hm
   rw [← hd] at a2
   rw [a2, List.getElem?_set_ne (by omega), List.getElem?_set_ne (by omega), a1]
 ·rw [List.getElem?_eq_none (by simp only [List.length_set]; omega), List.getElem?_eq_none (by omega)]
theorem recd_ok (ht : TabAt G T R M cap ex t) (id : Int) : Ccall tab 30 [.mp T 0, .int .i64 id] G = some (.bool (decide (kindS t id = 15 ∨ kindS t id = 16)), G) := by
 have hh := kind_ok ht.t0 ht.r0 id
 generalize kindS t id = k at *
 refine Ccall_over rfl rfl rfl rfl ?_
 clear ht
 by_cases h0 : k = 15
 ·subst h0
  repeat (any_goals first | simp (dsimp := false) (maxSteps := 4000000) (maxDischargeDepth := 8) (implicitDefEqProofs := false) [*, -Int.not_le, -Int.not_lt, amLt, f30c, f30r0, f30r1, f30r2] | with_reducible refine ch_both (fun _ => ?_) (fun _ => ?_) | with_reducible refine ite_both (fun _ => ?_) (fun _ => ?_) | intro _)
 ·repeat (any_goals first | simp (dsimp := false) (maxSteps := 4000000) (maxDischargeDepth := 8) (implicitDefEqProofs := false) [*, -Int.not_le, -Int.not_lt, amLt, f30c, f30r0, f30r1, f30r2] | with_reducible refine ch_both (fun _ => ?_) (fun _ => ?_) | with_reducible refine ite_both (fun _ => ?_) (fun _ => ?_) | intro _)
theorem r10_ok (ht : TabAt G T R M cap ex t) {n : Nat} {r : TR} (hn : t[n]? = some r) (X : List (List AV)) (c0 : Cap) (Y : Heap) (x7 x30 : AV) (hc : ∀ h, Ccall tab 32 [.is X c0] h = some (.is X .no, h)) :
  Brun tab 48 (.region true f12r10 [0, 1] 0) (ofL [(0, .mp T 0), (1, .int .i64 n), (2, .is X c0), (7, x7), (30, x30)]) (G ++ Y) =
   some (.normal, ofL [(0, .mp T 0), (1, .int .i64 n)], List.set G R (.cells ((cellsT t).set (n * 6 + 4) (.is X .no))) ++ Y) := by
 have ln := (List.getElem?_eq_some_iff.1 hn).1
 have hT := ht.t
 have hR := ht.r
 have hcl := cells_len t
 have hcn : n * 6 + 6 ≤ (cellsT t).length := by omega
 have lR := (List.getElem?_eq_some_iff.1 ht.r0).1
 have s1 : ∀ x b, (G ++ x).set R b = G.set R b ++ x := fun x b => by rw [List.set_append_left _ _ lR]
 have hlt : (n : Int) < t.length := by omega
 have h0 : (0 : Int) ≤ n := by omega
 have h4 : n * 6 + 4 + 1 ≤ (cellsT t).length := by omega
 have h4' : n * 6 + 5 ≤ (cellsT t).length := by omega
 have hset : ∀ x : AV, List.take (n * 6 + 4) (cellsT t) ++ x :: List.drop (n * 6 + 4 + 1) (cellsT t) = (cellsT t).set (n * 6 + 4) x := fun x => by rw [List.set_eq_take_append_cons_drop, if_pos (by omega)]
 generalize cellsT t = cs at *
 generalize t.length = nn at *
 clear ht hn hcl lR ln
 refine (f12r10_w ?_).trans ?_
 ·repeat (any_goals first | simp (dsimp := false) (maxSteps := 4000000) (maxDischargeDepth := 8) (implicitDefEqProofs := false) [*, -Int.not_le, -Int.not_lt, amLt, f12c, f12r0, f12r1, f12r2, f12r3, f12r4, f12r5, f12r6, f12r7, f12r8, f12r9, f32_p, f12q10, f12r11, f12r12, f12r10_u, f12r10_w] | with_reducible refine ch_both (fun _ => ?_) (fun _ => ?_) | with_reducible refine ite_both (fun _ => ?_) (fun _ => ?_) | intro _)
 ·repeat (any_goals first | simp (dsimp := false) (maxSteps := 4000000) (maxDischargeDepth := 8) (implicitDefEqProofs := false) [*, -Int.not_le, -Int.not_lt, amLt, f12c, f12r0, f12r1, f12r2, f12r3, f12r4, f12r5, f12r6, f12r7, f12r8, f12r9, f32_p, f12q10, f12r11, f12r12, f12r10_u, f12r10_w] | with_reducible refine ch_both (fun _ => ?_) (fun _ => ?_) | with_reducible refine ite_both (fun _ => ?_) (fun _ => ?_) | intro _)
theorem complete_ok (ht : TabAt G T R M cap ex t) {n : Nat} {r : TR} (hn : t[n]? = some r) (hk : r.kind = 15 ∨ r.kind = 16) (hd : r.done = false) (ms : List Mem) (c0 : Cap) (hll : ms.length ≤ 16777216) (hnm : ∀ m ∈ ms, m.1.length ≤ 1048576) (hn5 : n ≤ 512) :
  ∃ Y, (membersE (wholeS t) (kindS t) (hasS t) ms ≠ 0 → Ccall tab 12 [.mp T 0, .int .i64 n, .is (memRows ms) c0] G = some (.int .i64 (membersE (wholeS t) (kindS t) (hasS t) ms), G ++ Y)) ∧
   (membersE (wholeS t) (kindS t) (hasS t) ms = 0 → Ccall tab 12 [.mp T 0, .int .i64 n, .is (memRows ms) c0] G = some (.int .i64 0, List.set G R (.cells (cellsT (t.set n { r with mem := ms, done := true, cap := .no }))) ++ Y)) := by
 obtain ⟨Y, hm⟩ := members_ok ht ms c0 hll hnm
 have ha := alive_ok ht.t0
 have ln := (List.getElem?_eq_some_iff.1 hn).1
 have hh : hasS t (n : Int) = true := by
  unfold hasS getT
  rw [if_pos (by omega)]
  have e : t[((n : Nat) : Int).toNat]? = some r := hn
  rw [e]; rfl
 have hb := has_ok ht.t0 (n : Int)
 rw [hh] at hb
 have hrd := recd_ok ht (n : Int)
 have hkn : kindS t (n : Int) = r.kind := by
  unfold kindS getT
  rw [if_pos (by omega)]
  have e : t[((n : Nat) : Int).toNat]? = some r := hn
  rw [e]
 rw [hkn, show decide (r.kind = 15 ∨ r.kind = 16) = true by simpa using hk] at hrd
 have hT := ht.t
 have hR := ht.r
 have hT0 := ht.t0
 have hR0 := ht.r0
 have hcl := cells_len t
 have hcn : n * 6 + 6 ≤ (cellsT t).length := by omega
 have hrow := cells_row hn
 have hc := fun h => clone_ok h ms c0 hll
 have lR := (List.getElem?_eq_some_iff.1 ht.r0).1
 have s1 : ∀ x b, (G ++ x).set R b = G.set R b ++ x := fun x b => by rw [List.set_append_left _ _ lR]
 have hne := ht.ne
 have h5 := cells_at hn 5 (by omega)
 have h5' : (cellsT t)[n * 6 + 5]? = some (.bool false) := by rw [h5, ← hd]; rfl
 have h5'' : ∀ hh, (cellsT t)[n * 6 + 5]'hh = .bool false := fun hh => (List.getElem?_eq_some_iff.1 h5').2
 have hT1 : ∀ hh, G[T]'hh = .cells [.ms R 0 t.length 6 cap ex, .mm M] := fun hh => (List.getElem?_eq_some_iff.1 hT0).2
 have hR1 : ∀ hh, G[R]'hh = .cells (cellsT t) := fun hh => (List.getElem?_eq_some_iff.1 hR0).2
 have hlt : (n : Int) < t.length := by omega
 have h0 : (0 : Int) ≤ n := by omega
 refine ⟨Y, fun h => ?_, fun h => ?_⟩
 ·generalize membersE (wholeS t) (kindS t) (hasS t) ms = e at *
  generalize memRows ms = X at *
  generalize cellsT t = cs at *
  refine Ccall_over rfl rfl rfl rfl ?_
  clear ht hh hn hcl hrow h5 hk hkn lR
  repeat (any_goals first | simp (dsimp := false) (maxSteps := 4000000) (maxDischargeDepth := 8) (implicitDefEqProofs := false) [*, -Int.not_le, -Int.not_lt, amLt, f12c, f12r0, f12r1, f12r2, f12r3, f12r4, f12r5, f12r6, f12r7, f12r8, f12r9, f32_p, f12q10, f12r11, f12r12, f12r10_u, f12r10_w] | with_reducible refine ch_both (fun _ => ?_) (fun _ => ?_) | with_reducible refine ite_both (fun _ => ?_) (fun _ => ?_) | intro _)
 ·rw [h] at hm
  have h10 := r10_ok ht hn (memRows ms) c0 Y (.int .i64 0) (.bool false) hc
  have hfin := cells_told hn ms
  have hT4 : ∀ b x, (List.set G R b ++ x)[T]? = some (.cells [.ms R 0 t.length 6 cap ex, .mm M]) := fun b x => by
   rw [List.getElem?_append_left (by rw [List.length_set]; exact (List.getElem?_eq_some_iff.1 hT0).1), List.getElem?_set_ne (fun e => hne e.symm)]; exact hT0
  have hR4 : ∀ b x, (List.set G R b ++ x)[R]? = some b := fun b x => by
   rw [List.getElem?_append_left (by rw [List.length_set]; exact lR), List.getElem?_set, if_pos rfl, if_pos lR]
  have s4 : ∀ b x b', (List.set G R b ++ x).set R b' = List.set G R b' ++ x := fun b x b' => by
   rw [List.set_append_left _ _ (by rw [List.length_set]; exact lR), List.set_set]
  have hl4 : ((cellsT t).set (n * 6 + 4) (.is (memRows ms) .no)).length = (cellsT t).length := List.length_set ..
  have b5 : n * 6 + 5 + 1 ≤ ((cellsT t).set (n * 6 + 4) (.is (memRows ms) .no)).length := by rw [hl4]; omega
  have b5' : n * 6 + 6 ≤ ((cellsT t).set (n * 6 + 4) (.is (memRows ms) .no)).length := by rw [hl4]; omega
  have hset : List.take (n * 6 + 5) ((cellsT t).set (n * 6 + 4) (.is (memRows ms) .no)) ++ (.bool true) :: List.drop (n * 6 + 5 + 1) ((cellsT t).set (n * 6 + 4) (.is (memRows ms) .no)) = cellsT (t.set n { r with mem := ms, done := true, cap := .no }) := by
   rw [← hfin]
   conv => rhs; rw [List.set_eq_take_append_cons_drop, if_pos (by omega)]
  clear hfin hl4
  generalize (cellsT t).set (n * 6 + 4) (.is (memRows ms) .no) = cs4 at *
  generalize cellsT (t.set n { r with mem := ms, done := true, cap := .no }) = fin at *
  generalize memRows ms = X at *
  generalize cellsT t = cs at *
  refine Ccall_over rfl rfl rfl rfl ?_
  show banswer _ (Brun tab 48 f12c _ _) = _
  unfold f12c
  generalize ACode.region true f12r10 [0, 1] 0 = rg at *
  clear ht hh hn hcl hrow h5 hk hkn lR h
  repeat (any_goals first | simp (dsimp := false) (maxSteps := 4000000) (maxDischargeDepth := 8) (implicitDefEqProofs := false) [*, -Int.not_le, -Int.not_lt, amLt, f12c, f12r0, f12r1, f12r2, f12r3, f12r4, f12r5, f12r6, f12r7, f12r8, f12r9, f32_p, f12q10, f12r11, f12r12, f12r10_u, f12r10_w, app_get, app_get0, app_set, app_set0] | with_reducible refine ch_both (fun _ => ?_) (fun _ => ?_) | with_reducible refine ite_both (fun _ => ?_) (fun _ => ?_) | intro _)
end
theorem likeN_cons (a b : Mem) (r t : List Mem) : likeN (a :: r) (b :: t) = if a = b then likeN r t + 1 else 0 := rfl
theorem memrow_get {l : List Mem} {i : Nat} {m : Mem} (h : l[i]? = some m) : (memRows l)[i]? = some [.str m.1, .int .i64 m.2.1, .int .i64 m.2.2] := by
 unfold memRows
 rw [List.getElem?_map, h]
 rfl
theorem drop_cons {l : List Mem} {k : Nat} {m : Mem} (h : l[k]? = some m) : l.drop k = m :: l.drop (k + 1) := by
 obtain ⟨h1, h2⟩ := List.getElem?_eq_some_iff.1 h
 rw [List.drop_eq_getElem_cons h1, h2]
theorem like_loop (a b : List Mem) (ha : a.length ≤ 16777216) (ca cb : Cap) (x14 x16 : AV) (G : Heap) : ∀ (n k : Nat), k ≤ a.length → k ≤ b.length → likeN (a.drop k) (b.drop k) = n →
  Brun tab 133 (.loop f3l13) (ofL [(1, .is (memRows a) ca), (2, .is (memRows b) cb), (14, x14), (16, x16), (18, .int .i64 k)]) G =
   some (.exit 0, ofL [(1, .is (memRows a) ca), (2, .is (memRows b) cb), (14, x14), (16, x16), (18, .int .i64 ((k + n : Nat) : Int)), (99, .bool false)], G) := by
 have hla := memRows_len a
 have hlb := memRows_len b
 intro n
 induction n with
 | zero =>
  intro k h1 h2 hk
  rw [Brun_loop, f3l13_b]
  unfold f3m13
  rw [Nat.add_zero]
  by_cases c1 : k < a.length
  ·by_cases c2 : k < b.length
   ·have ga := List.getElem?_eq_getElem c1
    have gb := List.getElem?_eq_getElem c2
    rw [drop_cons ga, drop_cons gb, likeN_cons] at hk
    have hne : ¬ a[k] = b[k] := fun e => by rw [if_pos e] at hk; omega
    have ra := memrow_get ga
    have rb := memrow_get gb
    have ra2 : ∀ hh, (memRows a)[k]'hh = _ := fun hh => (List.getElem?_eq_some_iff.1 ra).2
    have rb2 : ∀ hh, (memRows b)[k]'hh = _ := fun hh => (List.getElem?_eq_some_iff.1 rb).2
    have q1 : (k : Int) < a.length := by omega
    have q2 : (k : Int) < b.length := by omega
    have hne2 : ¬ (a[k].1 = b[k].1 ∧ a[k].2.1 = b[k].2.1 ∧ a[k].2.2 = b[k].2.2) := fun e => hne (Prod.ext e.1 (Prod.ext e.2.1 e.2.2))
    have hne3 : (decide (a[k].1 = b[k].1) && (decide (a[k].2.1 = b[k].2.1) && decide (a[k].2.2 = b[k].2.2))) = false := by
     cases h : (decide (a[k].1 = b[k].1) && (decide (a[k].2.1 = b[k].2.1) && decide (a[k].2.2 = b[k].2.2))) with
     | false => rfl
     | true => simp only [Bool.and_eq_true, decide_eq_true_eq] at h; exact absurd h hne2
    generalize a[k] = p at *
    generalize b[k] = q at *
    obtain ⟨p1, p2, p3⟩ := p
    obtain ⟨u1, u2, u3⟩ := q
    dsimp only at hne2 hne3 ra rb ra2 rb2
    generalize memRows a = A at *
    generalize memRows b = B at *
    clear ha ga gb hk hne h1 h2 c1 c2
    refine (show _ = _ from ?_)
    repeat (any_goals first | simp (dsimp := false) (maxSteps := 4000000) (maxDischargeDepth := 8) (implicitDefEqProofs := false) [*, -Int.not_le, -Int.not_lt, amLt, f3c, f3r0, f3r1, f3r2, f3r3, f3r4, f3r5, f3r6, f3r7, f3r8, f3r9, f3m13, f3m16, f3q13, f3q17, f3r10, f3r11, f3r12, f3r14, f3r15, f3r16, f3r18, f3r19, f3r20, f3l13_b, f3l16_b, f3r13_u, f3r13_w, f3r17_u, f3r17_w] | with_reducible refine ch_both (fun _ => ?_) (fun _ => ?_) | with_reducible refine ite_both (fun _ => ?_) (fun _ => ?_) | intro _)
   ·have q1 : (k : Int) < a.length := by omega
    have q2 : ¬ (k : Int) < b.length := by omega
    have q3 : (b.length : Int) ≤ k := by omega
    generalize memRows a = A at *
    generalize memRows b = B at *
    clear ha hk h1 h2 c1 c2
    repeat (any_goals first | simp (dsimp := false) (maxSteps := 4000000) (maxDischargeDepth := 8) (implicitDefEqProofs := false) [*, -Int.not_le, -Int.not_lt, amLt, f3c, f3r0, f3r1, f3r2, f3r3, f3r4, f3r5, f3r6, f3r7, f3r8, f3r9, f3m13, f3m16, f3q13, f3q17, f3r10, f3r11, f3r12, f3r14, f3r15, f3r16, f3r18, f3r19, f3r20, f3l13_b, f3l16_b, f3r13_u, f3r13_w, f3r17_u, f3r17_w] | with_reducible refine ch_both (fun _ => ?_) (fun _ => ?_) | with_reducible refine ite_both (fun _ => ?_) (fun _ => ?_) | intro _)
  ·have q1 : ¬ (k : Int) < a.length := by omega
   have q3 : (a.length : Int) ≤ k := by omega
   generalize memRows a = A at *
   generalize memRows b = B at *
   clear ha hk h1 h2 c1
   repeat (any_goals first | simp (dsimp := false) (maxSteps := 4000000) (maxDischargeDepth := 8) (implicitDefEqProofs := false) [*, -Int.not_le, -Int.not_lt, amLt, f3c, f3r0, f3r1, f3r2, f3r3, f3r4, f3r5, f3r6, f3r7, f3r8, f3r9, f3m13, f3m16, f3q13, f3q17, f3r10, f3r11, f3r12, f3r14, f3r15, f3r16, f3r18, f3r19, f3r20, f3l13_b, f3l16_b, f3r13_u, f3r13_w, f3r17_u, f3r17_w] | with_reducible refine ch_both (fun _ => ?_) (fun _ => ?_) | with_reducible refine ite_both (fun _ => ?_) (fun _ => ?_) | intro _)
 | succ n ih =>
  intro k h1 h2 hk
  have c1 : k < a.length := by
   by_cases c : k < a.length
   ·exact c
   ·rw [List.drop_eq_nil_of_le (by omega)] at hk
    simp [likeN] at hk
  have c2 : k < b.length := by
   by_cases c : k < b.length
   ·exact c
   ·rw [show b.drop k = [] from List.drop_eq_nil_of_le (by omega)] at hk
    unfold likeN at hk
    split at hk <;> simp_all
  have ga := List.getElem?_eq_getElem c1
  have gb := List.getElem?_eq_getElem c2
  rw [drop_cons ga, drop_cons gb, likeN_cons] at hk
  have he : a[k] = b[k] := by
   by_cases e : a[k] = b[k]
   ·exact e
   ·rw [if_neg e] at hk; omega
  rw [if_pos he] at hk
  have ih2 := ih (k + 1) (by omega) (by omega) (by omega)
  have ra := memrow_get ga
  have rb := memrow_get gb
  rw [← he] at rb
  have ra2 : ∀ hh, (memRows a)[k]'hh = _ := fun hh => (List.getElem?_eq_some_iff.1 ra).2
  have rb2 : ∀ hh, (memRows b)[k]'hh = _ := fun hh => (List.getElem?_eq_some_iff.1 rb).2
  have q1 : (k : Int) < a.length := by omega
  have q2 : (k : Int) < b.length := by omega
  have hw : IntKind.i64.wrap ((k : Int) + 1) = (k : Int) + 1 := IntWalk.i64_in _ (by omega)
  push_cast at ih2 ⊢
  rw [show ((k : Int) + 1 + n) = k + (n + 1) by omega] at ih2
  rw [Brun_loop]
  generalize Brun tab 133 (.loop f3l13) = L at *
  rw [f3l13_b]
  unfold f3m13
  generalize a[k] = p at *
  obtain ⟨p1, p2, p3⟩ := p
  dsimp only at ra rb ra2 rb2
  generalize memRows a = A at *
  generalize memRows b = B at *
  clear ha ga gb hk h1 h2 c1 c2 he ih
  repeat (any_goals first | simp (dsimp := false) (maxSteps := 4000000) (maxDischargeDepth := 8) (implicitDefEqProofs := false) [*, -Int.not_le, -Int.not_lt, amLt, f3c, f3r0, f3r1, f3r2, f3r3, f3r4, f3r5, f3r6, f3r7, f3r8, f3r9, f3m13, f3m16, f3q13, f3q17, f3r10, f3r11, f3r12, f3r14, f3r15, f3r16, f3r18, f3r19, f3r20, f3l13_b, f3l16_b, f3r13_u, f3r13_w, f3r17_u, f3r17_w] | with_reducible refine ch_both (fun _ => ?_) (fun _ => ?_) | with_reducible refine ite_both (fun _ => ?_) (fun _ => ?_) | intro _)
theorem plrow_get {l : List PlT} {i : Nat} {p : PlT} (h : l[i]? = some p) : (plRows l)[i]? = some (plRow p) := by
 unfold plRows
 rw [List.getElem?_map, h]
 rfl
theorem plc_loop (l m : List PlT) (like : Nat) (hl : l.length ≤ 1000) (hcm : ∀ (i : Nat) (p : PlT), l[i]? = some p → p.mem < like → m[i]? = some p) (cl cm : Cap) (G : Heap) : ∀ (n k : Nat), k + n = l.length →
  ∃ E', Brun tab 133 (.loop f3l16) (ofL [(14, .is (plRows l) cl), (16, .is (plRows m) cm), (18, .int .i64 like), (19, .int .i64 k)]) G = some (.exit 2, ofL E', G) := by
 have hll : (plRows l).length = l.length := by unfold plRows; exact List.length_map ..
 have hlm : (plRows m).length = m.length := by unfold plRows; exact List.length_map ..
 intro n
 induction n with
 | zero =>
  intro k hk
  refine ⟨[(14, .is (plRows l) cl), (16, .is (plRows m) cm), (18, .int .i64 like), (19, .int .i64 k), (114, .bool false)], ?_⟩
  have q1 : ¬ (k : Int) < l.length := by omega
  have q2 : (l.length : Int) ≤ k := by omega
  rw [Brun_loop, f3l16_b]
  unfold f3m16
  generalize plRows l = A at *
  generalize plRows m = B at *
  clear hl hcm hk
  repeat (any_goals first | simp (dsimp := false) (maxSteps := 4000000) (maxDischargeDepth := 8) (implicitDefEqProofs := false) [*, -Int.not_le, -Int.not_lt, amLt, f3c, f3r0, f3r1, f3r2, f3r3, f3r4, f3r5, f3r6, f3r7, f3r8, f3r9, f3m13, f3m16, f3q13, f3q17, f3r10, f3r11, f3r12, f3r14, f3r15, f3r16, f3r18, f3r19, f3r20, f3l13_b, f3l16_b, f3r13_u, f3r13_w, f3r17_u, f3r17_w] | with_reducible refine ch_both (fun _ => ?_) (fun _ => ?_) | with_reducible refine ite_both (fun _ => ?_) (fun _ => ?_) | intro _)
 | succ n ih =>
  intro k hk
  have c1 : k < l.length := by omega
  have gl := List.getElem?_eq_getElem c1
  have q1 : (k : Int) < l.length := by omega
  have rl := plrow_get gl
  have rl2 : ∀ hh, (plRows l)[k]'hh = _ := fun hh => (List.getElem?_eq_some_iff.1 rl).2
  by_cases c : l[k].mem < like
  ·obtain ⟨E', ih2⟩ := ih (k + 1) (by omega)
   have gm := hcm k _ gl c
   have q2 : (k : Int) < m.length := by have := (List.getElem?_eq_some_iff.1 gm).1; omega
   have q3 : ¬ (m.length : Int) ≤ k := by omega
   have rm := plrow_get gm
   have rm2 : ∀ hh, (plRows m)[k]'hh = _ := fun hh => (List.getElem?_eq_some_iff.1 rm).2
   have hw : IntKind.i64.wrap ((k : Int) + 1) = (k : Int) + 1 := IntWalk.i64_in _ (by omega)
   refine ⟨E', ?_⟩
   push_cast at ih2
   rw [Brun_loop]
   generalize Brun tab 133 (.loop f3l16) = L at *
   rw [f3l16_b]
   unfold f3m16
   unfold plRow at rl rl2 rm rm2
   generalize l[k] = p at *
   generalize plRows l = A at *
   generalize plRows m = B at *
   clear hl hcm hk gl c1 gm ih
   repeat (any_goals first | simp (dsimp := false) (maxSteps := 4000000) (maxDischargeDepth := 8) (implicitDefEqProofs := false) [*, -Int.not_le, -Int.not_lt, amLt, f3c, f3r0, f3r1, f3r2, f3r3, f3r4, f3r5, f3r6, f3r7, f3r8, f3r9, f3m13, f3m16, f3q13, f3q17, f3r10, f3r11, f3r12, f3r14, f3r15, f3r16, f3r18, f3r19, f3r20, f3l13_b, f3l16_b, f3r13_u, f3r13_w, f3r17_u, f3r17_w] | with_reducible refine ch_both (fun _ => ?_) (fun _ => ?_) | with_reducible refine ite_both (fun _ => ?_) (fun _ => ?_) | intro _)
  ·refine ⟨[(14, .is (plRows l) cl), (16, .is (plRows m) cm), (18, .int .i64 like), (19, .int .i64 k), (114, .bool false)], ?_⟩
   rw [Brun_loop, f3l16_b]
   unfold f3m16
   unfold plRow at rl rl2
   generalize l[k] = p at *
   generalize plRows l = A at *
   generalize plRows m = B at *
   clear hl hcm hk gl c1 ih
   repeat (any_goals first | simp (dsimp := false) (maxSteps := 4000000) (maxDischargeDepth := 8) (implicitDefEqProofs := false) [*, -Int.not_le, -Int.not_lt, amLt, f3c, f3r0, f3r1, f3r2, f3r3, f3r4, f3r5, f3r6, f3r7, f3r8, f3r9, f3m13, f3m16, f3q13, f3q17, f3r10, f3r11, f3r12, f3r14, f3r15, f3r16, f3r18, f3r19, f3r20, f3l13_b, f3l16_b, f3r13_u, f3r13_w, f3r17_u, f3r17_w] | with_reducible refine ch_both (fun _ => ?_) (fun _ => ?_) | with_reducible refine ite_both (fun _ => ?_) (fun _ => ?_) | intro _)
theorem complete_tab {G : Heap} {T R M cap : Nat} {ex : Bool} {t t' : List TR} (ht : TabAt G T R M cap ex t) (hl : t'.length = t.length) (Y : Heap) : TabAt (List.set G R (.cells (cellsT t')) ++ Y) T R M cap ex t' := by
 have hne := ht.ne
 have lT := (List.getElem?_eq_some_iff.1 ht.t0).1
 have lR := (List.getElem?_eq_some_iff.1 ht.r0).1
 refine ⟨fun x => ?_, fun x => ?_⟩
 ·rw [List.append_assoc, List.getElem?_append_left (by simpa using lT), List.getElem?_set_ne (Ne.symm hne), hl]
  exact ht.t0
 ·rw [List.append_assoc, List.getElem?_append_left (by simpa using lR), List.getElem?_set, if_pos rfl, if_pos lR]
theorem membersE_len {w : Int → Bool} {k : Int → Int} {h : Int → Bool} {l : List Mem} (q : membersE w k h l = 0) : l.length ≤ 64 := by
 unfold membersE at q
 split at q
 ·cases q
 ·omega
theorem common_law (rows : List TR) (c0 ca cb : Cap) (first second : List Mem) (hcap : ∀ w ∈ rows, w.cap = .no) (hsz : ∀ w ∈ rows, w.tag.length ≤ 1048576 ∧ w.mem.length ≤ 16777216 ∧ ∀ m ∈ w.mem, m.1.length ≤ 1048576) (hlen : rows.length ≤ 16777216)
  (hla : first.length ≤ 1048576) (hlb : second.length ≤ 1048576) (hna : ∀ m ∈ first, m.1.length ≤ 1048576) (hnb : ∀ m ∈ second, m.1.length ≤ 1048576) (H : Heap) :
  ∃ G', Ccall tab 3 [.is (rows.map trow) c0, .is (memRows first) ca, .is (memRows second) cb] H = some (.bool true, G') := by
 obtain ⟨G, k1, hB⟩ := both_ok [] rows .no hcap hsz hlen
 have hh := heads_ok
 refine ⟨H, Ccall_own rfl rfl rfl rfl ?_⟩
 rcases hB with ⟨T, R, M, C, cap, es, ck, hat, hb⟩ | hb
 ·obtain ⟨rho0, F0, hx0, he, hl⟩ := tbl_of hcap (fun w hw => (hsz w hw).2.1) hat.acc
  have ht0 := hat.tab
  rw [← hl] at ht0
  generalize rows.map trow = X at *
  generalize tabOf rows = t0 at *
  have hlo := hx0.acc.lo
  have hhi := hx0.acc.hi
  have tgA : tagS [65] = true := by decide
  have tgB : tagS [66] = true := by decide
  by_cases c1 : 512 ≤ t0.length
  ·have s1 := tstruct_full ht0 [65] tgA (by decide) c1
   have s2 := tstruct_full ht0 [66] tgB (by decide) c1
   generalize memRows first = A at *
   generalize memRows second = B at *
   clear hcap hsz hlen k1 hat hx0 he hl ht0 c1 hlo hhi hna hnb hla hlb
   repeat (any_goals first | simp (dsimp := false) (maxSteps := 4000000) (maxDischargeDepth := 8) (implicitDefEqProofs := false) [*, -Int.not_le, -Int.not_lt, amLt, f3c, f3r0, f3r1, f3r2, f3r3, f3r4, f3r5, f3r6, f3r7, f3r8, f3r9, f3m13, f3m16, f3q13, f3q17, f3r10, f3r11, f3r12, f3r14, f3r15, f3r16, f3r18, f3r19, f3r20, f3l13_b, f3l16_b, f3r13_u, f3r13_w, f3r17_u, f3r17_w] | with_reducible refine ch_both (fun _ => ?_) (fun _ => ?_) | with_reducible refine ite_both (fun _ => ?_) (fun _ => ?_) | intro _)
  ·have s1 := tstruct_ok ht0 [65] tgA (by decide) (by omega)
   have ht1 := add_tab ht0 (recT 15 [65] [] false .no) (by omega)
   have acc1 := acc_add hx0.acc 15 (.inl rfl) [65] .no tgA (by omega)
   have sz1 : ∀ w ∈ t0 ++ [recT 15 [65] [] false .no], w.mem.length ≤ 16777216 := fun w hw => by
    rcases List.mem_append.1 hw with h | h
    ·exact hx0.sz w h
    ·simp only [List.mem_cons, List.not_mem_nil, or_false] at h; subst h; simp [recT]
   have ga1 : (t0 ++ [recT 15 [65] [] false .no])[t0.length]? = some (recT 15 [65] [] false .no) := by simp
   have ln1 : (t0 ++ [recT 15 [65] [] false .no]).length = t0.length + 1 := by simp
   generalize addH G T R M t0 (recT 15 [65] [] false .no) = G1 at *
   generalize G.length + 1 = R1 at *
   generalize t0 ++ [recT 15 [65] [] false .no] = t1 at *
   by_cases c2 : 512 ≤ t1.length
   ·have s2 := tstruct_full ht1 [66] tgB (by decide) c2
    generalize memRows first = A at *
    generalize memRows second = B at *
    clear hcap hsz hlen k1 hat hx0 he hl ht0 c1 hlo hhi hna hnb hla hlb ht1 acc1 sz1 ga1 ln1 c2
    repeat (any_goals first | simp (dsimp := false) (maxSteps := 4000000) (maxDischargeDepth := 8) (implicitDefEqProofs := false) [*, -Int.not_le, -Int.not_lt, amLt, f3c, f3r0, f3r1, f3r2, f3r3, f3r4, f3r5, f3r6, f3r7, f3r8, f3r9, f3m13, f3m16, f3q13, f3q17, f3r10, f3r11, f3r12, f3r14, f3r15, f3r16, f3r18, f3r19, f3r20, f3l13_b, f3l16_b, f3r13_u, f3r13_w, f3r17_u, f3r17_w] | with_reducible refine ch_both (fun _ => ?_) (fun _ => ?_) | with_reducible refine ite_both (fun _ => ?_) (fun _ => ?_) | intro _)
   ·have s2 := tstruct_ok ht1 [66] tgB (by decide) (by omega)
    have ht2 := add_tab ht1 (recT 15 [66] [] false .no) (by omega)
    have acc2 := acc_add acc1 15 (.inl rfl) [66] .no tgB (by omega)
    have sz2 : ∀ w ∈ t1 ++ [recT 15 [66] [] false .no], w.mem.length ≤ 16777216 := fun w hw => by
     rcases List.mem_append.1 hw with h | h
     ·exact sz1 w h
     ·simp only [List.mem_cons, List.not_mem_nil, or_false] at h; subst h; simp [recT]
    have ga2 : (t1 ++ [recT 15 [66] [] false .no])[t0.length]? = some (recT 15 [65] [] false .no) := by
     rw [List.getElem?_append_left (by omega)]; exact ga1
    have gb2 : (t1 ++ [recT 15 [66] [] false .no])[t1.length]? = some (recT 15 [66] [] false .no) := by simp
    have ln2 : (t1 ++ [recT 15 [66] [] false .no]).length = t1.length + 1 := by simp
    generalize addH G1 T R1 M t1 (recT 15 [66] [] false .no) = G2 at *
    generalize G1.length + 1 = R2 at *
    generalize t1 ++ [recT 15 [66] [] false .no] = t2 at *
    obtain ⟨Y3, n3, y3⟩ := complete_ok ht2 ga2 (.inl rfl) rfl first .no (by omega) hna (by omega)
    have nab : t0.length ≠ t1.length := by omega
    by_cases c3 : membersE (wholeS t2) (kindS t2) (hasS t2) first = 0
    ·replace y3 := y3 c3
     have acc3 := acc_done acc2 t0.length ga2 (.inl rfl) rfl first .no c3
     have l64a := membersE_len c3
     have ht3 := complete_tab (t' := t2.set t0.length { (recT 15 [65] [] false .no) with mem := first, done := true, cap := .no }) ht2 (List.length_set ..) Y3
     have sz3 : ∀ w ∈ t2.set t0.length { (recT 15 [65] [] false .no) with mem := first, done := true, cap := .no }, w.mem.length ≤ 16777216 := fun w hw => by
      rcases List.mem_or_eq_of_mem_set hw with h | h
      ·exact sz2 w h
      ·subst h; show first.length ≤ _; omega
     have ga3 : (t2.set t0.length { (recT 15 [65] [] false .no) with mem := first, done := true, cap := .no })[t0.length]? = some { (recT 15 [65] [] false .no) with mem := first, done := true, cap := .no } := by
      rw [List.getElem?_set, if_pos rfl, if_pos (by omega)]
     have gb3 : (t2.set t0.length { (recT 15 [65] [] false .no) with mem := first, done := true, cap := .no })[t1.length]? = some (recT 15 [66] [] false .no) := by
      rw [List.getElem?_set_ne nab]; exact gb2
     have ln3 : (t2.set t0.length { (recT 15 [65] [] false .no) with mem := first, done := true, cap := .no }).length = t2.length := List.length_set ..
     rw [← ln3] at ht3
     clear n3
     generalize t2.set t0.length { (recT 15 [65] [] false .no) with mem := first, done := true, cap := .no } = t3 at *
     generalize List.set G2 R2 (.cells (cellsT t3)) ++ Y3 = G3 at *
     obtain ⟨Y4, n4, y4⟩ := complete_ok ht3 gb3 (.inl rfl) rfl second .no (by omega) hnb (by omega)
     by_cases c4 : membersE (wholeS t3) (kindS t3) (hasS t3) second = 0
     ·replace y4 := y4 c4
      have acc4 := acc_done acc3 t1.length gb3 (.inl rfl) rfl second .no c4
      have l64b := membersE_len c4
      have ht4 := complete_tab (t' := t3.set t1.length { (recT 15 [66] [] false .no) with mem := second, done := true, cap := .no }) ht3 (List.length_set ..) Y4
      have sz4 : ∀ w ∈ t3.set t1.length { (recT 15 [66] [] false .no) with mem := second, done := true, cap := .no }, w.mem.length ≤ 16777216 := fun w hw => by
       rcases List.mem_or_eq_of_mem_set hw with h | h
       ·exact sz3 w h
       ·subst h; show second.length ≤ _; omega
      have gb4 : (t3.set t1.length { (recT 15 [66] [] false .no) with mem := second, done := true, cap := .no })[t1.length]? = some { (recT 15 [66] [] false .no) with mem := second, done := true, cap := .no } := by
       rw [List.getElem?_set, if_pos rfl, if_pos (by omega)]
      have ga4 : (t3.set t1.length { (recT 15 [66] [] false .no) with mem := second, done := true, cap := .no })[t0.length]? = some { (recT 15 [65] [] false .no) with mem := first, done := true, cap := .no } := by
       rw [List.getElem?_set_ne (Ne.symm nab)]; exact ga3
      have ln4 : (t3.set t1.length { (recT 15 [66] [] false .no) with mem := second, done := true, cap := .no }).length = t3.length := List.length_set ..
      rw [← ln4] at ht4
      clear n4
      generalize t3.set t1.length { (recT 15 [66] [] false .no) with mem := second, done := true, cap := .no } = t4 at *
      generalize List.set G3 R2 (.cells (cellsT t4)) ++ Y4 = G4 at *
      obtain ⟨rho, hr⟩ := acc4.rank
      obtain ⟨F, hF⟩ := rho_max rho t4.length
      have hx : Tbl t4 rho F := ⟨acc4, hr, hF, sz4⟩
      have gta : getT t4 (t0.length : Int) = some { (recT 15 [65] [] false .no) with mem := first, done := true, cap := .no } := by
       unfold getT; rw [if_pos (by omega)]; exact ga4
      have gtb : getT t4 (t1.length : Int) = some { (recT 15 [66] [] false .no) with mem := second, done := true, cap := .no } := by
       unfold getT; rw [if_pos (by omega)]; exact gb4
      obtain ⟨Y5, p5, p6⟩ := places_ok hx G4 ht4 (t0.length : Int)
      obtain ⟨Y6, q5, q6⟩ := places_ok hx (G4 ++ Y5) (ht4.app _) (t1.length : Int)
      have clr : True := trivial
      by_cases c5 : plaE t4 F (t0.length : Int) = 0
      ·obtain ⟨cp1, p6⟩ := p6 c5
       by_cases c6 : plaE t4 F (t1.length : Int) = 0
       ·obtain ⟨cp2, q6⟩ := q6 c6
        have big : ∀ id, plaE t4 F id = 0 → bigF t4 F id = false := fun id h => by
         unfold plaE at h
         by_cases b0 : begE t4 F id = 0
         ·exact (beg_has b0).2.2
         ·rw [if_neg b0] at h; exact absurd h b0
        have la := lay_rec acc4 hr hF gta (.inl rfl) rfl (big _ c5)
        have lb := lay_rec acc4 hr hF gtb (.inl rfl) rfl (big _ c6)
        have ea : (layF t4 F (t0.length : Int)).pl = (structL (layF t4 F) first).pl := by rw [la.1]; rfl
        have eb : (layF t4 F (t1.length : Int)).pl = (structL (layF t4 F) second).pl := by rw [lb.1]; rfl
        rw [ea] at p6
        rw [eb] at q6
        have hcm := fun i p h1 h2 => common_pl (layF t4 F) first second i p h1 h2
        have hl1 : (structL (layF t4 F) first).pl.length ≤ 1000 := by
         have := foldS_len (layF t4 F) first 0 ⟨0, 1, []⟩
         show (foldS (layF t4 F) 0 first ⟨0, 1, []⟩).pl.length ≤ 1000
         have e : ([] : List PlT).length = 0 := rfl
         simp only [e] at this
         omega
        have lp1 := like_loop first second (by omega) .no .no (.is (plRows (structL (layF t4 F) first).pl) cp1) (.is (plRows (structL (layF t4 F) second).pl) cp2) (G4 ++ Y5 ++ Y6) (likeN first second) 0 (by omega) (by omega) rfl
        obtain ⟨E', lp2⟩ := plc_loop (structL (layF t4 F) first).pl (structL (layF t4 F) second).pl (likeN first second) hl1 hcm cp1 cp2 (G4 ++ Y5 ++ Y6) (structL (layF t4 F) first).pl.length 0 (by omega)
        simp only [Nat.zero_add, Int.natCast_zero, List.append_assoc] at lp1 lp2
        generalize plRows (structL (layF t4 F) first).pl = P1 at *
        generalize plRows (structL (layF t4 F) second).pl = P2 at *
        generalize likeN first second = like at *
        generalize memRows first = A at *
        generalize memRows second = B at *
        clear hcap hsz hlen k1 hat hx0 he hl ht0 c1 hlo hhi hna hnb hla hlb ht1 acc1 sz1 ga1 ln1 c2 ht2 acc2 sz2 ga2 gb2 ln2 nab c3 acc3 l64a ht3 sz3 ga3 gb3 ln3 c4 acc4 l64b ht4 sz4 gb4 ga4 ln4 hr hF hx gta gtb p5 q5 c5 c6 big la lb ea eb hcm hl1 tgA tgB
        repeat (any_goals first | simp (dsimp := false) (maxSteps := 4000000) (maxDischargeDepth := 8) (implicitDefEqProofs := false) [*, -Int.not_le, -Int.not_lt, amLt, f3c, f3r0, f3r1, f3r2, f3r3, f3r4, f3r5, f3r6, f3r7, f3r8, f3r9, f3m13, f3m16, f3q13, f3q17, f3r10, f3r11, f3r12, f3r14, f3r15, f3r16, f3r18, f3r19, f3r20, f3l13_b, f3l16_b, f3r13_u, f3r13_w, f3r17_u, f3r17_w] | with_reducible refine ch_both (fun _ => ?_) (fun _ => ?_) | with_reducible refine ite_both (fun _ => ?_) (fun _ => ?_) | intro _)
       ·replace q5 := q5 c6
        generalize plaE t4 F (t1.length : Int) = e at *
        generalize memRows first = A at *
        generalize memRows second = B at *
        clear hcap hsz hlen k1 hat hx0 he hl ht0 c1 hlo hhi hna hnb hla hlb ht1 acc1 sz1 ga1 ln1 c2 ht2 acc2 sz2 ga2 gb2 ln2 nab c3 acc3 l64a ht3 sz3 ga3 gb3 ln3 c4 acc4 l64b ht4 sz4 gb4 ga4 ln4 hr hF hx gta gtb p5 q6 c5 tgA tgB
        repeat (any_goals first | simp (dsimp := false) (maxSteps := 4000000) (maxDischargeDepth := 8) (implicitDefEqProofs := false) [*, -Int.not_le, -Int.not_lt, amLt, f3c, f3r0, f3r1, f3r2, f3r3, f3r4, f3r5, f3r6, f3r7, f3r8, f3r9, f3m13, f3m16, f3q13, f3q17, f3r10, f3r11, f3r12, f3r14, f3r15, f3r16, f3r18, f3r19, f3r20, f3l13_b, f3l16_b, f3r13_u, f3r13_w, f3r17_u, f3r17_w] | with_reducible refine ch_both (fun _ => ?_) (fun _ => ?_) | with_reducible refine ite_both (fun _ => ?_) (fun _ => ?_) | intro _)
      ·replace p5 := p5 c5
       have q7 : ∃ v e, Ccall tab 13 [.mp T 0, .int .i64 t1.length] (G4 ++ Y5) = some (.tup [v, .int .i64 e], G4 ++ Y5 ++ Y6) := by
        by_cases c6 : plaE t4 F (t1.length : Int) = 0
        ·obtain ⟨cp2, q6⟩ := q6 c6; exact ⟨_, _, q6⟩
        ·exact ⟨_, _, q5 c6⟩
       obtain ⟨v7, e7, q7⟩ := q7
       generalize plaE t4 F (t0.length : Int) = e at *
       generalize memRows first = A at *
       generalize memRows second = B at *
       clear hcap hsz hlen k1 hat hx0 he hl ht0 c1 hlo hhi hna hnb hla hlb ht1 acc1 sz1 ga1 ln1 c2 ht2 acc2 sz2 ga2 gb2 ln2 nab c3 acc3 l64a ht3 sz3 ga3 gb3 ln3 c4 acc4 l64b ht4 sz4 gb4 ga4 ln4 hr hF hx gta gtb p6 q5 q6 tgA tgB
       repeat (any_goals first | simp (dsimp := false) (maxSteps := 4000000) (maxDischargeDepth := 8) (implicitDefEqProofs := false) [*, -Int.not_le, -Int.not_lt, amLt, f3c, f3r0, f3r1, f3r2, f3r3, f3r4, f3r5, f3r6, f3r7, f3r8, f3r9, f3m13, f3m16, f3q13, f3q17, f3r10, f3r11, f3r12, f3r14, f3r15, f3r16, f3r18, f3r19, f3r20, f3l13_b, f3l16_b, f3r13_u, f3r13_w, f3r17_u, f3r17_w] | with_reducible refine ch_both (fun _ => ?_) (fun _ => ?_) | with_reducible refine ite_both (fun _ => ?_) (fun _ => ?_) | intro _)
     ·replace n4 := n4 c4
      generalize membersE (wholeS t3) (kindS t3) (hasS t3) second = e at *
      generalize memRows first = A at *
      generalize memRows second = B at *
      clear hcap hsz hlen k1 hat hx0 he hl ht0 c1 hlo hhi hna hnb hla hlb ht1 acc1 sz1 ga1 ln1 c2 ht2 acc2 sz2 ga2 gb2 ln2 nab c3 acc3 l64a ht3 sz3 ga3 gb3 ln3 y4 tgA tgB
      repeat (any_goals first | simp (dsimp := false) (maxSteps := 4000000) (maxDischargeDepth := 8) (implicitDefEqProofs := false) [*, -Int.not_le, -Int.not_lt, amLt, f3c, f3r0, f3r1, f3r2, f3r3, f3r4, f3r5, f3r6, f3r7, f3r8, f3r9, f3m13, f3m16, f3q13, f3q17, f3r10, f3r11, f3r12, f3r14, f3r15, f3r16, f3r18, f3r19, f3r20, f3l13_b, f3l16_b, f3r13_u, f3r13_w, f3r17_u, f3r17_w] | with_reducible refine ch_both (fun _ => ?_) (fun _ => ?_) | with_reducible refine ite_both (fun _ => ?_) (fun _ => ?_) | intro _)
    ·replace n3 := n3 c3
     generalize membersE (wholeS t2) (kindS t2) (hasS t2) first = e at *
     generalize memRows first = A at *
     generalize memRows second = B at *
     clear hcap hsz hlen k1 hat hx0 he hl ht0 c1 hlo hhi hna hnb hla hlb ht1 acc1 sz1 ga1 ln1 c2 ht2 acc2 sz2 ga2 gb2 ln2 nab y3 tgA tgB
     repeat (any_goals first | simp (dsimp := false) (maxSteps := 4000000) (maxDischargeDepth := 8) (implicitDefEqProofs := false) [*, -Int.not_le, -Int.not_lt, amLt, f3c, f3r0, f3r1, f3r2, f3r3, f3r4, f3r5, f3r6, f3r7, f3r8, f3r9, f3m13, f3m16, f3q13, f3q17, f3r10, f3r11, f3r12, f3r14, f3r15, f3r16, f3r18, f3r19, f3r20, f3l13_b, f3l16_b, f3r13_u, f3r13_w, f3r17_u, f3r17_w] | with_reducible refine ch_both (fun _ => ?_) (fun _ => ?_) | with_reducible refine ite_both (fun _ => ?_) (fun _ => ?_) | intro _)
 ·generalize rows.map trow = X at *
  generalize memRows first = A at *
  generalize memRows second = B at *
  clear hcap hsz hlen k1 hna hnb hla hlb
  repeat (any_goals first | simp (dsimp := false) (maxSteps := 4000000) (maxDischargeDepth := 8) (implicitDefEqProofs := false) [*, -Int.not_le, -Int.not_lt, amLt, f3c, f3r0, f3r1, f3r2, f3r3, f3r4, f3r5, f3r6, f3r7, f3r8, f3r9, f3m13, f3m16, f3q13, f3q17, f3r10, f3r11, f3r12, f3r14, f3r15, f3r16, f3r18, f3r19, f3r20, f3l13_b, f3l16_b, f3r13_u, f3r13_w, f3r17_u, f3r17_w] | with_reducible refine ch_both (fun _ => ?_) (fun _ => ?_) | with_reducible refine ite_both (fun _ => ?_) (fun _ => ?_) | intro _)
theorem common_args : ∀ xs, ArgsL 1048576 f3s xs → ∃ h', Ccall tab 3 xs [] = some (.bool true, h') := by
 intro xs hxs
 obtain ⟨x, _, rfl, h1, y, _, rfl, h2, z, _, rfl, h3, rfl⟩ := hxs
 obtain ⟨rows, rfl, hl, hw⟩ := arg_rows h1
 obtain ⟨a, rfl, la, na⟩ := arg_mems h2
 obtain ⟨b, rfl, lb, nb⟩ := arg_mems h3
 obtain ⟨g1, g2⟩ := trok_sz hw
 exact common_law rows .no .no .no a b g1 g2 (by omega) la lb na nb []
end Go.Proofs.YtfhijkapcdmdnaaDoor
