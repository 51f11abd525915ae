/- An array is its elements, one behind the other. -/
import Derived.Test.YtfhijkapcdmdnaaDoorZd
import Derived.Test.YtfhijkapcdmdnaaDoorHd
import Derived.Test.YtfhijkapcdmdnaaDoorAmW
namespace Go.Proofs.YtfhijkapcdmdnaaDoor
open Go.AM
set_option maxRecDepth 20000
set_option maxHeartbeats 4000000
set_option linter.unusedSimpArgs false
set_option linter.unusedVariables false
attribute [local congr] andF_cg onF_cg bthen_cg bkeep_cg bcond_cg guardV_cg putF_cg guardF_cg ite_cg stepsF_cg
attribute [local simp] Brun_skip Brun_exit Brun_ret Brun_seq Brun_cond Brun_block Brun_region bthen_normal bthen_ret bthen_exit bblock_normal bblock_ret bblock_exit bkeep_some andF_some onF_some onF_none guardF_none guardF_some guardV_tup putF_some putF_none stepsF_nil stepsF_cons upd_apply ofL_cons ofL_nil bown_normal bown_ret banswer_normal banswer_ret aresults ares List.replicate stepF_call stepF_callD stepF_move stepF_pick stepF_alloc stepF_allocV stepF_box stepF_boxV stepF_build stepF_buildSlice stepF_buildSliceV stepF_load stepF_store stepF_nilCheck stepF_bin stepF_eq stepF_un stepF_conv stepF_strId strIdV_str strIdV_int stepF_toStr stepF_toBytes stepF_fn stepF_mkSlice stepF_slice stepF_strSlice stepF_fieldAddr stepF_field stepF_idxAddr stepF_idxArr stepF_index stepF_strIndex stepF_extract stepF_len0 stepF_len1 stepF_min stepF_max stepF_append stepF_appendF appF_none appF_row stepF_mkMap stepF_mkIface stepF_lookup stepF_mapUpdate stepF_ext aext_idx aext_count aext_same cellsF newF abin_add abin_sub abin_mul abin_quo abin_rem abin_eql abin_neq abin_lss abin_leq abin_gtr abin_geq abin_and abin_or abin_xor abin_shl abin_shr abin_seql abin_sneq aun_not aun_neg aeq_bool aeq_agg eqCells_nil eqCells_int eqCells_bool eqCells_str cellsOf_agg cellsOf_int cellsOf_bool cellsOf_str cellsOf_is cellsOf_ms cellsOf_fn cellsOf_nilp cellsOf_mp cellsOf_mm cellsOf_nilm cellsOf_nili cellsOf_ifc cellsOf_ip cget_one cget_agg ev_t ev_c fillp_nil fillp_cons isSc_int isSc_bool isSc_str isSc_is isSc_ms isSc_fn isSc_mm isSc_mp isSc_ip isSc_nilp isSc_nilm isSc_nili isSc_nilf isSc_ifc splice chunk strip strip.stripL imm imm.immL Areify_int Areify_bool Areify_str Areify_is Areify_nilp Areify_tup Areify_agg AreifyL andF_chi andF_ch onF_chi onF_ch bthen_ch bthen_chi bblock_ch bblock_chi bkeep_ch bkeep_chi bown_ch bown_chi banswer_ch banswer_chi isSome_ch bcond_ch guardV_ch1 guardV_ch0 chF_true chF_false chF_not
attribute [local simp ↓] andF_some andF_chi andF_ch onF_some onF_none onF_chi onF_ch bthen_normal bthen_ret bthen_exit bthen_ch bthen_chi bblock_normal bblock_ret bblock_exit bblock_ch bblock_chi bkeep_some bkeep_ch bkeep_chi bown_normal bown_ret bown_ch bown_chi banswer_normal banswer_ret banswer_ch banswer_chi bcond_ch guardV_ch1 guardV_ch0 guardV_tup guardF_none guardF_some putF_some putF_none stepsF_nil stepsF_cons chF_true chF_false Brun_seq Brun_cond Brun_block Brun_region Brun_skip Brun_ret Brun_exit stepF_call stepF_callD stepF_move stepF_pick stepF_alloc stepF_allocV stepF_box stepF_boxV stepF_build stepF_buildSlice stepF_buildSliceV stepF_load stepF_store stepF_nilCheck stepF_bin stepF_eq stepF_un stepF_conv stepF_strId stepF_toStr stepF_toBytes stepF_fn stepF_mkSlice stepF_slice stepF_strSlice stepF_fieldAddr stepF_field stepF_idxAddr stepF_idxArr stepF_index stepF_strIndex stepF_extract stepF_len0 stepF_len1 stepF_min stepF_max stepF_append stepF_appendF stepF_mkMap stepF_mkIface stepF_lookup stepF_mapUpdate stepF_ext
set_option maxHeartbeats 4000000
section
variable {t : List TR} {rho : Nat → Nat} {F T R M : Nat}
structure RecOK (t : List TR) (F : Nat) (id : Int) (r : TR) : Prop where
 al : (layF t F id).align = 1 ∨ (layF t F id).align = 2 ∨ (layF t F id).align = 4
 lo : 1 ≤ (layF t F id).size
 hi : (layF t F id).size ≤ 16384
 md : (layF t F id).size % (layF t F id).align = 0
 pl : ∀ p ∈ (layF t F id).pl, PlOK (layF t F) r.mem (8 * (layF t F id).size) (layF t F id).align p ∧ begE t F p.ty = 0
 ap : r.kind = 15 → (layF t F id).pl.Pairwise fun a b => hiP (layF t F) a ≤ loP b
 un : r.kind = 16 → ∀ p ∈ (layF t F id).pl, p.off = 0 ∧ p.bit = 0
 ml : r.mem.length ≤ 64
 nl : (layF t F id).pl.length ≤ r.mem.length
end
theorem basicR_erase (i : Nat) (r : TR) : basicR i (eraseT r) = basicR i r := rfl
theorem shapedR_erase (i : Nat) (r : TR) : shapedR i (eraseT r) = shapedR i r := rfl
theorem twice_erase (t : List TR) (i : Nat) (r : TR) : twiceS (t.map eraseT) i (eraseT r) = twiceS t i r := by
 unfold twiceS
 rw [← List.map_take, List.any_map]
 rfl
theorem acc_erase {t : List TR} (h : AccP (t.map eraseT)) : AccP t := by
 have hl : (t.map eraseT).length = t.length := List.length_map ..
 have get : ∀ (i : Nat) (r : TR), t[i]? = some r → (t.map eraseT)[i]? = some (eraseT r) := fun i r hi => by rw [List.getElem?_map, hi]; rfl
 have mem : ∀ r ∈ t, eraseT r ∈ t.map eraseT := fun r hr => List.mem_map.2 ⟨r, hr, rfl⟩
 refine ⟨by rw [← hl]; exact h.lo, by rw [← hl]; exact h.hi, fun i r hi hlt => ?_, fun i r hi hge => ?_, fun r hr hk => ?_, fun r hr hd => ?_, ?_⟩
 ·rw [← basicR_erase]; exact h.basic i _ (get i r hi) hlt
 ·rw [← shapedR_erase, ← twice_erase]; exact h.row i _ (get i r hi) hge
 ·have := h.whole _ (mem r hr) hk
  rw [whole_erase] at this; exact this
 ·have := h.mems _ (mem r hr) hd
  rw [whole_erase, kind_erase, has_erase] at this; exact this
 ·obtain ⟨rho, hr⟩ := h.rank
  refine ⟨rho, fun i w hi d hd => ?_⟩
  have := hr i _ (get i w hi) d hd
  rw [hl] at this; exact this
theorem rho_bound (rho : Nat → Nat) : ∀ n, ∃ F, ∀ i, i < n → rho i < F := by
 intro n
 induction n with
 | zero => exact ⟨0, fun i h => by omega⟩
 | succ n ih =>
  obtain ⟨F, hF⟩ := ih
  refine ⟨max F (rho n + 1), fun i hi => ?_⟩
  by_cases e : i = n
  ·subst e; omega
  ·have := hF i (by omega); omega
theorem tbl_of {rows : List TR} (hcap : ∀ w ∈ rows, w.cap = .no) (hsz : ∀ w ∈ rows, w.mem.length ≤ 16777216) (ha : AccR rows) : ∃ rho F, Tbl (tabOf rows) rho F ∧ (tabOf rows).map eraseT = rows ∧ (tabOf rows).length = rows.length := by
 have hp := acc_imp ha
 have he := tab_erase hcap hp
 have hacc : AccP (tabOf rows) := acc_erase (by rw [he]; exact hp)
 obtain ⟨rho, hr⟩ := hacc.rank
 obtain ⟨F, hF⟩ := rho_bound rho (tabOf rows).length
 refine ⟨rho, F, ⟨hacc, hr, hF, fun w hw => ?_⟩, he, tab_len hcap hp⟩
 have : eraseT w ∈ rows := by rw [← he]; exact List.mem_map.2 ⟨w, hw, rfl⟩
 show (eraseT w).mem.length ≤ 16777216
 exact hsz _ this
theorem mems_of (B : Nat) : ∀ (l : List (List AV)), (∀ r ∈ l, ∃ nm ty bits, r = [.str nm, .int .i64 ty, .int .i64 bits] ∧ nm.length ≤ B) → ∃ ms : List Mem, l = memRows ms ∧ ∀ m ∈ ms, m.1.length ≤ B := by
 intro l
 induction l with
 | nil => intro _; exact ⟨[], rfl, fun m hm => by cases hm⟩
 | cons r t ih =>
  intro h
  obtain ⟨nm, ty, bits, rfl, hn⟩ := h r List.mem_cons_self
  obtain ⟨ms, rfl, hm⟩ := ih fun q hq => h q (List.mem_cons_of_mem _ hq)
  exact ⟨(nm, ty, bits) :: ms, rfl, fun m hq => by
   rcases List.mem_cons.1 hq with rfl | hq
   ·exact hn
   ·exact hm m hq⟩
def TRok (B : Nat) (w : TR) : Prop := w.cap = .no ∧ w.tag.length ≤ B ∧ w.mem.length ≤ B ∧ ∀ m ∈ w.mem, m.1.length ≤ B
theorem rows_of (B : Nat) : ∀ (l : List (List AV)), (∀ r ∈ l, ∃ (k e n : Int) (tg : List UInt8) (ms : List (List AV)) (b : Bool), r = [.int .i64 k, .int .i64 e, .int .i64 n, .str tg, .is ms .no, .bool b] ∧ tg.length ≤ B ∧ ms.length ≤ B ∧ ∀ q ∈ ms, ∃ nm ty bits, q = [.str nm, .int .i64 ty, .int .i64 bits] ∧ nm.length ≤ B) →
  ∃ rows : List TR, l = rows.map trow ∧ ∀ w ∈ rows, TRok B w := by
 intro l
 induction l with
 | nil => intro _; exact ⟨[], rfl, fun m hm => by cases hm⟩
 | cons r t ih =>
  intro h
  obtain ⟨k, e, n, tg, ms, b, rfl, h1, h2, h3⟩ := h r List.mem_cons_self
  obtain ⟨rows, rfl, hr⟩ := ih fun q hq => h q (List.mem_cons_of_mem _ hq)
  obtain ⟨l, rfl, hl⟩ := mems_of B ms h3
  rw [memRows_len] at h2
  exact ⟨⟨k, e, n, tg, l, b, .no⟩ :: rows, rfl, fun w hq => by
   rcases List.mem_cons.1 hq with rfl | hq
   ·exact ⟨rfl, h1, h2, hl⟩
   ·exact hr w hq⟩
abbrev rowSh : Sh := .st [(.int .i64), (.int .i64), (.int .i64), .str, (.sl (.st [.str, (.int .i64), (.int .i64)])), .bool]
theorem arg_rows {B : Nat} {x : AV} (h : (Sh.sl rowSh).Arg B x) : ∃ rows : List TR, x = .is (rows.map trow) .no ∧ rows.length ≤ B ∧ ∀ w ∈ rows, TRok B w := by
 simp only [Sh.Arg, Sh.Row, RowL] at h
 obtain ⟨l, hx, hl, hr⟩ := h
 simp only [List.cons.injEq, and_true] at hx
 subst hx
 obtain ⟨rows, rfl, hw⟩ := rows_of B l fun q hq => by
  obtain ⟨_, _, rfl, ⟨k, _, rfl⟩, _, _, rfl, ⟨e, _, rfl⟩, _, _, rfl, ⟨n, _, rfl⟩, _, _, rfl, ⟨tg, ht, rfl⟩, _, _, rfl, ⟨ms, rfl, hml, hmr⟩, _, _, rfl, ⟨b, rfl⟩, rfl⟩ := hr q hq
  refine ⟨k, e, n, tg, ms, b, rfl, ht, hml, fun z hz => ?_⟩
  obtain ⟨_, _, rfl, ⟨nm, hn, rfl⟩, _, _, rfl, ⟨ty, _, rfl⟩, _, _, rfl, ⟨bits, _, rfl⟩, rfl⟩ := hmr z hz
  exact ⟨nm, ty, bits, rfl, hn⟩
 rw [List.length_map] at hl
 exact ⟨rows, rfl, hl, hw⟩
theorem arg_int {B : Nat} {x : AV} (h : (Sh.int .i64).Arg B x) : ∃ n : Int, x = .int .i64 n ∧ (Lit.int .i64 n).wf = true := by
 simp only [Sh.Arg, Sh.Row] at h
 obtain ⟨n, hn, hx⟩ := h
 simp only [List.cons.injEq, and_true] at hx
 exact ⟨n, hx, hn⟩
theorem trok_sz {rows : List TR} (h : ∀ w ∈ rows, TRok 1048576 w) : (∀ w ∈ rows, w.cap = .no) ∧ ∀ w ∈ rows, w.tag.length ≤ 1048576 ∧ w.mem.length ≤ 16777216 ∧ ∀ m ∈ w.mem, m.1.length ≤ 1048576 :=
 ⟨fun w hw => (h w hw).1, fun w hw => ⟨(h w hw).2.1, by have := (h w hw).2.2.1; omega, (h w hw).2.2.2⟩⟩
def likeN : List Mem → List Mem → Nat
 | a :: r, b :: t => if a = b then likeN r t + 1 else 0
 | _, _ => 0
theorem wholeS_le {t t' : List TR} (h : ∀ (i : Nat) x, t[i]? = some x → ∃ y, t'[i]? = some y ∧ (wholeR x = true → wholeR y = true)) : ∀ id, wholeS t id = true → wholeS t' id = true := by
 intro id hw
 unfold wholeS at hw ⊢
 cases hg : getT t id with
 | none => rw [hg] at hw; cases hw
 | some x =>
  rw [hg] at hw
  obtain ⟨h0, hi⟩ := getT_some hg
  obtain ⟨y, h1, h2⟩ := h id.toNat x hi
  have : getT t' id = some y := by unfold getT; rw [if_pos h0]; exact h1
  rw [this]
  exact h2 hw
def recT (k : Int) (tag : List UInt8) (ms : List Mem) (d : Bool) (c : Cap) : TR := ⟨k, 0, 0, tag, ms, d, c⟩
theorem memsE_ext {w w' : Int → Bool} {k k' : Int → Int} {h h' : Int → Bool} (hh : ∀ x, h x = true → h' x = true ∧ k' x = k x) (hw : ∀ x, w x = true → w' x = true) : ∀ (l : List Mem) (seen : List (List UInt8)), memsE w k h seen l = 0 → memsE w' k' h' seen l = 0 := by
 intro l
 induction l with
 | nil => intro seen q; unfold memsE; rfl
 | cons m r ih =>
  intro seen q
  unfold memsE at q ⊢
  split at q
  ·rename_i h1
   have : memE w' k' h' seen m = 0 := by
    unfold memE at h1 ⊢
    split at h1
    ·cases h1
    ·rename_i a1
     split at h1
     ·cases h1
     ·rename_i a2
      have b1 := hh m.2.1 (by simpa using a1)
      have b2 := hw m.2.1 (by simpa using a2)
      rw [if_neg (by rw [b1.1]; decide), if_neg (by rw [b2]; decide), b1.2]
      exact h1
   rw [if_pos this]
   exact ih _ q
  ·rename_i h1; exact absurd q h1
theorem membersE_ext {w w' : Int → Bool} {k k' : Int → Int} {h h' : Int → Bool} (hh : ∀ x, h x = true → h' x = true ∧ k' x = k x) (hw : ∀ x, w x = true → w' x = true) {l : List Mem} (q : membersE w k h l = 0) : membersE w' k' h' l = 0 := by
 unfold membersE at q ⊢
 split at q
 ·cases q
 ·rename_i h1
  rw [if_neg h1]
  exact memsE_ext hh hw l [] q
theorem getT_app {t s : List TR} {id : Int} {r : TR} (h : getT t id = some r) : getT (t ++ s) id = some r := by
 obtain ⟨h0, hi⟩ := getT_some h
 unfold getT
 rw [if_pos h0, List.getElem?_append_left (List.getElem?_eq_some_iff.1 hi).1]
 exact hi
theorem app1 {t : List TR} {a : TR} {i : Nat} {x : TR} (h : (t ++ [a])[i]? = some x) : (i < t.length ∧ t[i]? = some x) ∨ (i = t.length ∧ x = a) := by
 by_cases c : i < t.length
 ·rw [List.getElem?_append_left c] at h; exact .inl ⟨c, h⟩
 ·rw [List.getElem?_append_right (by omega)] at h
  by_cases c1 : i = t.length
  ·subst c1; rw [Nat.sub_self] at h; cases h; exact .inr ⟨rfl, rfl⟩
  ·rw [List.getElem?_eq_none (by simp; omega)] at h; cases h
theorem rho_max (rho : Nat → Nat) : ∀ n, ∃ F, ∀ i, i < n → rho i < F := by
 intro n
 induction n with
 | zero => exact ⟨0, fun i h => by omega⟩
 | succ n ih =>
  obtain ⟨F, hF⟩ := ih
  refine ⟨max F (rho n + 1), fun i hi => ?_⟩
  by_cases e : i = n
  ·subst e; omega
  ·have := hF i (by omega); omega
theorem keys_get {t : List TR} (k e n : Int) : ∀ (es : Ents) (j : Nat), (∀ x ∈ es, ∃ (i : Nat) (q : TR), t[i]? = some q ∧ isPA q = true ∧ x.1 = .agg (keyL q) ∧ x.2.1 = .int .i64 i) →
  (findA true [.int .i64, .int .i64, .int .i64] [.int .i64 k, .int .i64 e, .int .i64 n] es j = some none ∧ ∀ x ∈ es, x.1 ≠ .agg [.int .i64 k, .int .i64 e, .int .i64 n]) ∨
   ∃ (p i : Nat) (q : TR), findA true [.int .i64, .int .i64, .int .i64] [.int .i64 k, .int .i64 e, .int .i64 n] es j = some (some (p, .int .i64 i)) ∧ t[i]? = some q ∧ isPA q = true ∧ keyR q = (k, e, n) := by
 intro es
 induction es with
 | nil => intro j _; exact .inl ⟨rfl, fun x hx => by cases hx⟩
 | cons x r ih =>
  intro j h
  obtain ⟨i, q, q1, q2, q3, q4⟩ := h x (by simp)
  obtain ⟨xk, xv, xc⟩ := x
  dsimp only at q3 q4
  subst q3 q4
  by_cases hb : k = q.kind ∧ e = q.elem ∧ n = q.len
  ·refine .inr ⟨j, i, q, ?_, q1, q2, by unfold keyR; rw [hb.1, hb.2.1, hb.2.2]⟩
   have : (k == q.kind && (e == q.elem && n == q.len)) = true := by simpa using hb
   simp only [findA, keyC_agg, keyL, eqc_int, this]
  ·have hf : (k == q.kind && (e == q.elem && n == q.len)) = false := by
    cases c : (k == q.kind && (e == q.elem && n == q.len)) with
    | false => rfl
    | true => simp only [Bool.and_eq_true, beq_iff_eq] at c; exact absurd c hb
   rcases ih (j + 1) (fun y hy => h y (by simp [hy])) with ⟨g1, g2⟩ | ⟨p, i2, q5, g1, g2, g3, g4⟩
   ·refine .inl ⟨?_, fun y hy => ?_⟩
    ·simp only [findA, keyC_agg, keyL, eqc_int, hf]; exact g1
    ·rcases List.mem_cons.1 hy with rfl | hy
     ·intro c
      dsimp only [keyL] at c
      simp only [AV.agg.injEq, List.cons.injEq, AV.int.injEq, true_and, and_true] at c
      exact hb ⟨c.1.symm, c.2.1.symm, c.2.2.symm⟩
     ·exact g2 y hy
   ·refine .inr ⟨p, i2, q5, ?_, g2, g3, g4⟩
    simp only [findA, keyC_agg, keyL, eqc_int, hf]; exact g1
def arrT (id n : Int) (c : Cap) : TR := ⟨14, id, n, [], [], false, c⟩
theorem acc_arr {t : List TR} (ha : AccP t) (id n : Int) (c : Cap) (hwid : wholeS t id = true) (hn : longS n = true) (hnew : ∀ q ∈ t, isPA q = true → keyR q ≠ (14, id, n)) (hlen : t.length < 512) : AccP (t ++ [arrT id n c]) := by
 have lo := ha.lo
 have hid : 0 ≤ id ∧ id.toNat < t.length := by
  have h0 : hasS t id = true := by
   unfold wholeS at hwid
   unfold hasS
   cases hgd : getT t id with
   | none => rw [hgd] at hwid; cases hwid
   | some z => rfl
  exact has_lt h0
 have hw : ∀ x, wholeS t x = true → wholeS (t ++ [arrT id n c]) x = true := wholeS_le fun i x hx => ⟨x, by rw [List.getElem?_append_left (List.getElem?_eq_some_iff.1 hx).1]; exact hx, fun q => q⟩
 have hh : ∀ x, hasS t x = true → hasS (t ++ [arrT id n c]) x = true ∧ kindS (t ++ [arrT id n c]) x = kindS t x := fun x hx => by
  unfold hasS kindS at *
  cases hg : getT t x with
  | none => rw [hg] at hx; cases hx
  | some r => rw [getT_app hg]; exact ⟨rfl, rfl⟩
 have htw : ∀ (i : Nat) (r : TR), i ≤ t.length → twiceS (t ++ [arrT id n c]) i r = twiceS t i r := fun i r hi => by
  unfold twiceS
  rw [List.take_append_of_le_length hi]
 refine ⟨by simp; omega, by simp; omega, fun i r hi hlt => ?_, fun i r hi hge => ?_, fun r hr hk14 => ?_, fun r hr hd => ?_, ?_⟩
 ·rcases app1 hi with ⟨_, h⟩ | ⟨h, _⟩
  ·exact ha.basic i r h hlt
  ·omega
 ·rcases app1 hi with ⟨h1, h⟩ | ⟨h, e⟩
  ·rw [htw i r (by omega)]; exact ha.row i r h hge
  ·subst e h
   refine ⟨?_, ?_⟩
   ·unfold shapedR arrT
    simp only [Int.reduceEq, ↓reduceIte, Bool.and_eq_true, decide_eq_true_eq, true_and, hn, and_true]
    omega
   ·unfold twiceS
    rw [Bool.and_eq_false_iff]
    right
    rw [List.take_left, List.any_eq_false]
    intro q hq
    simp only [decide_eq_true_eq]
    intro c
    refine hnew q hq ?_ c
    unfold keyR at c
    simp only [Prod.mk.injEq] at c
    unfold isPA
    simp only [decide_eq_true_eq]
    right
    rw [c.1]; rfl
 ·rcases List.mem_append.1 hr with h | h
  ·exact hw _ (ha.whole r h hk14)
  ·simp only [List.mem_cons, List.not_mem_nil, or_false] at h
   subst h
   exact hw _ hwid
 ·rcases List.mem_append.1 hr with h | h
  ·exact membersE_ext hh hw (ha.mems r h hd)
  ·simp only [List.mem_cons, List.not_mem_nil, or_false] at h
   subst h
   simp [arrT] at hd
 ·obtain ⟨rho, hr⟩ := ha.rank
  obtain ⟨F, hF⟩ := rho_max rho t.length
  refine ⟨fun j => if j = t.length then F else rho j, fun i r hi d hd => ?_⟩
  rw [List.length_append]
  rcases app1 hi with ⟨h1, h⟩ | ⟨h, e⟩
  ·have := hr i r h d hd
   refine ⟨this.1, by omega, ?_⟩
   show (if d.toNat = t.length then F else rho d.toNat) < (if i = t.length then F else rho i)
   rw [if_neg (by omega), if_neg (by omega)]
   exact this.2.2
  ·subst e
   have hd2 : d = id := by simpa [deps, arrT] using hd
   subst hd2
   refine ⟨hid.1, by omega, ?_⟩
   show (if d.toNat = t.length then F else rho d.toNat) < (if i = t.length then F else rho i)
   rw [if_neg (by omega), if_pos h]
   exact hF _ hid.2
theorem lay_arr {t : List TR} {rho : Nat → Nat} {F : Nat} (hx : Ranked t rho) (hF : ∀ i, i < t.length → rho i < F) {a id n : Int} {r : TR} (hg : getT t a = some r) (hk : r.kind = 14) (he : r.elem = id) (hn : r.len = n) (hm : r.mem = []) :
  (bigF t F a = (decide (16384 < n * (layF t F id).size) || bigF t F id)) ∧ (bigF t F a = false → layF t F a = ⟨n * (layF t F id).size, (layF t F id).align, []⟩) := by
 obtain ⟨e1, e2⟩ := lay_eq hx hF hg
 have er : rawL (layF t F) r = ⟨n * (layF t F id).size, (layF t F id).align, []⟩ := by unfold rawL; rw [if_pos hk, he, hn]
 have ed : deps r = [id] := by unfold deps; rw [if_pos hk, he, hm]; rfl
 rw [er] at e1
 rw [er, ed] at e2
 simp only [List.any_cons, List.any_nil, Bool.or_false] at e2
 refine ⟨e2, fun hb => ?_⟩
 rw [e2] at hb
 simp only [Bool.or_eq_false_iff, decide_eq_false_iff_not] at hb
 rw [e1]
 unfold capL
 rw [if_neg hb.1]
section
variable {G : Heap} {T R M cap : Nat} {ex : Bool} {t : List TR}
theorem TabAt.ne (ht : TabAt G T R M cap ex t) : T ≠ R := by
 intro e
 have h1 := ht.t0
 have h2 := ht.r0
 rw [e, h2] at h1
 have : (cellsT t).length = 2 := by
  injection h1 with h1
  injection h1 with h1
  rw [h1]; rfl
 rw [cells_len] at this
 omega
theorem add_full (ht : TabAt G T R M cap ex t) (k e n : Int) (tg : List UInt8) (hl : 512 ≤ t.length) : Ccall tab 59 [.mp T 0, .agg [.int .i64 k, .int .i64 e, .int .i64 n, .str tg, .is [] .nil, .bool false]] G = some (.tup [.int .i64 0, .int .i64 32], G) := by
 have hT := ht.t0
 have h1 : (512 : Int) ≤ t.length := by omega
 generalize t.length = n at *
 refine Ccall_over rfl rfl rfl rfl ?_
 clear ht hl
 repeat (any_goals first | simp (dsimp := false) (maxSteps := 4000000) (maxDischargeDepth := 8) (implicitDefEqProofs := false) [*, -Int.not_le, -Int.not_lt, amLt, f59c, f59r0, f59r1, f59r2, f59r4] | with_reducible refine ch_both (fun _ => ?_) (fun _ => ?_) | with_reducible refine ite_both (fun _ => ?_) (fun _ => ?_) | intro _)
def addH (G : Heap) (T R M : Nat) (t : List TR) (w : TR) : Heap :=
 List.set (List.set G R .dead) T (.cells [.ms (G.length + 1) 0 (t.length + 1) 6 (t.length + 1) false, .mm M]) ++ [.cells (trow w), .cells (cellsT t ++ trow w)]
theorem add_reg (ht : TabAt G T R M t.length false t) (k e n : Int) (tg : List UInt8) (hl : t.length < 512) :
  Brun tab 28 (.region true f59r3 [0] 2) (ofL [(0, .mp T 0), (3, .ip [.int .i64 k, .int .i64 e, .int .i64 n, .str tg, .is [] .no, .bool false] 0), (11, .bool false)]) G = some (.normal, ofL [(0, .mp T 0)], addH G T R M t ⟨k, e, n, tg, [], false, .no⟩) := by
 have hne := ht.ne
 have hne' : ¬ R = T := fun e => hne e.symm
 have lT := (List.getElem?_eq_some_iff.1 ht.t0).1
 have lR := (List.getElem?_eq_some_iff.1 ht.r0).1
 have gT := fun x => ht.t x
 have gR := fun x => ht.r x
 have gT0 := ht.t0
 have gR0 := ht.r0
 have s1 : ∀ x b, (G ++ x).set R b = G.set R b ++ x := fun x b => by rw [List.set_append_left _ _ lR]
 have g2 : ∀ x, (G.set R .dead ++ x)[T]? = some (.cells [.ms R 0 t.length 6 t.length false, .mm M]) := fun x => by
  rw [List.getElem?_append_left (by rw [List.length_set]; exact lT), List.getElem?_set_ne (fun e => hne e.symm)]; exact ht.t0
 have s2 : ∀ x b, (G.set R .dead ++ x).set T b = (G.set R .dead).set T b ++ x := fun x b => by rw [List.set_append_left _ _ (by rw [List.length_set]; exact lT)]
 have hlen : (G.set R Blk.dead).length = G.length := List.length_set ..
 have hcs : (cellsT t).length = t.length * 6 := by rw [cells_len]
 have htk : (cellsT t).take (t.length * 6) = cellsT t := List.take_of_length_le (by omega)
 have hkk : ¬ t.length + 1 ≤ t.length := by omega
 have hcl : t.length * 6 ≤ (cellsT t).length := by omega
 have hrm : ¬ 140737488355328 < (t.length + 1) * 72 := by omega
 have hrm2 : (t.length + 1) * 72 ≤ 140737488355328 := by omega
 have hz : ¬ G = [] := by rintro rfl; simp at lT
 have hGT : ¬ G.length = T := by omega
 unfold addH
 have ew : trow ⟨k, e, n, tg, [], false, .no⟩ = [.int .i64 k, .int .i64 e, .int .i64 n, .str tg, .is [] .no, .bool false] := rfl
 rw [ew]
 clear ew
 generalize cellsT t = cs at *
 generalize t.length = nn at *
 refine Brun_told ?_
 clear ht hl lT lR hne
 simp [*, f59r3, asteps, astep, stepRun, aop, HC.run, HC.rds, HC.wrs, HC.ofOpt, Blk.isFree, wanted, put, cellsOf, isSc, splice, cget, slen, ssz, scells, roomy, rowsz, Cap.tight, drawOK, freeOf, Rec.indep, disj, apart, AOper.looks, AOp.tmps, AO.tmps, pTmps, oTmps, Nat.testBit, ofL, isPure, tab, fillp, imm, imm.immL, Nat.add_assoc]
theorem add_ok (ht : TabAt G T R M t.length false t) (k e n : Int) (tg : List UInt8) (hl : t.length < 512) : Ccall tab 59 [.mp T 0, .agg [.int .i64 k, .int .i64 e, .int .i64 n, .str tg, .is [] .nil, .bool false]] G = some (.tup [.int .i64 t.length, .int .i64 0], addH G T R M t ⟨k, e, n, tg, [], false, .no⟩) := by
 have h1 : ¬ (512 : Int) ≤ t.length := by omega
 have h1' : (t.length : Int) < 512 := by omega
 have gT0 := ht.t0
 have hr := add_reg ht k e n tg hl
 have gT2 : (addH G T R M t ⟨k, e, n, tg, [], false, .no⟩)[T]? = some (.cells [.ms (G.length + 1) 0 (t.length + 1) 6 (t.length + 1) false, .mm M]) := by
  have lT := (List.getElem?_eq_some_iff.1 ht.t0).1
  unfold addH
  rw [List.getElem?_append_left (by simpa using lT), List.getElem?_set, if_pos rfl, if_pos (by simpa using lT)]
 have hw : IntKind.i64.wrap (t.length : Int) = t.length := IntWalk.i64_in _ (by omega)
 generalize addH G T R M t ⟨k, e, n, tg, [], false, .no⟩ = G2 at *
 generalize t.length = nn at *
 refine Ccall_over rfl rfl rfl rfl ?_
 show banswer _ (Brun tab 28 f59c _ _) = _
 unfold f59c
 generalize ACode.region true f59r3 [0] 2 = rg at *
 clear ht hl
 repeat (any_goals first | simp (dsimp := false) (maxSteps := 4000000) (maxDischargeDepth := 8) (implicitDefEqProofs := false) [*, -Int.not_le, -Int.not_lt, amLt, f59c, f59r0, f59r1, f59r2, f59r4] | with_reducible refine ch_both (fun _ => ?_) (fun _ => ?_) | with_reducible refine ite_both (fun _ => ?_) (fun _ => ?_) | intro _)
theorem add_tab (ht : TabAt G T R M t.length false t) (w : TR) (hl : t.length < 512) : TabAt (addH G T R M t w) T (G.length + 1) M (t ++ [w]).length false (t ++ [w]) := by
 have hne := ht.ne
 have lT := (List.getElem?_eq_some_iff.1 ht.t0).1
 have lR := (List.getElem?_eq_some_iff.1 ht.r0).1
 unfold addH
 refine ⟨fun x => ?_, fun x => ?_⟩
 ·rw [List.append_assoc, List.getElem?_append_left (by simpa using lT), List.getElem?_set, if_pos rfl, if_pos (by simpa using lT)]
  simp
 ·rw [List.append_assoc, List.getElem?_append_right (by simp), cells_app, cells_one]
  simp
theorem add_keep (G : Heap) (T R M : Nat) (t : List TR) (w : TR) (j : Nat) (hj : j < G.length) (h1 : j ≠ T) (h2 : j ≠ R) : (addH G T R M t w)[j]? = G[j]? := by
 unfold addH
 rw [List.getElem?_append_left (by simpa using hj), List.getElem?_set_ne (Ne.symm h1), List.getElem?_set_ne (Ne.symm h2)]
end
section
variable {G : Heap} {T R M cap : Nat} {ex : Bool} {t : List TR} {es : Ents} {ck : Nat}
theorem TabAt.nm (ht : TabAt G T R M cap ex t) (hM : G[M]? = some (.map es ck)) : M ≠ T ∧ M ≠ R := by
 refine ⟨fun e => ?_, fun e => ?_⟩
 ·have := ht.t0; rw [← e, hM] at this; cases this
 ·have := ht.r0; rw [← e, hM] at this; cases this
theorem der_found (ht : TabAt G T R M cap ex t) (hM : G[M]? = some (.map es ck)) (k e n : Int) (p i : Nat) (hf : findA true [.int .i64, .int .i64, .int .i64] [.int .i64 k, .int .i64 e, .int .i64 n] es 0 = some (some (p, .int .i64 i))) :
  Ccall tab 44 [.mp T 0, .agg [.int .i64 k, .int .i64 e, .int .i64 n]] G = some (.tup [.int .i64 i, .int .i64 0], G) := by
 have hT := ht.t0
 refine Ccall_over rfl rfl rfl rfl ?_
 clear ht
 repeat (any_goals first | simp (dsimp := false) (maxSteps := 4000000) (maxDischargeDepth := 8) (implicitDefEqProofs := false) [*, -Int.not_le, -Int.not_lt, amLt, f44c, f44q1, f44q6, f44r0, f44r2, f44r3, f44r4, f44r5, f44r7, f44r1_u, f44r1_w, f44r6_u, f44r6_w, keyC_agg, keyO_int, found_t, found_f, mapF_map] | with_reducible refine ch_both (fun _ => ?_) (fun _ => ?_) | with_reducible refine ite_both (fun _ => ?_) (fun _ => ?_) | intro _)
theorem der_full (ht : TabAt G T R M cap ex t) (hM : G[M]? = some (.map es ck)) (k e n : Int) (hf : findA true [.int .i64, .int .i64, .int .i64] [.int .i64 k, .int .i64 e, .int .i64 n] es 0 = some none) (hl : 512 ≤ t.length) :
  Ccall tab 44 [.mp T 0, .agg [.int .i64 k, .int .i64 e, .int .i64 n]] G = some (.tup [.int .i64 0, .int .i64 32], G) := by
 have hT := ht.t0
 have ha := add_full ht k e n [] hl
 refine Ccall_over rfl rfl rfl rfl ?_
 clear ht hl
 repeat (any_goals first | simp (dsimp := false) (maxSteps := 4000000) (maxDischargeDepth := 8) (implicitDefEqProofs := false) [*, -Int.not_le, -Int.not_lt, amLt, f44c, f44q1, f44q6, f44r0, f44r2, f44r3, f44r4, f44r5, f44r7, f44r1_u, f44r1_w, f44r6_u, f44r6_w, keyC_agg, keyO_int, found_t, found_f, mapF_map] | with_reducible refine ch_both (fun _ => ?_) (fun _ => ?_) | with_reducible refine ite_both (fun _ => ?_) (fun _ => ?_) | intro _)
theorem der_new (ht : TabAt G T R M t.length false t) (hM : G[M]? = some (.map es ck)) (k e n : Int) (hf : findA true [.int .i64, .int .i64, .int .i64] [.int .i64 k, .int .i64 e, .int .i64 n] es 0 = some none) (hl : t.length < 512) :
  Ccall tab 44 [.mp T 0, .agg [.int .i64 k, .int .i64 e, .int .i64 n]] G =
   some (.tup [.int .i64 t.length, .int .i64 0], List.set (addH G T R M t ⟨k, e, n, [], [], false, .no⟩) M (.map (es ++ [(.agg [.int .i64 k, .int .i64 e, .int .i64 n], .int .i64 t.length, ck)]) (ck + 1))) := by
 have hT := ht.t0
 have ha := add_ok ht k e n [] hl
 obtain ⟨m1, m2⟩ := ht.nm hM
 have hM2 : (addH G T R M t ⟨k, e, n, [], [], false, .no⟩)[M]? = some (.map es ck) := by
  rw [add_keep _ _ _ _ _ _ _ (List.getElem?_eq_some_iff.1 hM).1 m1 m2]; exact hM
 have hT2 := (add_tab ht ⟨k, e, n, [], [], false, .no⟩ hl).t0
 generalize addH G T R M t ⟨k, e, n, [], [], false, .no⟩ = G2 at *
 refine Ccall_over rfl rfl rfl rfl ?_
 clear ht hl m1 m2
 repeat (any_goals first | simp (dsimp := false) (maxSteps := 4000000) (maxDischargeDepth := 8) (implicitDefEqProofs := false) [*, -Int.not_le, -Int.not_lt, amLt, f44c, f44q1, f44q6, f44r0, f44r2, f44r3, f44r4, f44r5, f44r7, f44r1_u, f44r1_w, f44r6_u, f44r6_w, keyC_agg, keyO_int, found_t, found_f, mapF_map] | with_reducible refine ch_both (fun _ => ?_) (fun _ => ?_) | with_reducible refine ite_both (fun _ => ?_) (fun _ => ?_) | intro _)
theorem tab_setM (ht : TabAt G T R M cap ex t) (m1 : M ≠ T) (m2 : M ≠ R) (b : Blk) : TabAt (List.set G M b) T R M cap ex t := by
 have lT := (List.getElem?_eq_some_iff.1 ht.t0).1
 have lR := (List.getElem?_eq_some_iff.1 ht.r0).1
 refine ⟨fun x => ?_, fun x => ?_⟩
 ·rw [List.getElem?_append_left (by simpa using lT), List.getElem?_set_ne m1]; exact ht.t0
 ·rw [List.getElem?_append_left (by simpa using lR), List.getElem?_set_ne m2]; exact ht.r0
end
theorem array_ok {G : Heap} {T R M : Nat} {t : List TR} {es : Ents} {ck : Nat} (ha : AccP t) (ht : TabAt G T R M t.length false t) (hM : G[M]? = some (.map es ck)) (hk : KeysOK es t) (hsz : ∀ w ∈ t, w.mem.length ≤ 16777216) (id n : Int) :
  (∃ e, e ≠ 0 ∧ Ccall tab 20 [.mp T 0, .int .i64 id, .int .i64 n] G = some (.tup [.int .i64 0, .int .i64 e], G)) ∨
   (wholeS t id = true ∧ longS n = true ∧ ∃ (t2 : List TR) (G2 : Heap) (R2 a : Nat) (r : TR), AccP t2 ∧ TabAt G2 T R2 M t2.length false t2 ∧ (∀ w ∈ t2, w.mem.length ≤ 16777216) ∧ t2[a]? = some r ∧ r.kind = 14 ∧ r.elem = id ∧ r.len = n ∧ r.mem = [] ∧ wholeS t2 id = true ∧
    Ccall tab 20 [.mp T 0, .int .i64 id, .int .i64 n] G = some (.tup [.int .i64 a, .int .i64 0], G2)) := by
 have h1 := alive_ok ht.t0
 have h2 := has_ok ht.t0 id
 have h3 := whole_ok ht.t0 ht.r0 id
 have h4 := fun h => long_ok h n
 by_cases c1 : hasS t id = true
 ·rw [c1] at h2
  by_cases c2 : wholeS t id = true
  ·rw [c2] at h3
   by_cases c3 : longS n = true
   ·simp only [c3] at h4
    rcases keys_get (t := t) 14 id n es 0 hk.1 with ⟨g1, g2⟩ | ⟨p, i, q, g1, g2, g3, g4⟩
    ·by_cases c4 : 512 ≤ t.length
     ·have h5 := der_full ht hM 14 id n g1 c4
      refine .inl ⟨32, by decide, ?_⟩
      refine Ccall_over rfl rfl rfl rfl ?_
      clear ha ht hM hk hsz c1 c2 c3 g1 g2 c4
      repeat (any_goals first | simp (dsimp := false) (maxSteps := 4000000) (maxDischargeDepth := 8) (implicitDefEqProofs := false) [*, -Int.not_le, -Int.not_lt, amLt, f20c, f20r0, f20r1, f20r2, f20r3, f20r4, f20r5, f20r6, f20r7, f20r8, f20r9] | with_reducible refine ch_both (fun _ => ?_) (fun _ => ?_) | with_reducible refine ite_both (fun _ => ?_) (fun _ => ?_) | intro _)
     ·have h5 := der_new ht hM 14 id n g1 (by omega)
      have hnew : ∀ q ∈ t, isPA q = true → keyR q ≠ (14, id, n) := fun q hq hp hkr => by
       obtain ⟨x, x1, x2⟩ := hk.2 q hq hp
       refine g2 x x1 ?_
       rw [x2]
       unfold keyR at hkr
       simp only [Prod.mk.injEq] at hkr
       unfold keyL
       rw [hkr.1, hkr.2.1, hkr.2.2]
      have ha2 := acc_arr ha id n .no c2 c3 hnew (by omega)
      obtain ⟨m1, m2⟩ := ht.nm hM
      have lM := (List.getElem?_eq_some_iff.1 hM).1
      have ht2 := add_tab ht (arrT id n .no) (by omega)
      refine .inr ⟨c2, c3, t ++ [arrT id n .no], _, G.length + 1, t.length, arrT id n .no, ha2, tab_setM ht2 m1 (by omega) (.map (es ++ [(.agg [.int .i64 14, .int .i64 id, .int .i64 n], .int .i64 t.length, ck)]) (ck + 1)), fun w hw => ?_, by simp, rfl, rfl, rfl, rfl, ?_, ?_⟩
      ·rcases List.mem_append.1 hw with h | h
       ·exact hsz w h
       ·simp only [List.mem_cons, List.not_mem_nil, or_false] at h; subst h; simp [arrT]
      ·exact wholeS_le (t := t) (fun i x hx => ⟨x, by rw [List.getElem?_append_left (List.getElem?_eq_some_iff.1 hx).1]; exact hx, fun q => q⟩) id c2
      ·unfold arrT
       generalize List.set (addH G T R M t ⟨14, id, n, [], [], false, .no⟩) M _ = G2 at *
       refine Ccall_over rfl rfl rfl rfl ?_
       clear ha ht hM hk hsz c1 c2 c3 g1 g2 c4 hnew ha2 m1 m2 lM ht2
       repeat (any_goals first | simp (dsimp := false) (maxSteps := 4000000) (maxDischargeDepth := 8) (implicitDefEqProofs := false) [*, -Int.not_le, -Int.not_lt, amLt, f20c, f20r0, f20r1, f20r2, f20r3, f20r4, f20r5, f20r6, f20r7, f20r8, f20r9] | with_reducible refine ch_both (fun _ => ?_) (fun _ => ?_) | with_reducible refine ite_both (fun _ => ?_) (fun _ => ?_) | intro _)
    ·have h5 := der_found ht hM 14 id n p i g1
     unfold keyR at g4
     simp only [Prod.mk.injEq] at g4
     have hqm : q.mem = [] := by
      have n11 : ¬ i < 11 := fun c => by
       have := ha.basic i q g2 c
       simp only [basicR, decide_eq_true_eq] at this
       omega
      have := (ha.row i q g2 (by omega)).1
      unfold shapedR at this
      rw [if_neg (by omega), if_pos g4.1] at this
      simp only [Bool.and_eq_true, decide_eq_true_eq] at this
      exact this.1.2.1
     refine .inr ⟨c2, c3, t, G, R, i, q, ha, ht, hsz, g2, g4.1, g4.2.1, g4.2.2, hqm, c2, ?_⟩
     refine Ccall_over rfl rfl rfl rfl ?_
     clear ha ht hM hk hsz c1 c2 c3 g1 g2 g3 g4 hqm
     repeat (any_goals first | simp (dsimp := false) (maxSteps := 4000000) (maxDischargeDepth := 8) (implicitDefEqProofs := false) [*, -Int.not_le, -Int.not_lt, amLt, f20c, f20r0, f20r1, f20r2, f20r3, f20r4, f20r5, f20r6, f20r7, f20r8, f20r9] | with_reducible refine ch_both (fun _ => ?_) (fun _ => ?_) | with_reducible refine ite_both (fun _ => ?_) (fun _ => ?_) | intro _)
   ·simp only [show longS n = false by simpa using c3] at h4
    refine .inl ⟨2, by decide, ?_⟩
    refine Ccall_over rfl rfl rfl rfl ?_
    clear ha ht hM hk hsz c1 c2 c3
    repeat (any_goals first | simp (dsimp := false) (maxSteps := 4000000) (maxDischargeDepth := 8) (implicitDefEqProofs := false) [*, -Int.not_le, -Int.not_lt, amLt, f20c, f20r0, f20r1, f20r2, f20r3, f20r4, f20r5, f20r6, f20r7, f20r8, f20r9] | with_reducible refine ch_both (fun _ => ?_) (fun _ => ?_) | with_reducible refine ite_both (fun _ => ?_) (fun _ => ?_) | intro _)
  ·rw [show wholeS t id = false by simpa using c2] at h3
   refine .inl ⟨50, by decide, ?_⟩
   refine Ccall_over rfl rfl rfl rfl ?_
   clear ha ht hM hk hsz c1 c2 h4
   repeat (any_goals first | simp (dsimp := false) (maxSteps := 4000000) (maxDischargeDepth := 8) (implicitDefEqProofs := false) [*, -Int.not_le, -Int.not_lt, amLt, f20c, f20r0, f20r1, f20r2, f20r3, f20r4, f20r5, f20r6, f20r7, f20r8, f20r9] | with_reducible refine ch_both (fun _ => ?_) (fun _ => ?_) | with_reducible refine ite_both (fun _ => ?_) (fun _ => ?_) | intro _)
 ·rw [show hasS t id = false by simpa using c1] at h2
  refine .inl ⟨30, by decide, ?_⟩
  refine Ccall_over rfl rfl rfl rfl ?_
  clear ha ht hM hk hsz c1 h3 h4
  repeat (any_goals first | simp (dsimp := false) (maxSteps := 4000000) (maxDischargeDepth := 8) (implicitDefEqProofs := false) [*, -Int.not_le, -Int.not_lt, amLt, f20c, f20r0, f20r1, f20r2, f20r3, f20r4, f20r5, f20r6, f20r7, f20r8, f20r9] | with_reducible refine ch_both (fun _ => ?_) (fun _ => ?_) | with_reducible refine ite_both (fun _ => ?_) (fun _ => ?_) | intro _)
section
variable {t : List TR} {rho : Nat → Nat} {F T R M : Nat}
theorem walk1_ok (hx : Tbl t rho F) (G : Heap) (ht : TabAt G T R M t.length false t) (a k : Int) (c : Cap) {r : TR} (hg : getT t a = some r) (h14 : r.kind = 14) (h0 : begE t F a = 0) (hk0 : 0 ≤ k) (hkn : k < r.len) (hn : r.len ≤ 16384) :
  ∃ Y, Ccall tab 19 [.mp T 0, .int .i64 a, .is [[.str [], .int .i64 k]] c] G = some (.tup [.agg [.int .i64 0, .int .i64 r.elem, .int .i64 (k * (layF t F r.elem).size), .int .i64 0, .int .i64 0], .int .i64 0], G ++ Y) := by
 obtain ⟨Y, _, hb⟩ := begin_ok hx (G ++ [.cells [.int .i64 0, .int .i64 0, .int .i64 0, .int .i64 0, .int .i64 0], .free]) (ht.app _) a
 obtain ⟨K, KM, es, ck, cap, hK, lK, lKM, hb⟩ := hb h0
 have hrow := fun x => trow_ok (ht.app x) hg (by have := hx.sz; obtain ⟨_, hi⟩ := getT_some hg; exact this r (List.mem_of_getElem? hi))
 have hwhole : wholeS t r.elem = true := by
  obtain ⟨_, hi⟩ := getT_some hg
  exact hx.acc.whole r (List.mem_of_getElem? hi) h14
 have hfine := (whole_fine hx.acc hx.rank hx.hF (rho r.elem.toNat + 1) r.elem (by omega) hwhole).1
 have hlo := hfine.lo
 have hhi := hfine.hi
 have lT := (List.getElem?_eq_some_iff.1 ht.t0).1
 have lR := (List.getElem?_eq_some_iff.1 ht.r0).1
 have uK := (List.getElem?_eq_some_iff.1 hK.k).1
 have uKM := (List.getElem?_eq_some_iff.1 hK.m).1
 simp only [List.length_append, List.length_cons, List.length_nil] at lK lKM uK uKM
 obtain ⟨H3, hH3⟩ : ∃ H3 : Heap, H3 = G ++ .cells [.int .i64 0, .int .i64 0, .int .i64 0, .int .i64 0, .int .i64 0] :: .cells [.int .i64 (layF t F a).size, .int .i64 (layF t F a).align, .is (plRows (layF t F a).pl) cap] ::
   (Y ++ [.cells [.int .i64 0, .int .i64 a, .int .i64 0, .int .i64 0, .int .i64 0], .cells [.str [], .int .i64 k], .cells (trow (eraseT r)), .cells (trow (eraseT r))]) := ⟨_, rfl⟩
 have hold : ∀ j, j < G.length + 2 + Y.length → j ≠ G.length + 1 → H3[j]? = (G ++ [.cells [.int .i64 0, .int .i64 0, .int .i64 0, .int .i64 0, .int .i64 0], .free] ++ Y)[j]? := fun j h1 h2 => by
  rw [hH3]
  by_cases c1 : j < G.length
  ·rw [List.getElem?_append_left c1, List.append_assoc, List.getElem?_append_left c1]
  ·rw [List.getElem?_append_right (by omega), List.append_assoc, List.getElem?_append_right (by omega)]
   by_cases c2 : j - G.length = 0
   ·rw [c2]; rfl
   ·obtain ⟨m, hm⟩ : ∃ m, j - G.length = m + 2 := ⟨j - G.length - 2, by omega⟩
    rw [hm]
    show (Y ++ _)[m]? = Y[m]?
    rw [List.getElem?_append_left (by omega)]
 have l3 : H3.length = G.length + (Y.length + 6) := by rw [hH3]; simp
 have h3 : ∀ m, (H3[G.length + (Y.length + (m + 2))]? = [Blk.cells [.int .i64 0, .int .i64 a, .int .i64 0, .int .i64 0, .int .i64 0], .cells [.str [], .int .i64 k], .cells (trow (eraseT r)), .cells (trow (eraseT r))][m]?) := fun m => by
  rw [hH3, List.getElem?_append_right (by omega), Nat.add_sub_cancel_left]
  show (Y ++ _)[Y.length + m]? = _
  rw [List.getElem?_append_right (by omega), Nat.add_sub_cancel_left]
 have f11 : H3[G.length + (Y.length + 2)]? = some (.cells [.int .i64 0, .int .i64 a, .int .i64 0, .int .i64 0, .int .i64 0]) := h3 0
 have f13 : H3[G.length + (Y.length + 3)]? = some (.cells [.str [], .int .i64 k]) := h3 1
 have f14 : H3[G.length + (Y.length + 4)]? = some (.cells (trow (eraseT r))) := h3 2
 have hK3 : KInv t F T R M K KM (((H3.set (G.length + (Y.length + 2)) .free).set (G.length + (Y.length + 3)) .free).set (G.length + (Y.length + 4)) .free) es ck false := by
  have hs : ∀ j, j < G.length + 2 + Y.length → j ≠ G.length + 1 → (((H3.set (G.length + (Y.length + 2)) .free).set (G.length + (Y.length + 3)) .free).set (G.length + (Y.length + 4)) .free)[j]? = (G ++ [.cells [.int .i64 0, .int .i64 0, .int .i64 0, .int .i64 0, .int .i64 0], .free] ++ Y)[j]? := fun j h1 h2 => by
   rw [List.getElem?_set_ne (by omega), List.getElem?_set_ne (by omega), List.getElem?_set_ne (by omega)]
   exact hold j h1 h2
  exact hK.keep ⟨hs T (by omega) (by omega), hs R (by omega) (by omega), hs K (by omega) (by omega), hs KM (by omega) (by omega)⟩
 obtain ⟨G4, es4, ck4, cap4, _, hE, hlook⟩ := look_all hx.acc hx.rank hx.hF hx.sz (rho r.elem.toNat + 1) r.elem (by omega) hwhole _ es ck false hK3
 unfold Ccall at hlook
 obtain ⟨⟨v4, G4', w⟩, hA, hA2⟩ := Option.map_eq_some_iff.1 hlook
 simp only [Prod.mk.injEq] at hA2
 obtain ⟨rfl, rfl⟩ := hA2
 have hl4 := hE.1
 simp only [List.length_set] at hl4
 obtain ⟨hA, n14, _⟩ := Acall_beside (b := .cells (trow (eraseT r))) (by rw [List.getElem?_set_ne (by omega), List.getElem?_set_ne (by omega)]; exact f14) hA
 obtain ⟨hA, n13, _⟩ := Acall_beside (b := .cells [.str [], .int .i64 k]) (by rw [List.getElem?_set_ne (by omega)]; exact f13) hA
 obtain ⟨hA, n11, _⟩ := Acall_beside (b := .cells [.int .i64 0, .int .i64 a, .int .i64 0, .int .i64 0, .int .i64 0]) f11 hA
 have hG4 : ∀ j, j < G.length + 1 → (((G4'.set (G.length + (Y.length + 4)) (.cells (trow (eraseT r)))).set (G.length + (Y.length + 3)) (.cells [.str [], .int .i64 k])).set (G.length + (Y.length + 2)) (.cells [.int .i64 0, .int .i64 a, .int .i64 0, .int .i64 0, .int .i64 0]))[j]? = (G ++ [.cells [.int .i64 0, .int .i64 0, .int .i64 0, .int .i64 0, .int .i64 0]])[j]? := fun j hj => by
  rw [List.getElem?_set_ne (by omega), List.getElem?_set_ne (by omega), List.getElem?_set_ne (by omega), hE.2 j (by simp only [List.length_set]; omega) (by omega) (by omega), List.getElem?_set_ne (by omega), List.getElem?_set_ne (by omega), List.getElem?_set_ne (by omega), hold j (by omega) (by omega), List.append_assoc]
  by_cases c1 : j < G.length
  ·rw [List.getElem?_append_left c1, List.getElem?_append_left c1]
  ·have e : j = G.length := by omega
   subst e
   simp
 have g14 : (((G4'.set (G.length + (Y.length + 4)) (.cells (trow (eraseT r)))).set (G.length + (Y.length + 3)) (.cells [.str [], .int .i64 k])).set (G.length + (Y.length + 2)) (.cells [.int .i64 0, .int .i64 a, .int .i64 0, .int .i64 0, .int .i64 0]))[G.length + (Y.length + 4)]? = some (.cells (trow (eraseT r))) := by
  rw [List.getElem?_set_ne (by omega), List.getElem?_set_ne (by omega), List.getElem?_set, if_pos rfl, if_pos (by omega)]
 have g11 : (((G4'.set (G.length + (Y.length + 4)) (.cells (trow (eraseT r)))).set (G.length + (Y.length + 3)) (.cells [.str [], .int .i64 k])).set (G.length + (Y.length + 2)) (.cells [.int .i64 0, .int .i64 a, .int .i64 0, .int .i64 0, .int .i64 0]))[G.length + (Y.length + 2)]? = some (.cells [.int .i64 0, .int .i64 a, .int .i64 0, .int .i64 0, .int .i64 0]) := by
  rw [List.getElem?_set, if_pos rfl, if_pos (by simp only [List.length_set]; omega)]
 have lG4 : H3.length ≤ (((G4'.set (G.length + (Y.length + 4)) (.cells (trow (eraseT r)))).set (G.length + (Y.length + 3)) (.cells [.str [], .int .i64 k])).set (G.length + (Y.length + 2)) (.cells [.int .i64 0, .int .i64 a, .int .i64 0, .int .i64 0, .int .i64 0])).length := by
  simp only [List.length_set]; exact hl4
 generalize ((G4'.set (G.length + (Y.length + 4)) (.cells (trow (eraseT r)))).set (G.length + (Y.length + 3)) (.cells [.str [], .int .i64 k])).set (G.length + (Y.length + 2)) (.cells [.int .i64 0, .int .i64 a, .int .i64 0, .int .i64 0, .int .i64 0]) = G4 at *
 have u11 : G.length + (Y.length + 2) < H3.length := by omega
 have u13 : G.length + (Y.length + 3) < H3.length := by omega
 have u14 : G.length + (Y.length + 4) < H3.length := by omega
 have hmul := Int.mul_le_mul (a := k) (b := (layF t F r.elem).size) (c := 16384) (d := 16385) (by omega) hhi (by omega) (by omega)
 have hmul0 := Int.mul_nonneg (a := k) (b := (layF t F r.elem).size) hk0 (by omega)
 have w1 : IntKind.i64.wrap (k * (layF t F r.elem).size) = k * (layF t F r.elem).size := IntWalk.i64_in _ (by omega)
 have r12 : Brun tab 112 (.region true f19r12 [0, 6, 8, 11, 14, 31, 32, 33] 0) (ofL [(0, .mp T 0), (6, .mp G.length 0), (8, .mp K 0), (11, .mp (G.length + (Y.length + 2)) 0), (13, .mp (G.length + (Y.length + 3)) 0), (14, .mp (G.length + (Y.length + 4)) 0), (31, .is [[.str [], .int .i64 k]] c), (32, .int .i64 1), (33, .int .i64 0), (66, .bool false)]) H3 =
   some (.normal, ofL [(0, .mp T 0), (6, .mp G.length 0), (8, .mp K 0), (11, .mp (G.length + (Y.length + 2)) 0), (14, .mp (G.length + (Y.length + 4)) 0), (31, .is [[.str [], .int .i64 k]] c), (32, .int .i64 1), (33, .int .i64 0)], List.set G4 (G.length + (Y.length + 2)) (.cells [.int .i64 0, .int .i64 a, .int .i64 (k * (layF t F r.elem).size), .int .i64 0, .int .i64 0])) := by
  have f11' : ∀ hh, H3[G.length + (Y.length + 2)]'hh = .cells [.int .i64 0, .int .i64 a, .int .i64 0, .int .i64 0, .int .i64 0] := fun hh => (List.getElem?_eq_some_iff.1 f11).2
  have f13' : ∀ hh, H3[G.length + (Y.length + 3)]'hh = .cells [.str [], .int .i64 k] := fun hh => (List.getElem?_eq_some_iff.1 f13).2
  have f14' : ∀ hh, H3[G.length + (Y.length + 4)]'hh = .cells (trow (eraseT r)) := fun hh => (List.getElem?_eq_some_iff.1 f14).2
  unfold layV at hA
  unfold trow eraseT at f14 f14'
  have m11 : ¬ G.length + (Y.length + 2) ∈ w := by simpa using n11
  have m13 : ¬ G.length + (Y.length + 3) ∈ w := by simpa using n13
  have m14 : ¬ G.length + (Y.length + 4) ∈ w := by simpa using n14
  clear hlook hE hl4 hG4 g14
  generalize plRows (layF t F r.elem).pl = PL at *
  generalize (layF t F r.elem).size = sz at *
  generalize (layF t F r.elem).align = al at *
  clear hb hrow hK hH3 hold hK3 l3 h3 hx ht hg h0 hmul hmul0 lT lR uK uKM lK lKM hfine hlo hhi hwhole lG4
  refine Brun_told ?_
  simp [*, f19r12, f19q12, asteps, astep, stepRun, aop, HC.run, HC.rds, HC.wrs, HC.ofOpt, Blk.isFree, wanted, put, cellsOf, isSc, splice, cget, slen, ssz, scells, roomy, rowsz, Cap.tight, drawOK, freeOf, Rec.indep, disj, apart, AOper.looks, AOp.tmps, AO.tmps, pTmps, oTmps, Nat.testBit, ofL, isPure, tab, f39, fillp, imm, imm.immL, abin]
 have e11 : ∀ b, (List.set G4 (G.length + (Y.length + 2)) b)[G.length + (Y.length + 2)]? = some b := fun b => by
  rw [List.getElem?_set, if_pos rfl, if_pos (by omega)]
 have e14 : ∀ b, (List.set G4 (G.length + (Y.length + 2)) b)[G.length + (Y.length + 4)]? = some (.cells (trow (eraseT r))) := fun b => by
  rw [List.getElem?_set_ne (by omega)]; exact g14
 have g6 : G4[G.length]? = some (.cells [.int .i64 0, .int .i64 0, .int .i64 0, .int .i64 0, .int .i64 0]) := by
  rw [hG4 _ (by omega)]; simp
 have e6 : ∀ b, (List.set G4 (G.length + (Y.length + 2)) b)[G.length]? = some (.cells [.int .i64 0, .int .i64 0, .int .i64 0, .int .i64 0, .int .i64 0]) := fun b => by
  rw [List.getElem?_set_ne (by omega)]; exact g6
 have e6' : ∀ b b', ((List.set G4 (G.length + (Y.length + 2)) b).set G.length b')[G.length]? = some b' := fun b b' => by
  rw [List.getElem?_set, if_pos rfl, if_pos (by simp only [List.length_set]; omega)]
 have ss : ∀ b b', (List.set G4 (G.length + (Y.length + 2)) b).set (G.length + (Y.length + 2)) b' = List.set G4 (G.length + (Y.length + 2)) b' := fun b b' => List.set_set ..
 obtain ⟨Yf, hYf⟩ := heap_app (G := G) (G' := (List.set G4 (G.length + (Y.length + 2)) (.cells [.int .i64 0, .int .i64 r.elem, .int .i64 (k * (layF t F r.elem).size), .int .i64 0, .int .i64 0])).set G.length (.cells [.int .i64 0, .int .i64 r.elem, .int .i64 (k * (layF t F r.elem).size), .int .i64 0, .int .i64 0])) (by simp only [List.length_set]; omega) (fun j hj => by
  rw [List.getElem?_set_ne (by omega), List.getElem?_set_ne (by omega), hG4 j (by omega), List.getElem?_append_left hj])
 refine ⟨Yf, ?_⟩
 rw [← hYf]
 rw [hH3] at r12
 refine Ccall_over rfl rfl rfl rfl ?_
 show banswer _ (Brun tab 112 f19c _ _) = _
 unfold f19c
 rw [show f19l6 = f19m6 from rfl]
 unfold f19m6
 generalize ACode.region true f19r12 [0, 6, 8, 11, 14, 31, 32, 33] 0 = rg at *
 unfold layV at hb
 unfold trow eraseT at hrow e14 r12
 generalize plRows (layF t F a).pl = PL at *
 generalize (layF t F a).size = sa at *
 generalize (layF t F a).align = aa at *
 generalize (layF t F r.elem).size = sz at *
 clear hK lK lKM ht hg hx hH3 hold l3 h3 f11 f13 f14 hK3 hE hlook hl4 hA n14 n13 n11 hG4 g14 g11 lG4 u11 u13 u14 hmul hmul0 w1 g6 hYf hfine hlo hhi lT lR uK uKM hwhole h0
 simp only [List.append_assoc, List.cons_append, List.nil_append] at *
 have q1 : ¬ k < 0 := by omega
 have q2 : ¬ r.len ≤ k := by omega
 rw [h14] at hrow e14 r12
 have ww : IntKind.i64.wrap 1 = 1 := by decide
 repeat (any_goals first | simp (dsimp := false) (maxSteps := 4000000) (maxDischargeDepth := 8) (implicitDefEqProofs := false) [*, -Int.not_le, -Int.not_lt, amLt, f19c, f19m6, f19r0, f19r1, f19r2, f19r3, f19r4, f19r5, f19r6, f19r7, f19r8, f19r9, f39_p, f19q12, f19r10, f19r11, f19r13, f19r14, f19r15, f19r17, f19r18, f19r19, f19r20, f19r21, f19r22, f19l6_b, f19r12_u, f19r12_w, app_get, app_get0, app_set, app_set0, Brun_loop, Nat.add_assoc] | with_reducible refine ch_both (fun _ => ?_) (fun _ => ?_) | with_reducible refine ite_both (fun _ => ?_) (fun _ => ?_) | intro _)
end
theorem beg_whole {t : List TR} {F : Nat} {id : Int} (h : wholeS t id = true) : begE t F id = if bigF t F id = true then 51 else 0 := by
 have h0 : hasS t id = true := by
  unfold wholeS at h
  unfold hasS
  cases hg : getT t id with
  | none => rw [hg] at h; cases h
  | some z => rfl
 unfold begE
 rw [if_neg (by rw [h0]; decide), if_neg (by rw [h]; decide)]
theorem u64_nn (i : Int) : 0 ≤ IntKind.u64.wrap i := by
 have : IntKind.u64.wrap i = i % 18446744073709551616 := by simp [IntKind.wrap, IntKind.bits, IntKind.signed]
 rw [this]; omega
theorem arrays_law (rows : List TR) (c0 : Cap) (id n i : Int) (hcap : ∀ w ∈ rows, w.cap = .no) (hsz : ∀ w ∈ rows, w.tag.length ≤ 1048576 ∧ w.mem.length ≤ 16777216 ∧ ∀ m ∈ w.mem, m.1.length ≤ 1048576) (hlen : rows.length ≤ 16777216) (H : Heap) :
  ∃ G', Ccall tab 7 [.is (rows.map trow) c0, .int .i64 id, .int .i64 n, .int .i64 i] H = some (.bool true, G') := by
 obtain ⟨G, k1, hB⟩ := both_ok [] rows .no hcap hsz hlen
 have hh := heads_ok
 refine ⟨H, Ccall_own rfl rfl rfl rfl ?_⟩
 rcases hB with ⟨T, R, M, C, cap, es, ck, hat, hb⟩ | hb
 ·obtain ⟨rho0, F0, hx0, he, hl⟩ := tbl_of hcap (fun w hw => (hsz w hw).2.1) hat.acc
  have ht0 := hat.tab
  rw [← hl] at ht0
  rcases array_ok hx0.acc ht0 hat.map hat.keys hx0.sz id n with ⟨e, e0, ha⟩ | ⟨wid, wn, t2, G2, R2, a, r, acc2, ht2, sz2, g2, r14, re, rn, rm, wid2, ha⟩
  ·generalize rows.map trow = X at *
   clear hcap hsz hlen k1 hat hx0 he hl ht0
   repeat (any_goals first | simp (dsimp := false) (maxSteps := 4000000) (maxDischargeDepth := 8) (implicitDefEqProofs := false) [*, -Int.not_le, -Int.not_lt, amLt, f7c, f7r0, f7r1, f7r2, f7r3, f7r4, f7r5, f7r6, f7r7, f7r8, f7r9, f7r10, f7r11, f7r12, f7r13, f7r14, f7r15] | with_reducible refine ch_both (fun _ => ?_) (fun _ => ?_) | with_reducible refine ite_both (fun _ => ?_) (fun _ => ?_) | intro _)
  ·generalize rows.map trow = X at *
   clear hcap hsz hlen k1 hat hx0 he hl ht0 wid
   by_cases c1 : n < 1
   ·clear acc2 ht2 sz2 g2 r14 re rn rm wid2 wn
    repeat (any_goals first | simp (dsimp := false) (maxSteps := 4000000) (maxDischargeDepth := 8) (implicitDefEqProofs := false) [*, -Int.not_le, -Int.not_lt, amLt, f7c, f7r0, f7r1, f7r2, f7r3, f7r4, f7r5, f7r6, f7r7, f7r8, f7r9, f7r10, f7r11, f7r12, f7r13, f7r14, f7r15] | with_reducible refine ch_both (fun _ => ?_) (fun _ => ?_) | with_reducible refine ite_both (fun _ => ?_) (fun _ => ?_) | intro _)
   ·have hn : 1 ≤ n ∧ n ≤ 16384 := by
     unfold longS at wn
     simp only [decide_eq_true_eq] at wn
     omega
    obtain ⟨rho, hr⟩ := acc2.rank
    obtain ⟨F, hF⟩ := rho_max rho t2.length
    have hx : Tbl t2 rho F := ⟨acc2, hr, hF, sz2⟩
    have ga : getT t2 (a : Int) = some r := by
     unfold getT; rw [if_pos (by omega)]; exact g2
    have wa : wholeS t2 (a : Int) = true := by
     unfold wholeS
     rw [ga]
     simp only
     unfold wholeR
     rw [if_neg (by omega), if_pos r14, rn]
     simp only [decide_eq_true_eq]
     omega
    obtain ⟨ba, la⟩ := lay_arr hr hF ga r14 re rn rm
    have fin := (whole_fine acc2 hr hF (rho id.toNat + 1) id (by omega) wid2).1
    have flo := fin.lo
    have fhi := fin.hi
    obtain ⟨Y1, s1⟩ := size_ok hx G2 ht2 id
    obtain ⟨Y2, s2⟩ := size_ok hx (G2 ++ Y1) (ht2.app _) (a : Int)
    obtain ⟨Y3, a1⟩ := align_ok hx (G2 ++ Y1 ++ Y2) ((ht2.app _).app _) id
    obtain ⟨Y4, a2⟩ := align_ok hx (G2 ++ Y1 ++ Y2 ++ Y3) (((ht2.app _).app _).app _) (a : Int)
    have hb1 := beg_whole (F := F) wid2
    have hb2 := beg_whole (F := F) wa
    unfold sizE at s1 s2
    unfold aliE at a1 a2
    have hm1 := Int.mul_le_mul (a := n) (b := (layF t2 F id).size) (c := 16384) (d := 16385) hn.2 fhi (by omega) (by omega)
    have hm0 := Int.mul_nonneg (a := n) (b := (layF t2 F id).size) (by omega) (by omega)
    have wm : IntKind.i64.wrap (n * (layF t2 F id).size) = n * (layF t2 F id).size := IntWalk.i64_in _ (by omega)
    have wm' : IntKind.i64.wrap ((layF t2 F id).size * n) = n * (layF t2 F id).size := by rw [Int.mul_comm]; exact wm
    by_cases b1 : bigF t2 F id = true
    ·have b2 : bigF t2 F (a : Int) = true := by rw [ba, b1, Bool.or_true]
     rw [if_pos b1] at hb1
     rw [if_pos b2] at hb2
     rw [hb1] at s1 a1
     rw [hb2] at s2 a2
     simp only [Int.reduceEq, ↓reduceIte] at s1 s2 a1 a2
     clear acc2 ht2 sz2 g2 r14 re rn rm wid2 wn hr hF hx ga wa ba la fin flo fhi hb1 hb2 hm1 hm0 wm wm' b1 b2
     simp only [List.append_assoc] at *
     repeat (any_goals first | simp (dsimp := false) (maxSteps := 4000000) (maxDischargeDepth := 8) (implicitDefEqProofs := false) [*, -Int.not_le, -Int.not_lt, amLt, f7c, f7r0, f7r1, f7r2, f7r3, f7r4, f7r5, f7r6, f7r7, f7r8, f7r9, f7r10, f7r11, f7r12, f7r13, f7r14, f7r15] | with_reducible refine ch_both (fun _ => ?_) (fun _ => ?_) | with_reducible refine ite_both (fun _ => ?_) (fun _ => ?_) | intro _)
    ·rw [if_neg b1] at hb1
     have b1' : bigF t2 F id = false := by simpa using b1
     rw [hb1] at s1 a1
     simp only [↓reduceIte] at s1 a1
     by_cases b2 : bigF t2 F (a : Int) = true
     ·rw [if_pos b2] at hb2
      rw [hb2] at s2 a2
      have hgt : 16384 < n * (layF t2 F id).size := by
       rw [ba, b1', Bool.or_false] at b2
       simpa using b2
      simp only [Int.reduceEq, ↓reduceIte] at s2 a2
      generalize n * (layF t2 F id).size = pr at *
      generalize (layF t2 F id).size = sz at *
      generalize (layF t2 F id).align = al at *
      clear acc2 ht2 sz2 g2 r14 re rn rm wid2 wn hr hF hx ga wa ba la fin flo fhi hb1 hb2 hm1 hm0 wm b1 b1' b2
      simp only [List.append_assoc] at *
      repeat (any_goals first | simp (dsimp := false) (maxSteps := 4000000) (maxDischargeDepth := 8) (implicitDefEqProofs := false) [*, -Int.not_le, -Int.not_lt, amLt, f7c, f7r0, f7r1, f7r2, f7r3, f7r4, f7r5, f7r6, f7r7, f7r8, f7r9, f7r10, f7r11, f7r12, f7r13, f7r14, f7r15] | with_reducible refine ch_both (fun _ => ?_) (fun _ => ?_) | with_reducible refine ite_both (fun _ => ?_) (fun _ => ?_) | intro _)
     ·rw [if_neg b2] at hb2
      have b2' : bigF t2 F (a : Int) = false := by simpa using b2
      have la := la b2'
      rw [hb2] at s2 a2
      simp only [↓reduceIte, la] at s2 a2
      have wn2 : IntKind.u64.wrap n = n := by
       have : IntKind.u64.wrap n = n % 18446744073709551616 := by simp [IntKind.wrap, IntKind.bits, IntKind.signed]
       rw [this]; omega
      have u0 := u64_nn i
      have t0 : 0 ≤ (IntKind.u64.wrap i).tmod n ∧ (IntKind.u64.wrap i).tmod n < n := by
       rw [Int.tmod_eq_emod_of_nonneg u0]
       exact ⟨Int.emod_nonneg _ (by omega), Int.emod_lt_of_pos _ (by omega)⟩
      have wk : IntKind.i64.wrap ((IntKind.u64.wrap i).tmod n) = (IntKind.u64.wrap i).tmod n := IntWalk.i64_in _ (by omega)
      have hw1 := fun c => walk1_ok hx (G2 ++ Y1 ++ Y2 ++ Y3 ++ Y4 ++ [.free]) (((((ht2.app _).app _).app _).app _).app _) (a : Int) ((IntKind.u64.wrap i).tmod n) c ga r14 hb2 t0.1 (by rw [rn]; exact t0.2) (by rw [rn]; exact hn.2)
      obtain ⟨Y5, w5⟩ := hw1 .full
      rw [re] at w5
      have hk1 := Int.mul_le_mul (a := (IntKind.u64.wrap i).tmod n) (b := (layF t2 F id).size) (c := 16384) (d := 16385) (by omega) fhi (by omega) (by omega)
      have hk0 := Int.mul_nonneg (a := (IntKind.u64.wrap i).tmod n) (b := (layF t2 F id).size) t0.1 (by omega)
      have wmk : IntKind.i64.wrap ((IntKind.u64.wrap i).tmod n * (layF t2 F id).size) = (IntKind.u64.wrap i).tmod n * (layF t2 F id).size := IntWalk.i64_in _ (by omega)
      have n0 : ¬ n = 0 := by omega
      clear hw1
      generalize hkk : (IntKind.u64.wrap i).tmod n = kk at *
      generalize (layF t2 F id).size = sz at *
      generalize (layF t2 F id).align = al at *
      generalize hpr : n * sz = pr at *
      generalize hpk : kk * sz = pk at *
      clear acc2 ht2 sz2 g2 r14 re rn rm wid2 wn hr hF hx ga wa ba la fin flo fhi hb1 hb2 hm1 hm0 b1 b1' b2 b2' u0 t0 hk1 hk0
      simp only [List.append_assoc] at *
      repeat (any_goals first | simp (dsimp := false) (maxSteps := 4000000) (maxDischargeDepth := 8) (implicitDefEqProofs := false) [*, -Int.not_le, -Int.not_lt, amLt, f7c, f7r0, f7r1, f7r2, f7r3, f7r4, f7r5, f7r6, f7r7, f7r8, f7r9, f7r10, f7r11, f7r12, f7r13, f7r14, f7r15, app_get, app_get0, app_set, app_set0, Nat.add_assoc] | with_reducible refine ch_both (fun _ => ?_) (fun _ => ?_) | with_reducible refine ite_both (fun _ => ?_) (fun _ => ?_) | intro _)
 ·generalize rows.map trow = X at *
  clear hcap hsz hlen k1
  repeat (any_goals first | simp (dsimp := false) (maxSteps := 4000000) (maxDischargeDepth := 8) (implicitDefEqProofs := false) [*, -Int.not_le, -Int.not_lt, amLt, f7c, f7r0, f7r1, f7r2, f7r3, f7r4, f7r5, f7r6, f7r7, f7r8, f7r9, f7r10, f7r11, f7r12, f7r13, f7r14, f7r15] | with_reducible refine ch_both (fun _ => ?_) (fun _ => ?_) | with_reducible refine ite_both (fun _ => ?_) (fun _ => ?_) | intro _)
theorem arrays_args : ∀ xs, ArgsL 1048576 f7s xs → ∃ h', Ccall tab 7 xs [] = some (.bool true, h') := by
 intro xs hxs
 obtain ⟨x, _, rfl, h1, y, _, rfl, h2, z, _, rfl, h3, u, _, rfl, h4, rfl⟩ := hxs
 obtain ⟨rows, rfl, hl, hw⟩ := arg_rows h1
 obtain ⟨id, rfl, _⟩ := arg_int h2
 obtain ⟨n, rfl, _⟩ := arg_int h3
 obtain ⟨i, rfl, _⟩ := arg_int h4
 obtain ⟨g1, g2⟩ := trok_sz hw
 exact arrays_law rows .no id n i g1 g2 (by omega) []
end Go.Proofs.YtfhijkapcdmdnaaDoor
