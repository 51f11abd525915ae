/- Runs, places, words. -/
import Derived.Test.YtmpdpjkblcdfkaaGreatDoorZa
import Derived.Test.YtmpdpjkblcdfkaaGreatDoorAmW
namespace Go.Proofs.YtmpdpjkblcdfkaaGreatDoor
open Go.AM
set_option maxRecDepth 20000
set_option maxHeartbeats 4000000
set_option linter.unusedSimpArgs false
set_option linter.unusedVariables false
attribute [local congr] andF_cg onF_cg bthen_cg bkeep_cg bcond_cg guardV_cg putF_cg guardF_cg ite_cg stepsF_cg
attribute [local simp] Brun_skip Brun_exit Brun_ret Brun_seq Brun_cond Brun_block Brun_region bthen_normal bthen_ret bthen_exit bblock_normal bblock_ret bblock_exit bkeep_some andF_some onF_some onF_none guardF_none guardF_some guardV_tup putF_some putF_none stepsF_nil stepsF_cons upd_apply ofL_cons ofL_nil bown_normal bown_ret banswer_normal banswer_ret aresults ares List.replicate stepF_call stepF_callD stepF_move stepF_pick stepF_alloc stepF_allocV stepF_box stepF_boxV stepF_build stepF_buildSlice stepF_buildSliceV stepF_load stepF_store stepF_nilCheck stepF_bin stepF_eq stepF_un stepF_conv stepF_strId stepF_toStr stepF_toBytes stepF_fn stepF_mkSlice stepF_slice stepF_strSlice stepF_fieldAddr stepF_field stepF_idxAddr stepF_idxArr stepF_index stepF_strIndex stepF_extract stepF_len0 stepF_len1 stepF_min stepF_max stepF_append stepF_appendF appF_none appF_row stepF_mkMap stepF_mkIface stepF_lookup stepF_mapUpdate stepF_ext aext_idx aext_count aext_same cellsF newF abin_add abin_sub abin_mul abin_quo abin_rem abin_eql abin_neq abin_lss abin_leq abin_gtr abin_geq abin_and abin_or abin_xor abin_shl abin_shr abin_seql abin_sneq aun_not aun_neg aeq_bool aeq_agg eqCells_nil eqCells_int eqCells_bool eqCells_str cellsOf_agg cellsOf_int cellsOf_bool cellsOf_str cellsOf_is cellsOf_ms cellsOf_fn cellsOf_nilp cellsOf_mp cellsOf_mm cellsOf_nilm cellsOf_nili cellsOf_ifc cellsOf_ip cget_one cget_agg ev_t ev_c fillp_nil fillp_cons isSc_int isSc_bool isSc_str isSc_is isSc_ms isSc_fn isSc_mm isSc_mp isSc_ip isSc_nilp isSc_nilm isSc_nili isSc_nilf isSc_ifc splice chunk strip strip.stripL imm imm.immL Areify_int Areify_bool Areify_str Areify_is Areify_nilp Areify_tup Areify_agg AreifyL andF_chi andF_ch onF_chi onF_ch bthen_ch bthen_chi bblock_ch bblock_chi bkeep_ch bkeep_chi bown_ch bown_chi banswer_ch banswer_chi isSome_ch bcond_ch guardV_ch1 guardV_ch0 chF_true chF_false chF_not
attribute [local simp ↓] andF_some andF_chi andF_ch onF_some onF_none onF_chi onF_ch bthen_normal bthen_ret bthen_exit bthen_ch bthen_chi bblock_normal bblock_ret bblock_exit bblock_ch bblock_chi bkeep_some bkeep_ch bkeep_chi bown_normal bown_ret bown_ch bown_chi banswer_normal banswer_ret banswer_ch banswer_chi bcond_ch guardV_ch1 guardV_ch0 guardV_tup guardF_none guardF_some putF_some putF_none stepsF_nil stepsF_cons chF_true chF_false Brun_seq Brun_cond Brun_block Brun_region Brun_skip Brun_ret Brun_exit stepF_call stepF_callD stepF_move stepF_pick stepF_alloc stepF_allocV stepF_box stepF_boxV stepF_build stepF_buildSlice stepF_buildSliceV stepF_load stepF_store stepF_nilCheck stepF_bin stepF_eq stepF_un stepF_conv stepF_strId stepF_toStr stepF_toBytes stepF_fn stepF_mkSlice stepF_slice stepF_strSlice stepF_fieldAddr stepF_field stepF_idxAddr stepF_idxArr stepF_index stepF_strIndex stepF_extract stepF_len0 stepF_len1 stepF_min stepF_max stepF_append stepF_appendF stepF_mkMap stepF_mkIface stepF_lookup stepF_mapUpdate stepF_ext
set_option maxHeartbeats 2000000
theorem w64 (n : Nat) (h : n < 4611686018427387904) : IntKind.i64.wrap (n + 1) = (n : Int) + 1 := IntWalk.i64_in _ (by omega)
theorem run_loop (g : Nat) (p : Nat → Bool) (hg : ∀ h (b : UInt8), Ccall tab g [.int .u8 b.toNat] h = some (.bool (p b.toNat), h)) (s : List UInt8) (hs : s.length ≤ 16777216) (h : Heap) (n : Nat) (hn : n ≤ s.length) (h1 : ∀ j b, j < n → s[j]? = some b → p b.toNat = true) (h2 : ∀ b, s[n]? = some b → p b.toNat = false) : ∀ (m i : Nat), i + m = n →
    Brun tab 20 (.loop f32l2) (ofL [(0, .str s), (1, .fn g [] []), (5, .int .i64 i)]) h = some (.exit 0, ofL [(0, .str s), (1, .fn g [] []), (5, .int .i64 n), (16, .bool false)], h) := by
  intro m
  induction m with
  | zero =>
    intro i hi
    have hi' : i = n := by omega
    subst hi'
    rw [Brun_loop]
    cases hb : s[i]? with
    | none =>
      have e3 : (s.length : Int) ≤ i := by have := List.getElem?_eq_none_iff.1 hb; omega
      clear h1 h2 hn hs
      repeat (any_goals first | simp (dsimp := false) (maxSteps := 4000000) (maxDischargeDepth := 8) (implicitDefEqProofs := false) [*, -Int.not_le, -Int.not_lt, amLt, f32c, f32m2, f32r0, f32r1, f32r2, f32r3, f32r4, f32l2_b] | with_reducible refine ch_both (fun _ => ?_) (fun _ => ?_) | with_reducible refine ite_both (fun _ => ?_) (fun _ => ?_) | intro _)
    | some b =>
      have e3 : ¬ (s.length : Int) ≤ i := by have := (List.getElem?_eq_some_iff.1 hb).1; omega
      have hp := h2 b hb
      clear h1 h2 hn hs
      repeat (any_goals first | simp (dsimp := false) (maxSteps := 4000000) (maxDischargeDepth := 8) (implicitDefEqProofs := false) [*, -Int.not_le, -Int.not_lt, amLt, f32c, f32m2, f32r0, f32r1, f32r2, f32r3, f32r4, f32l2_b] | with_reducible refine ch_both (fun _ => ?_) (fun _ => ?_) | with_reducible refine ite_both (fun _ => ?_) (fun _ => ?_) | intro _)
  | succ m ih =>
    intro i hi
    have hlt : i < s.length := by omega
    have hb : s[i]? = some s[i] := List.getElem?_eq_getElem hlt
    have hp := h1 i s[i] (by omega) hb
    generalize s[i] = b at hb hp
    have e3 : ¬ (s.length : Int) ≤ i := by omega
    have hw := w64 i (by omega)
    have ih2 := ih (i + 1) (by omega)
    push_cast at ih2
    clear ih h1 h2 hn hs hlt
    rw [Brun_loop]
    repeat (any_goals first | simp (dsimp := false) (maxSteps := 4000000) (maxDischargeDepth := 8) (implicitDefEqProofs := false) [*, -Int.not_le, -Int.not_lt, amLt, f32c, f32m2, f32r0, f32r1, f32r2, f32r3, f32r4, f32l2_b] | with_reducible refine ch_both (fun _ => ?_) (fun _ => ?_) | with_reducible refine ite_both (fun _ => ?_) (fun _ => ?_) | intro _)

/-- How many bytes at the beginning are such. -/
def runLen (p : Nat → Bool) (s : List UInt8) : Nat := (s.takeWhile fun b => p b.toNat).length
theorem runLen_le (p : Nat → Bool) (s : List UInt8) : runLen p s ≤ s.length := (List.takeWhile_prefix _).length_le
theorem runLen_in (p : Nat → Bool) : ∀ (s : List UInt8) (j : Nat) b, j < runLen p s → s[j]? = some b → p b.toNat = true := by
  intro s
  induction s with
  | nil => intro j b h; simp [runLen] at h
  | cons a t ih =>
    intro j b h hb
    unfold runLen at h ih
    rw [List.takeWhile_cons] at h
    split at h
    · cases j with
      | zero => simp at hb; subst hb; assumption
      | succ j => exact ih j b (by simpa using h) (by simpa using hb)
    · simp at h
theorem runLen_out (p : Nat → Bool) : ∀ (s : List UInt8) b, s[runLen p s]? = some b → p b.toNat = false := by
  intro s
  induction s with
  | nil => intro b h; simp at h
  | cons a t ih =>
    intro b hb
    unfold runLen at hb ih
    rw [List.takeWhile_cons] at hb
    split at hb
    · exact ih b (by simpa using hb)
    · rename_i q
      simp at hb
      subst hb
      simpa using q
theorem run_ok (g : Nat) (p : Nat → Bool) (hg : ∀ h (b : UInt8), Ccall tab g [.int .u8 b.toNat] h = some (.bool (p b.toNat), h)) (h : Heap) (s : List UInt8) (hs : s.length ≤ 16777216) :
    Ccall tab 32 [.str s, .fn g [] []] h = some (.int .i64 (runLen p s), h) := by
  have lp := run_loop g p hg s hs [] (runLen p s) (runLen_le p s) (runLen_in p s) (runLen_out p s) (runLen p s) 0 (by omega)
  simp only [Int.natCast_zero] at lp
  refine Ccall_own rfl rfl rfl rfl ?_
  clear hs hg
  repeat (any_goals first | simp (dsimp := false) (maxSteps := 4000000) (maxDischargeDepth := 8) (implicitDefEqProofs := false) [*, -Int.not_le, -Int.not_lt, amLt, f32c, f32m2, f32r0, f32r1, f32r2, f32r3, f32r4, f32l2_b] | with_reducible refine ch_both (fun _ => ?_) (fun _ => ?_) | with_reducible refine ite_both (fun _ => ?_) (fun _ => ?_) | intro _)
/-- Keywords. -/
def kws : List (List UInt8) := [[95, 66, 111, 111, 108], [98, 114, 101, 97, 107], [99, 104, 97, 114], [99, 111, 110, 116, 105, 110, 117, 101], [100, 111], [101, 108, 115, 101], [101, 110, 117, 109], [102, 111, 114], [105, 102], [105, 110, 116], [108, 111, 110, 103], [111, 102, 102, 115, 101, 116, 111, 102], [114, 101, 116, 117, 114, 110], [115, 104, 111, 114, 116], [115, 105, 103, 110, 101, 100], [115, 105, 122, 101, 111, 102], [115, 116, 97, 116, 105, 99], [115, 116, 114, 117, 99, 116], [116, 121, 112, 101, 100, 101, 102], [117, 110, 105, 111, 110], [117, 110, 115, 105, 103, 110, 101, 100], [118, 111, 105, 100], [119, 104, 105, 108, 101]]
def isKw (s : List UInt8) : Bool := decide (s ∈ kws)
theorem keyword_ok (h : Heap) (s : List UInt8) : Ccall tab 34 [.str s] h = some (.bool (isKw s), h) := by
  refine Ccall_own rfl rfl rfl rfl ?_
  repeat (any_goals first | simp (dsimp := false) (maxSteps := 4000000) (maxDischargeDepth := 8) (implicitDefEqProofs := false) [*, -Int.not_le, -Int.not_lt, amLt, f34c, f34r0, f34r1, f34r2, f34r3, f34r4, f34r5, f34r6, f34r7, f34r8, f34r9, f34r10, f34r11, f34r12, f34r13, f34r14, f34r15, f34r16, f34r17, f34r18, f34r19, f34r20, f34r21, f34r22, f34r23, f34r24, f34r25, f34r26, isKw, kws, List.mem_cons] | with_reducible refine ch_both (fun _ => ?_) (fun _ => ?_) | with_reducible refine ite_both (fun _ => ?_) (fun _ => ?_) | intro _)
/-- The last place of a byte among the first n. -/
def lastIx (s : List UInt8) (c : UInt8) : Nat → Int
  | 0 => -1
  | n + 1 => if s[n]? = some c then (n : Int) else lastIx s c n
theorem lastIx_lt (s : List UInt8) (c : UInt8) : ∀ n, -1 ≤ lastIx s c n ∧ lastIx s c n < n := by
  intro n
  induction n with
  | zero => simp [lastIx]
  | succ n ih => unfold lastIx; split <;> omega
theorem u8_inj (a b : UInt8) : ((a.toNat : Int) = b.toNat) ↔ a = b := by
  rw [Int.ofNat_inj]
  exact ⟨fun h => UInt8.toNat_inj.1 h, fun h => by rw [h]⟩
theorem last_loop (s : List UInt8) (c : UInt8) (hs : s.length ≤ 16777216) (h : Heap) : ∀ (n : Nat), n ≤ s.length →
    Brun tab 19 (.loop f68l2) (ofL [(0, .str s), (1, .int .u8 c.toNat), (5, .int .i64 ((n : Int) - 1))]) h =
      if lastIx s c n = -1 then some (.exit 0, ofL [(0, .str s), (1, .int .u8 c.toNat), (5, .int .i64 (-1)), (10, .bool false)], h) else some (.ret, ofL [(4, .int .i64 (lastIx s c n))], h) := by
  intro n
  induction n with
  | zero =>
    intro _
    rw [Brun_loop]
    repeat (any_goals first | simp (dsimp := false) (maxSteps := 4000000) (maxDischargeDepth := 8) (implicitDefEqProofs := false) [*, -Int.not_le, -Int.not_lt, amLt, f68c, f68m2, f68r0, f68r1, f68r2, f68r3, f68r4, f68r5, f68r6, f68l2_b, lastIx] | with_reducible refine ch_both (fun _ => ?_) (fun _ => ?_) | with_reducible refine ite_both (fun _ => ?_) (fun _ => ?_) | intro _)
  | succ n ih =>
    intro hn
    have hlt : n < s.length := by omega
    have hb : s[n]? = some s[n] := List.getElem?_eq_getElem hlt
    generalize s[n] = b at hb
    have ih2 := ih (by omega)
    have e1 : ((n + 1 : Nat) : Int) - 1 = n := by omega
    have hw : IntKind.i64.wrap ((n : Int) - 1) = n - 1 := IntWalk.i64_in _ (by omega)
    have hne : ¬ (n : Int) = -1 := by omega
    rw [Brun_loop, e1]
    clear ih hn hs e1 hlt
    repeat (any_goals first | simp (dsimp := false) (maxSteps := 4000000) (maxDischargeDepth := 8) (implicitDefEqProofs := false) [*, -Int.not_le, -Int.not_lt, amLt, f68c, f68m2, f68r0, f68r1, f68r2, f68r3, f68r4, f68r5, f68r6, f68l2_b, lastIx, u8_inj] | with_reducible refine ch_both (fun _ => ?_) (fun _ => ?_) | with_reducible refine ite_both (fun _ => ?_) (fun _ => ?_) | intro _)
theorem last_ok' (h : Heap) (s : List UInt8) (c : UInt8) (hs : s.length ≤ 16777216) : Ccall tab 68 [.str s, .int .u8 c.toNat] h = some (.int .i64 (lastIx s c s.length), h) := by
  have lp := last_loop s c hs [] s.length (Nat.le_refl _)
  have hw : IntKind.i64.wrap ((s.length : Int) - 1) = s.length - 1 := IntWalk.i64_in _ (by omega)
  refine Ccall_own rfl rfl rfl rfl ?_
  clear hs
  by_cases q : lastIx s c s.length = -1
  · repeat (any_goals first | simp (dsimp := false) (maxSteps := 4000000) (maxDischargeDepth := 8) (implicitDefEqProofs := false) [*, -Int.not_le, -Int.not_lt, amLt, f68c, f68m2, f68r0, f68r1, f68r2, f68r3, f68r4, f68r5, f68r6, f68l2_b] | with_reducible refine ch_both (fun _ => ?_) (fun _ => ?_) | with_reducible refine ite_both (fun _ => ?_) (fun _ => ?_) | intro _)
  · repeat (any_goals first | simp (dsimp := false) (maxSteps := 4000000) (maxDischargeDepth := 8) (implicitDefEqProofs := false) [*, -Int.not_le, -Int.not_lt, amLt, f68c, f68m2, f68r0, f68r1, f68r2, f68r3, f68r4, f68r5, f68r6, f68l2_b] | with_reducible refine ch_both (fun _ => ?_) (fun _ => ?_) | with_reducible refine ite_both (fun _ => ?_) (fun _ => ?_) | intro _)
theorem last_ok (h : Heap) (s : List UInt8) (hs : s.length ≤ 16777216) : Ccall tab 47 [.str s, .int .u8 10] h = some (.int .i64 (lastIx s 10 s.length), h) := by
  have l1 := fun h => last_ok' h s 10 hs
  rw [show (((10 : UInt8).toNat : Nat) : Int) = 10 from rfl] at l1
  refine Ccall_own rfl rfl rfl rfl ?_
  clear hs
  repeat (any_goals first | simp (dsimp := false) (maxSteps := 4000000) (maxDischargeDepth := 8) (implicitDefEqProofs := false) [*, -Int.not_le, -Int.not_lt, amLt, f47c, f47r0, f47r1] | with_reducible refine ch_both (fun _ => ?_) (fun _ => ?_) | with_reducible refine ite_both (fun _ => ?_) (fun _ => ?_) | intro _)
theorem count_ok (h : Heap) (s : List UInt8) : Ccall tab 48 [.str s, .str [10]] h = some (.int .i64 (s.count 10 : Nat), h) := by
  refine Ccall_own rfl rfl rfl rfl ?_
  repeat (any_goals first | simp (dsimp := false) (maxSteps := 4000000) (maxDischargeDepth := 8) (implicitDefEqProofs := false) [*, -Int.not_le, -Int.not_lt, amLt, f48c, f48m6, f48r0, f48r1, f48r2, f48r3, f48r4, f48r5, f48r6, f48r7, f48r8, f48r9, f48r10, f48l6_b, Go.Lib.countByte, show ((10 : Int).toNat.toUInt8) = 10 from rfl] | with_reducible refine ch_both (fun _ => ?_) (fun _ => ?_) | with_reducible refine ite_both (fun _ => ?_) (fun _ => ?_) | intro _)
theorem lastIx_take (s : List UInt8) (c : UInt8) : ∀ (n k : Nat), n ≤ k → lastIx (s.take k) c n = lastIx s c n := by
  intro n
  induction n with
  | zero => intro k _; rfl
  | succ n ih => intro k hk; simp only [lastIx]; rw [List.getElem?_take_of_lt (by omega), ih k (by omega)]
/-- Where a byte stands: its line, its column. -/
def lineAt (s : List UInt8) (n : Nat) : Int := 1 + ((s.take n).count 10 : Nat)
def colAt (s : List UInt8) (n : Nat) : Int := n - lastIx s 10 n
def offAt (s : List UInt8) (off : Int) : Nat := (max 0 (min off s.length)).toNat
def atV (s : List UInt8) (n : Nat) : AV := .agg [.int .i64 (lineAt s n), .int .i64 (colAt s n), .int .i64 n]
theorem offAt_le (s : List UInt8) (off : Int) : offAt s off ≤ s.length := by unfold offAt; omega
theorem obound_some (e : Env) (y d : Nat) (x : AO) : obound e y d (some x) = abound y (ev e x) := rfl
theorem obound_none (e : Env) (y d : Nat) : obound e y d none = some d := rfl
theorem abound_int (y : Nat) (k : IntKind) (i : Int) : abound y (.int k i) = if 0 ≤ i ∧ i ≤ y then some i.toNat else none := rfl
theorem at_ok (h : Heap) (s : List UInt8) (off : Int) (hs : s.length ≤ 1048576) : Ccall tab 22 [.str s, .int .i64 off] h = some (atV s (offAt s off), h) := by
  have hl := offAt_le s off
  have e1 : (if (if off ≤ (s.length : Int) then off else (s.length : Int)) ≤ 0 then 0 else (if off ≤ (s.length : Int) then off else (s.length : Int))) = (offAt s off : Int) := by unfold offAt; split <;> split <;> omega
  generalize hn : offAt s off = n at hl e1
  have l1 := fun h => last_ok h (s.take n) (by simp; omega)
  have hlen : (s.take n).length = n := by simp; omega
  rw [hlen, lastIx_take s 10 n n (Nat.le_refl _)] at l1
  have hle : (n : Int) ≤ s.length := by omega
  have hb := lastIx_lt s 10 n
  have hc : (s.take n).count 10 ≤ (s.take n).length := List.count_le_length
  have w1 : IntKind.i64.wrap (1 + ((s.take n).count 10 : Nat)) = lineAt s n := IntWalk.i64_in _ (by rw [hlen] at hc; omega)
  have w2 : IntKind.i64.wrap ((n : Int) - lastIx s 10 n) = colAt s n := IntWalk.i64_in _ (by omega)
  refine Ccall_own rfl rfl rfl rfl ?_
  clear hs hl hb hc hlen hn
  repeat (any_goals first | simp (dsimp := false) (maxSteps := 4000000) (maxDischargeDepth := 8) (implicitDefEqProofs := false) [*, -Int.not_le, -Int.not_lt, amLt, f22c, f22r0, f22r1, f22r2, f22r3, f22r4, count_ok, atV, obound_some, obound_none, abound_int] | with_reducible refine ch_both (fun _ => ?_) (fun _ => ?_) | with_reducible refine ite_both (fun _ => ?_) (fun _ => ?_) | intro _)
theorem lastIx_succ (s : List UInt8) (c : UInt8) (n : Nat) : lastIx s c (n + 1) = if s[n]? = some c then (n : Int) else lastIx s c n := rfl
theorem count_succ (s : List UInt8) (n : Nat) (b : UInt8) (hb : s[n]? = some b) : ((s.take (n + 1)).count 10) = (s.take n).count 10 + if b = 10 then 1 else 0 := by
  rw [List.take_add_one, hb]
  by_cases q : b = 10 <;> simp [q]
def strs (l : List (List UInt8)) : List (List AV) := l.map fun k => [.str k]
theorem strs_len (l : List (List UInt8)) : (strs l).length = l.length := by simp [strs]
theorem strs_get {l : List (List UInt8)} {i : Nat} {k : List UInt8} (h : l[i]? = some k) : (strs l)[i]? = some [.str k] := by simp [strs, h]
theorem kws_ok (h : Heap) : Ccall tab 66 [] h = some (.is (strs kws) .no, h) := by
  refine Ccall_run (w := []) 100 ?_
  kernel_rfl
theorem mem_drop {l : List (List UInt8)} {i : Nat} {k s : List UInt8} (h : l[i]? = some k) : s ∈ l.drop i ↔ s = k ∨ s ∈ l.drop (i + 1) := by
  obtain ⟨h1, h2⟩ := List.getElem?_eq_some_iff.1 h
  rw [List.drop_eq_getElem_cons h1, h2, List.mem_cons]
theorem rkw_loop (s : List UInt8) (l : List (List UInt8)) (hs : l.length ≤ 1000) (h : Heap) : ∀ (m i : Nat), i + m = l.length →
    Brun tab 18 (.loop f43l3) (ofL [(0, .str s), (3, .is (strs l) .no), (4, .int .i64 i)]) h =
      if s ∈ l.drop i then some (.ret, ofL [(2, .bool true)], h) else some (.exit 0, ofL [(0, .str s), (3, .is (strs l) .no), (4, .int .i64 l.length), (9, .bool false)], h) := by
  intro m
  induction m with
  | zero =>
    intro i hi
    have e1 : ¬ s ∈ l.drop i := by rw [List.drop_of_length_le (by omega)]; exact List.not_mem_nil
    have e2 : (l.length : Int) = i := by omega
    rw [Brun_loop, if_neg e1]
    clear hs e1 hi
    repeat (any_goals first | simp (dsimp := false) (maxSteps := 4000000) (maxDischargeDepth := 8) (implicitDefEqProofs := false) [*, -Int.not_le, -Int.not_lt, amLt, f43c, f43m3, f43r0, f43r1, f43r2, f43r3, f43r4, f43r5, f43r6, f43r7, f43l3_b, strs_len] | with_reducible refine ch_both (fun _ => ?_) (fun _ => ?_) | with_reducible refine ite_both (fun _ => ?_) (fun _ => ?_) | intro _)
  | succ m ih =>
    intro i hi
    have hlt : i < l.length := by omega
    have hb : l[i]? = some l[i] := List.getElem?_eq_getElem hlt
    generalize l[i] = k at hb
    have e3 : ¬ (l.length : Int) ≤ i := by omega
    have hw := w64 i (by omega)
    have hm := mem_drop (s := s) hb
    have hg := strs_get hb
    have ih2 := ih (i + 1) (by omega)
    push_cast at ih2
    rw [Brun_loop]
    by_cases q : s = k
    · subst q
      rw [if_pos (hm.2 (.inl rfl))]
      clear ih ih2 hs hlt hb hm hi
      repeat (any_goals first | simp (dsimp := false) (maxSteps := 4000000) (maxDischargeDepth := 8) (implicitDefEqProofs := false) [*, -Int.not_le, -Int.not_lt, amLt, f43c, f43m3, f43r0, f43r1, f43r2, f43r3, f43r4, f43r5, f43r6, f43r7, f43l3_b, strs_len] | with_reducible refine ch_both (fun _ => ?_) (fun _ => ?_) | with_reducible refine ite_both (fun _ => ?_) (fun _ => ?_) | intro _)
    · have q' : ¬ k = s := fun e => q e.symm
      simp only [hm, q, false_or]
      clear ih hs hlt hb hm hi
      repeat (any_goals first | simp (dsimp := false) (maxSteps := 4000000) (maxDischargeDepth := 8) (implicitDefEqProofs := false) [*, -Int.not_le, -Int.not_lt, amLt, f43c, f43m3, f43r0, f43r1, f43r2, f43r3, f43r4, f43r5, f43r6, f43r7, f43l3_b, strs_len] | with_reducible refine ch_both (fun _ => ?_) (fun _ => ?_) | with_reducible refine ite_both (fun _ => ?_) (fun _ => ?_) | intro _)
theorem rkw_ok (h : Heap) (s : List UInt8) : Ccall tab 43 [.str s] h = some (.bool (isKw s), h) := by
  have lp := rkw_loop s kws (by decide) [] 23 0 rfl
  simp only [Int.natCast_zero, List.drop_zero] at lp
  refine Ccall_own rfl rfl rfl rfl ?_
  by_cases q : s ∈ kws
  · have e : isKw s = true := by simpa [isKw] using q
    rw [if_pos q] at lp
    repeat (any_goals first | simp (dsimp := false) (maxSteps := 4000000) (maxDischargeDepth := 8) (implicitDefEqProofs := false) [*, -Int.not_le, -Int.not_lt, amLt, f43c, f43m3, f43r0, f43r1, f43r2, f43r3, f43r4, f43r5, f43r6, f43r7, f43l3_b, kws_ok] | with_reducible refine ch_both (fun _ => ?_) (fun _ => ?_) | with_reducible refine ite_both (fun _ => ?_) (fun _ => ?_) | intro _)
  · have e : isKw s = false := by simpa [isKw] using q
    rw [if_neg q] at lp
    repeat (any_goals first | simp (dsimp := false) (maxSteps := 4000000) (maxDischargeDepth := 8) (implicitDefEqProofs := false) [*, -Int.not_le, -Int.not_lt, amLt, f43c, f43m3, f43r0, f43r1, f43r2, f43r3, f43r4, f43r5, f43r6, f43r7, f43l3_b, kws_ok] | with_reducible refine ch_both (fun _ => ?_) (fun _ => ?_) | with_reducible refine ite_both (fun _ => ?_) (fun _ => ?_) | intro _)
def allTail (s : List UInt8) : Bool := s.all fun b => isTail b.toNat
theorem tail_or (b : UInt8) : isTail b.toNat = (isLet b.toNat || isDig b.toNat) := rfl
theorem drop_get {s : List UInt8} {i : Nat} {b : UInt8} (h : s[i]? = some b) : s.drop i = b :: s.drop (i + 1) := by
  obtain ⟨h1, h2⟩ := List.getElem?_eq_some_iff.1 h
  rw [List.drop_eq_getElem_cons h1, h2]
/-- Is a text a name (or a keyword)? -/
def isWord (s : List UInt8) : Bool := match s with
  | [] => false
  | b :: _ => isLet b.toNat && allTail s && decide (s.length ≤ 63)
/-- A token, as the machine has it. -/
def tokV (k : Int) (s : List UInt8) (n l c o : Int) : AV := .agg [.int .i64 k, .str s, .int .i64 n, .int .i64 l, .int .i64 c, .int .i64 o]
/-- What 'one' answers of a word. -/
def oneWord (s : List UInt8) : AV :=
  if 63 < runLen isTail s then .tup [tokV 0 [] 0 0 0 0, .int .i64 0, .int .i64 22]
  else .tup [tokV (if isKw (s.take (runLen isTail s)) = true then 2 else 1) (s.take (runLen isTail s)) 0 0 0 0, .int .i64 (runLen isTail s), .int .i64 0]
theorem one_word (h : Heap) (s : List UInt8) (b : UInt8) (hs : s.length ≤ 16777216) (h0 : s[0]? = some b) (hb : isLet b.toNat = true) : Ccall tab 16 [.str s] h = some (oneWord s, h) := by
  have hr := fun h => run_ok 33 isTail tail_ok h s hs
  have hle := runLen_le isTail s
  unfold oneWord tokV
  generalize runLen isTail s = n at *
  have h1 : (n : Int) ≤ s.length := by omega
  refine Ccall_own rfl rfl rfl rfl ?_
  by_cases h3 : 63 < n
  · have h3' : ¬ (n : Int) ≤ 63 := by omega
    rw [if_pos h3]
    clear hs hle h3
    repeat (any_goals first | simp (dsimp := false) (maxSteps := 4000000) (maxDischargeDepth := 8) (implicitDefEqProofs := false) [*, -Int.not_le, -Int.not_lt, amLt, f16c, f16r0, f16r1, f16r2, f16r3, f16r4, f16r5, f16r6, f16r7, f16r8, f16r9, f16r10, f16r11, f16r12, f16r13, f16r14, f16r15, f16r16, f16r17, f16r18, f16r19, f16r20, f16r21, f16r22, f16r23, f16r24, f16r25, letter_ok] | with_reducible refine ch_both (fun _ => ?_) (fun _ => ?_) | with_reducible refine ite_both (fun _ => ?_) (fun _ => ?_) | intro _)
  · have h3' : (n : Int) ≤ 63 := by omega
    rw [if_neg h3]
    clear hs hle h3
    cases hk : isKw (s.take n)
    · repeat (any_goals first | simp (dsimp := false) (maxSteps := 4000000) (maxDischargeDepth := 8) (implicitDefEqProofs := false) [*, -Int.not_le, -Int.not_lt, amLt, f16c, f16r0, f16r1, f16r2, f16r3, f16r4, f16r5, f16r6, f16r7, f16r8, f16r9, f16r10, f16r11, f16r12, f16r13, f16r14, f16r15, f16r16, f16r17, f16r18, f16r19, f16r20, f16r21, f16r22, f16r23, f16r24, f16r25, letter_ok, keyword_ok, obound_some, obound_none, abound_int] | with_reducible refine ch_both (fun _ => ?_) (fun _ => ?_) | with_reducible refine ite_both (fun _ => ?_) (fun _ => ?_) | intro _)
    · repeat (any_goals first | simp (dsimp := false) (maxSteps := 4000000) (maxDischargeDepth := 8) (implicitDefEqProofs := false) [*, -Int.not_le, -Int.not_lt, amLt, f16c, f16r0, f16r1, f16r2, f16r3, f16r4, f16r5, f16r6, f16r7, f16r8, f16r9, f16r10, f16r11, f16r12, f16r13, f16r14, f16r15, f16r16, f16r17, f16r18, f16r19, f16r20, f16r21, f16r22, f16r23, f16r24, f16r25, letter_ok, keyword_ok, obound_some, obound_none, abound_int] | with_reducible refine ch_both (fun _ => ?_) (fun _ => ?_) | with_reducible refine ite_both (fun _ => ?_) (fun _ => ?_) | intro _)
theorem runLen_all {p : Nat → Bool} {s : List UInt8} : runLen p s = s.length ↔ (s.all fun b => p b.toNat) = true := by
  unfold runLen
  induction s with
  | nil => simp
  | cons a t ih =>
    rw [List.takeWhile_cons, List.all_cons]
    by_cases q : p a.toNat = true
    · simp only [q, if_true, List.length_cons, Bool.true_and]
      rw [← ih]
      omega
    · simp [q]
theorem alone_ok (h : Heap) (s : List UInt8) (k : Int) (hs : s.length ≤ 1048576) : Ccall tab 46 [.str s, .int .i64 k] h = some (.bool (isWord s && decide (k = if isKw s = true then 2 else 1)), h) := by
  refine Ccall_own rfl rfl rfl rfl ?_
  cases s with
  | nil =>
    repeat (any_goals first | simp (dsimp := false) (maxSteps := 4000000) (maxDischargeDepth := 8) (implicitDefEqProofs := false) [*, -Int.not_le, -Int.not_lt, amLt, f46c, f46r0, f46r1, f46r2, f46r3, f46r4, isWord] | with_reducible refine ch_both (fun _ => ?_) (fun _ => ?_) | with_reducible refine ite_both (fun _ => ?_) (fun _ => ?_) | intro _)
  | cons b t =>
    have hne : ¬ (b :: t) = [] := by simp
    have h0 : (b :: t)[0]? = some b := rfl
    have hi : isWord (b :: t) = (isLet b.toNat && allTail (b :: t) && decide ((b :: t).length ≤ 63)) := rfl
    rw [hi]
    generalize b :: t = s at *
    clear hi
    cases h1 : isLet b.toNat
    · clear hs
      repeat (any_goals first | simp (dsimp := false) (maxSteps := 4000000) (maxDischargeDepth := 8) (implicitDefEqProofs := false) [*, -Int.not_le, -Int.not_lt, amLt, f46c, f46r0, f46r1, f46r2, f46r3, f46r4, letter_ok] | with_reducible refine ch_both (fun _ => ?_) (fun _ => ?_) | with_reducible refine ite_both (fun _ => ?_) (fun _ => ?_) | intro _)
    · have ho := fun h => one_word h s b (by omega) h0 h1
      unfold oneWord tokV at ho
      have hle := runLen_le isTail s
      have hra : runLen isTail s = s.length ↔ allTail s = true := runLen_all
      generalize runLen isTail s = n at *
      by_cases h3 : 63 < n
      · simp only [if_pos h3] at ho
        have h4 : (allTail s && decide (s.length ≤ 63)) = false := by
          cases q : allTail s with
          | false => rfl
          | true => have := hra.2 q; simp; omega
        have h5 : (true && allTail s && decide (s.length ≤ 63)) = false := by rw [Bool.true_and]; exact h4
        rw [h5]
        clear hs hle hra h3 h4 h5
        repeat (any_goals first | simp (dsimp := false) (maxSteps := 4000000) (maxDischargeDepth := 8) (implicitDefEqProofs := false) [*, -Int.not_le, -Int.not_lt, amLt, f46c, f46r0, f46r1, f46r2, f46r3, f46r4, letter_ok] | with_reducible refine ch_both (fun _ => ?_) (fun _ => ?_) | with_reducible refine ite_both (fun _ => ?_) (fun _ => ?_) | intro _)
      · simp only [if_neg h3] at ho
        by_cases h6 : n = s.length
        · have h7 := hra.1 h6
          have h8 : decide (s.length ≤ 63) = true := by simp; omega
          subst h6
          rw [List.take_length] at ho
          rw [h7, h8]
          clear hs hle hra h3 h7 h8
          by_cases hk : isKw s = true
          · simp only [if_pos hk] at ho ⊢
            by_cases q : k = 2
            · subst q
              repeat (any_goals first | simp (dsimp := false) (maxSteps := 4000000) (maxDischargeDepth := 8) (implicitDefEqProofs := false) [*, -Int.not_le, -Int.not_lt, amLt, f46c, f46r0, f46r1, f46r2, f46r3, f46r4, letter_ok] | with_reducible refine ch_both (fun _ => ?_) (fun _ => ?_) | with_reducible refine ite_both (fun _ => ?_) (fun _ => ?_) | intro _)
            · have q' : ¬ 2 = k := fun e => q e.symm
              repeat (any_goals first | simp (dsimp := false) (maxSteps := 4000000) (maxDischargeDepth := 8) (implicitDefEqProofs := false) [*, -Int.not_le, -Int.not_lt, amLt, f46c, f46r0, f46r1, f46r2, f46r3, f46r4, letter_ok] | with_reducible refine ch_both (fun _ => ?_) (fun _ => ?_) | with_reducible refine ite_both (fun _ => ?_) (fun _ => ?_) | intro _)
          · simp only [if_neg hk] at ho ⊢
            by_cases q : k = 1
            · subst q
              repeat (any_goals first | simp (dsimp := false) (maxSteps := 4000000) (maxDischargeDepth := 8) (implicitDefEqProofs := false) [*, -Int.not_le, -Int.not_lt, amLt, f46c, f46r0, f46r1, f46r2, f46r3, f46r4, letter_ok] | with_reducible refine ch_both (fun _ => ?_) (fun _ => ?_) | with_reducible refine ite_both (fun _ => ?_) (fun _ => ?_) | intro _)
            · have q' : ¬ 1 = k := fun e => q e.symm
              repeat (any_goals first | simp (dsimp := false) (maxSteps := 4000000) (maxDischargeDepth := 8) (implicitDefEqProofs := false) [*, -Int.not_le, -Int.not_lt, amLt, f46c, f46r0, f46r1, f46r2, f46r3, f46r4, letter_ok] | with_reducible refine ch_both (fun _ => ?_) (fun _ => ?_) | with_reducible refine ite_both (fun _ => ?_) (fun _ => ?_) | intro _)
        · have h7 : allTail s = false := by cases q : allTail s with | false => rfl | true => exact absurd (hra.2 q) h6
          have h8 : ¬ (n : Int) = s.length := by omega
          rw [h7]
          clear hs hle hra h3 h7 h6
          repeat (any_goals first | simp (dsimp := false) (maxSteps := 4000000) (maxDischargeDepth := 8) (implicitDefEqProofs := false) [*, -Int.not_le, -Int.not_lt, amLt, f46c, f46r0, f46r1, f46r2, f46r3, f46r4, letter_ok] | with_reducible refine ch_both (fun _ => ?_) (fun _ => ?_) | with_reducible refine ite_both (fun _ => ?_) (fun _ => ?_) | intro _)
theorem name_ok (h : Heap) (s : List UInt8) (hs : s.length ≤ 1048576) : Ccall tab 20 [.str s] h = some (.bool (isWord s && !isKw s), h) := by
  have ha := fun h => alone_ok h s 1 hs
  have e : decide ((1 : Int) = if isKw s = true then 2 else 1) = !isKw s := by cases isKw s <;> rfl
  rw [e] at ha
  refine Ccall_own rfl rfl rfl rfl ?_
  clear hs e
  repeat (any_goals first | simp (dsimp := false) (maxSteps := 4000000) (maxDischargeDepth := 8) (implicitDefEqProofs := false) [*, -Int.not_le, -Int.not_lt, amLt, f20c, f20r0, f20r1] | with_reducible refine ch_both (fun _ => ?_) (fun _ => ?_) | with_reducible refine ite_both (fun _ => ?_) (fun _ => ?_) | intro _)
theorem kw_word {s : List UInt8} (h : isKw s = true) : isWord s = true := by
  have hall : kws.all isWord = true := by decide
  exact List.all_eq_true.1 hall s (by simpa [isKw] using h)
theorem word_ok (h : Heap) (s : List UInt8) (hs : s.length ≤ 1048576) : Ccall tab 21 [.str s] h = some (.bool (isKw s), h) := by
  have ha := fun h => alone_ok h s 2 hs
  have e : (isWord s && decide ((2 : Int) = if isKw s = true then 2 else 1)) = isKw s := by
    cases q : isKw s with
    | true => rw [kw_word q]; rfl
    | false => simp
  rw [e] at ha
  refine Ccall_own rfl rfl rfl rfl ?_
  clear hs e
  repeat (any_goals first | simp (dsimp := false) (maxSteps := 4000000) (maxDischargeDepth := 8) (implicitDefEqProofs := false) [*, -Int.not_le, -Int.not_lt, amLt, f21c, f21r0, f21r1] | with_reducible refine ch_both (fun _ => ?_) (fun _ => ?_) | with_reducible refine ite_both (fun _ => ?_) (fun _ => ?_) | intro _)

end Go.Proofs.YtmpdpjkblcdfkaaGreatDoor
