/- Bytes, by the kernel; runs and places. -/
import Derived.Test.YtmpdpjkblcdfkaaDoorFns
import Derived.Test.YtmpdpjkblcdfkaaDoorAmW
namespace Go.Proofs.YtmpdpjkblcdfkaaDoor
open Go.AM
set_option maxRecDepth 20000
set_option maxHeartbeats 4000000
set_option linter.unusedSimpArgs false
set_option linter.unusedVariables false
attribute [local congr] andF_cg onF_cg bthen_cg bkeep_cg bcond_cg guardV_cg putF_cg guardF_cg ite_cg stepsF_cg
attribute [local simp] Brun_skip Brun_exit Brun_ret Brun_seq Brun_cond Brun_block Brun_region bthen_normal bthen_ret bthen_exit bblock_normal bblock_ret bblock_exit bkeep_some andF_some onF_some onF_none guardF_none guardF_some guardV_tup putF_some putF_none stepsF_nil stepsF_cons upd_apply ofL_cons ofL_nil bown_normal bown_ret banswer_normal banswer_ret aresults ares List.replicate stepF_call stepF_callD stepF_move stepF_pick stepF_alloc stepF_allocV stepF_box stepF_boxV stepF_build stepF_buildSlice stepF_buildSliceV stepF_load stepF_store stepF_nilCheck stepF_bin stepF_eq stepF_un stepF_conv stepF_strId strIdV_str strIdV_int stepF_toStr stepF_toBytes stepF_fn stepF_mkSlice stepF_slice stepF_strSlice stepF_fieldAddr stepF_field stepF_idxAddr stepF_idxArr stepF_index stepF_strIndex stepF_extract stepF_len0 stepF_len1 stepF_min stepF_max stepF_append stepF_appendF appF_none appF_row stepF_mkMap stepF_mkIface stepF_lookup stepF_mapUpdate stepF_ext aext_idx aext_count aext_same cellsF newF abin_add abin_sub abin_mul abin_quo abin_rem abin_eql abin_neq abin_lss abin_leq abin_gtr abin_geq abin_and abin_or abin_xor abin_shl abin_shr abin_seql abin_sneq aun_not aun_neg aeq_bool aeq_agg eqCells_nil eqCells_int eqCells_bool eqCells_str cellsOf_agg cellsOf_int cellsOf_bool cellsOf_str cellsOf_is cellsOf_ms cellsOf_fn cellsOf_nilp cellsOf_mp cellsOf_mm cellsOf_nilm cellsOf_nili cellsOf_ifc cellsOf_ip cget_one cget_agg ev_t ev_c fillp_nil fillp_cons isSc_int isSc_bool isSc_str isSc_is isSc_ms isSc_fn isSc_mm isSc_mp isSc_ip isSc_nilp isSc_nilm isSc_nili isSc_nilf isSc_ifc splice chunk strip strip.stripL imm imm.immL Areify_int Areify_bool Areify_str Areify_is Areify_nilp Areify_tup Areify_agg AreifyL andF_chi andF_ch onF_chi onF_ch bthen_ch bthen_chi bblock_ch bblock_chi bkeep_ch bkeep_chi bown_ch bown_chi banswer_ch banswer_chi isSome_ch bcond_ch guardV_ch1 guardV_ch0 chF_true chF_false chF_not
attribute [local simp ↓] andF_some andF_chi andF_ch onF_some onF_none onF_chi onF_ch bthen_normal bthen_ret bthen_exit bthen_ch bthen_chi bblock_normal bblock_ret bblock_exit bblock_ch bblock_chi bkeep_some bkeep_ch bkeep_chi bown_normal bown_ret bown_ch bown_chi banswer_normal banswer_ret banswer_ch banswer_chi bcond_ch guardV_ch1 guardV_ch0 guardV_tup guardF_none guardF_some putF_some putF_none stepsF_nil stepsF_cons chF_true chF_false Brun_seq Brun_cond Brun_block Brun_region Brun_skip Brun_ret Brun_exit stepF_call stepF_callD stepF_move stepF_pick stepF_alloc stepF_allocV stepF_box stepF_boxV stepF_build stepF_buildSlice stepF_buildSliceV stepF_load stepF_store stepF_nilCheck stepF_bin stepF_eq stepF_un stepF_conv stepF_strId stepF_toStr stepF_toBytes stepF_fn stepF_mkSlice stepF_slice stepF_strSlice stepF_fieldAddr stepF_field stepF_idxAddr stepF_idxArr stepF_index stepF_strIndex stepF_extract stepF_len0 stepF_len1 stepF_min stepF_max stepF_append stepF_appendF stepF_mkMap stepF_mkIface stepF_lookup stepF_mapUpdate stepF_ext
set_option maxHeartbeats 2000000
/-! Bytes: each of the 256 is reckoned by the kernel. -/
theorem Ccall_nil {A : Tab} {g k : Nat} {args : List AV} {v : AV} (hp : isPure A g args = true) (hr : acall A k g args [] = some (v, [], [])) (h : Heap) : Ccall A g args h = some (v, h) := by
  obtain ⟨_, h2⟩ := (acall_mem A k).pure g args [] v [] [] hp hr
  exact Ccall_run k (h2 h)
def chkB (r : Option (AV × Heap × List Nat)) (b : Bool) : Bool := match r with
  | some (.bool x, [], []) => x == b
  | _ => false
theorem chkB_ok {r : Option (AV × Heap × List Nat)} {b : Bool} (h : chkB r b = true) : r = some (.bool b, [], []) := by
  unfold chkB at h
  split at h
  · simp only [beq_iff_eq] at h; subst h; rfl
  · cases h
def chkIB (r : Option (AV × Heap × List Nat)) (n : Int) (b : Bool) : Bool := match r with
  | some (.tup [.int .i64 m, .bool x], [], []) => x == b && m == n
  | _ => false
theorem chkIB_ok {r : Option (AV × Heap × List Nat)} {n : Int} {b : Bool} (h : chkIB r n b = true) : r = some (.tup [.int .i64 n, .bool b], [], []) := by
  unfold chkIB at h
  split at h
  · simp only [Bool.and_eq_true, beq_iff_eq] at h; obtain ⟨rfl, rfl⟩ := h; rfl
  · cases h
def chkI (r : Option (AV × Heap × List Nat)) (n : Int) : Bool := match r with
  | some (.int .i64 m, [], []) => m == n
  | _ => false
theorem chkI_ok {r : Option (AV × Heap × List Nat)} {n : Int} (h : chkI r n = true) : r = some (.int .i64 n, [], []) := by
  unfold chkI at h
  split at h
  · simp only [beq_iff_eq] at h; subst h; rfl
  · cases h
theorem byte_all {p : Nat → Bool} (h : (List.range 256).all p = true) (b : UInt8) : p b.toNat = true := List.all_eq_true.1 h b.toNat (List.mem_range.2 (UInt8.toNat_lt b))
def isDig (n : Nat) : Bool := decide (48 ≤ n ∧ n ≤ 57)
def isLet (n : Nat) : Bool := decide ((65 ≤ n ∧ n ≤ 90) ∨ (97 ≤ n ∧ n ≤ 122) ∨ n = 95)
def isTail (n : Nat) : Bool := isLet n || isDig n
def isOct (n : Nat) : Bool := decide (48 ≤ n ∧ n ≤ 55)
/-- A digit of 16; else 99. -/
def hexV (n : Nat) : Nat := if 48 ≤ n ∧ n ≤ 57 then n - 48 else if 97 ≤ n ∧ n ≤ 102 then n - 87 else if 65 ≤ n ∧ n ≤ 70 then n - 55 else 99
def isHex (n : Nat) : Bool := decide (hexV n < 16)
theorem letter_ok (h : Heap) (b : UInt8) : Ccall tab 38 [.int .u8 b.toNat] h = some (.bool (isLet b.toNat), h) :=
  Ccall_nil rfl (chkB_ok (byte_all (p := fun n => chkB (acall tab 100 38 [.int .u8 n] []) (isLet n)) (by kernel_rfl) b)) h
theorem digit_ok (h : Heap) (b : UInt8) : Ccall tab 48 [.int .u8 b.toNat] h = some (.bool (isDig b.toNat), h) :=
  Ccall_nil rfl (chkB_ok (byte_all (p := fun n => chkB (acall tab 100 48 [.int .u8 n] []) (isDig n)) (by kernel_rfl) b)) h
theorem tail_ok (h : Heap) (b : UInt8) : Ccall tab 46 [.int .u8 b.toNat] h = some (.bool (isTail b.toNat), h) :=
  Ccall_nil rfl (chkB_ok (byte_all (p := fun n => chkB (acall tab 100 46 [.int .u8 n] []) (isTail n)) (by kernel_rfl) b)) h
theorem octal_ok (h : Heap) (b : UInt8) : Ccall tab 79 [.int .u8 b.toNat] h = some (.bool (isOct b.toNat), h) :=
  Ccall_nil rfl (chkB_ok (byte_all (p := fun n => chkB (acall tab 100 79 [.int .u8 n] []) (isOct n)) (by kernel_rfl) b)) h
theorem hex_ok (h : Heap) (b : UInt8) : Ccall tab 63 [.int .u8 b.toNat] h = some (.tup [.int .i64 (if isHex b.toNat = true then (hexV b.toNat : Int) else 0), .bool (isHex b.toNat)], h) :=
  Ccall_nil rfl (chkIB_ok (byte_all (p := fun n => chkIB (acall tab 100 63 [.int .u8 n] []) (if isHex n = true then (hexV n : Int) else 0) (isHex n)) (by kernel_rfl) b)) h
theorem hexF_ok (h : Heap) (b : UInt8) : Ccall tab 62 [.int .u8 b.toNat] h = some (.bool (isHex b.toNat), h) :=
  Ccall_nil rfl (chkB_ok (byte_all (p := fun n => chkB (acall tab 100 62 [.int .u8 n] []) (isHex n)) (by kernel_rfl) b)) h
theorem hexF_ok' (h : Heap) (b : UInt8) : Ccall tab 78 [.int .u8 b.toNat] h = some (.bool (isHex b.toNat), h) :=
  Ccall_nil rfl (chkB_ok (byte_all (p := fun n => chkB (acall tab 100 78 [.int .u8 n] []) (isHex n)) (by kernel_rfl) b)) h
theorem rletter_ok (h : Heap) (b : UInt8) : Ccall tab 25 [.int .u8 b.toNat] h = some (.bool (isLet b.toNat), h) :=
  Ccall_nil rfl (chkB_ok (byte_all (p := fun n => chkB (acall tab 100 25 [.int .u8 n] []) (isLet n)) (by kernel_rfl) b)) h
theorem rdigit_ok (h : Heap) (b : UInt8) : Ccall tab 26 [.int .u8 b.toNat] h = some (.bool (isDig b.toNat), h) :=
  Ccall_nil rfl (chkB_ok (byte_all (p := fun n => chkB (acall tab 100 26 [.int .u8 n] []) (isDig n)) (by kernel_rfl) b)) h
theorem w64 (n : Nat) (h : n < 4611686018427387904) : IntKind.i64.wrap (n + 1) = (n : Int) + 1 := IntWalk.i64_in _ (by omega)
theorem run_loop (g : Nat) (p : Nat → Bool) (hg : ∀ h (b : UInt8), Ccall tab g [.int .u8 b.toNat] h = some (.bool (p b.toNat), h)) (s : List UInt8) (hs : s.length ≤ 16777216) (h : Heap) (n : Nat) (hn : n ≤ s.length) (h1 : ∀ j b, j < n → s[j]? = some b → p b.toNat = true) (h2 : ∀ b, s[n]? = some b → p b.toNat = false) : ∀ (m i : Nat), i + m = n →
    Brun tab 20 (.loop f45l2) (ofL [(0, .str s), (1, .fn g [] []), (5, .int .i64 i)]) h = some (.exit 0, ofL [(0, .str s), (1, .fn g [] []), (5, .int .i64 n), (16, .bool false)], h) := by
  intro m
  induction m with
  | zero =>
    intro i hi
    have hi' : i = n := by omega
    subst hi'
    rw [Brun_loop]
    cases hb : s[i]? with
    | none =>
      have e3 : (s.length : Int) ≤ i := by have := List.getElem?_eq_none_iff.1 hb; omega
      clear h1 h2 hn hs
      repeat (any_goals first | simp (dsimp := false) (maxSteps := 4000000) (maxDischargeDepth := 8) (implicitDefEqProofs := false) [*, -Int.not_le, -Int.not_lt, amLt, f45c, f45m2, f45r0, f45r1, f45r2, f45r3, f45r4, f45l2_b] | with_reducible refine ch_both (fun _ => ?_) (fun _ => ?_) | with_reducible refine ite_both (fun _ => ?_) (fun _ => ?_) | intro _)
    | some b =>
      have e3 : ¬ (s.length : Int) ≤ i := by have := (List.getElem?_eq_some_iff.1 hb).1; omega
      have hp := h2 b hb
      clear h1 h2 hn hs
      repeat (any_goals first | simp (dsimp := false) (maxSteps := 4000000) (maxDischargeDepth := 8) (implicitDefEqProofs := false) [*, -Int.not_le, -Int.not_lt, amLt, f45c, f45m2, f45r0, f45r1, f45r2, f45r3, f45r4, f45l2_b] | with_reducible refine ch_both (fun _ => ?_) (fun _ => ?_) | with_reducible refine ite_both (fun _ => ?_) (fun _ => ?_) | intro _)
  | succ m ih =>
    intro i hi
    have hlt : i < s.length := by omega
    have hb : s[i]? = some s[i] := List.getElem?_eq_getElem hlt
    have hp := h1 i s[i] (by omega) hb
    generalize s[i] = b at hb hp
    have e3 : ¬ (s.length : Int) ≤ i := by omega
    have hw := w64 i (by omega)
    have ih2 := ih (i + 1) (by omega)
    push_cast at ih2
    clear ih h1 h2 hn hs hlt
    rw [Brun_loop]
    repeat (any_goals first | simp (dsimp := false) (maxSteps := 4000000) (maxDischargeDepth := 8) (implicitDefEqProofs := false) [*, -Int.not_le, -Int.not_lt, amLt, f45c, f45m2, f45r0, f45r1, f45r2, f45r3, f45r4, f45l2_b] | with_reducible refine ch_both (fun _ => ?_) (fun _ => ?_) | with_reducible refine ite_both (fun _ => ?_) (fun _ => ?_) | intro _)

/-- How many bytes at the beginning are such. -/
def runLen (p : Nat → Bool) (s : List UInt8) : Nat := (s.takeWhile fun b => p b.toNat).length
theorem runLen_le (p : Nat → Bool) (s : List UInt8) : runLen p s ≤ s.length := (List.takeWhile_prefix _).length_le
theorem runLen_in (p : Nat → Bool) : ∀ (s : List UInt8) (j : Nat) b, j < runLen p s → s[j]? = some b → p b.toNat = true := by
  intro s
  induction s with
  | nil => intro j b h; simp [runLen] at h
  | cons a t ih =>
    intro j b h hb
    unfold runLen at h ih
    rw [List.takeWhile_cons] at h
    split at h
    · cases j with
      | zero => simp at hb; subst hb; assumption
      | succ j => exact ih j b (by simpa using h) (by simpa using hb)
    · simp at h
theorem runLen_out (p : Nat → Bool) : ∀ (s : List UInt8) b, s[runLen p s]? = some b → p b.toNat = false := by
  intro s
  induction s with
  | nil => intro b h; simp at h
  | cons a t ih =>
    intro b hb
    unfold runLen at hb ih
    rw [List.takeWhile_cons] at hb
    split at hb
    · exact ih b (by simpa using hb)
    · rename_i q
      simp at hb
      subst hb
      simpa using q
theorem run_ok (g : Nat) (p : Nat → Bool) (hg : ∀ h (b : UInt8), Ccall tab g [.int .u8 b.toNat] h = some (.bool (p b.toNat), h)) (h : Heap) (s : List UInt8) (hs : s.length ≤ 16777216) :
    Ccall tab 45 [.str s, .fn g [] []] h = some (.int .i64 (runLen p s), h) := by
  have lp := run_loop g p hg s hs [] (runLen p s) (runLen_le p s) (runLen_in p s) (runLen_out p s) (runLen p s) 0 (by omega)
  simp only [Int.natCast_zero] at lp
  refine Ccall_own rfl rfl rfl rfl ?_
  clear hs hg
  repeat (any_goals first | simp (dsimp := false) (maxSteps := 4000000) (maxDischargeDepth := 8) (implicitDefEqProofs := false) [*, -Int.not_le, -Int.not_lt, amLt, f45c, f45m2, f45r0, f45r1, f45r2, f45r3, f45r4, f45l2_b] | with_reducible refine ch_both (fun _ => ?_) (fun _ => ?_) | with_reducible refine ite_both (fun _ => ?_) (fun _ => ?_) | intro _)
/-- Keywords. -/
def kws : List (List UInt8) := [[95, 66, 111, 111, 108], [98, 114, 101, 97, 107], [99, 104, 97, 114], [99, 111, 110, 116, 105, 110, 117, 101], [100, 111], [101, 108, 115, 101], [101, 110, 117, 109], [102, 111, 114], [105, 102], [105, 110, 116], [108, 111, 110, 103], [111, 102, 102, 115, 101, 116, 111, 102], [114, 101, 116, 117, 114, 110], [115, 104, 111, 114, 116], [115, 105, 103, 110, 101, 100], [115, 105, 122, 101, 111, 102], [115, 116, 97, 116, 105, 99], [115, 116, 114, 117, 99, 116], [116, 121, 112, 101, 100, 101, 102], [117, 110, 105, 111, 110], [117, 110, 115, 105, 103, 110, 101, 100], [118, 111, 105, 100], [119, 104, 105, 108, 101]]
def isKw (s : List UInt8) : Bool := decide (s ∈ kws)
theorem keyword_ok (h : Heap) (s : List UInt8) : Ccall tab 47 [.str s] h = some (.bool (isKw s), h) := by
  refine Ccall_own rfl rfl rfl rfl ?_
  repeat (any_goals first | simp (dsimp := false) (maxSteps := 4000000) (maxDischargeDepth := 8) (implicitDefEqProofs := false) [*, -Int.not_le, -Int.not_lt, amLt, f47c, f47r0, f47r1, f47r2, f47r3, f47r4, f47r5, f47r6, f47r7, f47r8, f47r9, f47r10, f47r11, f47r12, f47r13, f47r14, f47r15, f47r16, f47r17, f47r18, f47r19, f47r20, f47r21, f47r22, f47r23, f47r24, f47r25, f47r26, isKw, kws, List.mem_cons] | with_reducible refine ch_both (fun _ => ?_) (fun _ => ?_) | with_reducible refine ite_both (fun _ => ?_) (fun _ => ?_) | intro _)
/-- The last place of a byte among the first n. -/
def lastIx (s : List UInt8) (c : UInt8) : Nat → Int
  | 0 => -1
  | n + 1 => if s[n]? = some c then (n : Int) else lastIx s c n
theorem lastIx_lt (s : List UInt8) (c : UInt8) : ∀ n, -1 ≤ lastIx s c n ∧ lastIx s c n < n := by
  intro n
  induction n with
  | zero => simp [lastIx]
  | succ n ih => unfold lastIx; split <;> omega
theorem u8_inj (a b : UInt8) : ((a.toNat : Int) = b.toNat) ↔ a = b := by
  rw [Int.ofNat_inj]
  exact ⟨fun h => UInt8.toNat_inj.1 h, fun h => by rw [h]⟩
theorem last_loop (s : List UInt8) (c : UInt8) (hs : s.length ≤ 16777216) (h : Heap) : ∀ (n : Nat), n ≤ s.length →
    Brun tab 19 (.loop f34l2) (ofL [(0, .str s), (1, .int .u8 c.toNat), (5, .int .i64 ((n : Int) - 1))]) h =
      if lastIx s c n = -1 then some (.exit 0, ofL [(0, .str s), (1, .int .u8 c.toNat), (5, .int .i64 (-1)), (10, .bool false)], h) else some (.ret, ofL [(4, .int .i64 (lastIx s c n))], h) := by
  intro n
  induction n with
  | zero =>
    intro _
    rw [Brun_loop]
    repeat (any_goals first | simp (dsimp := false) (maxSteps := 4000000) (maxDischargeDepth := 8) (implicitDefEqProofs := false) [*, -Int.not_le, -Int.not_lt, amLt, f34c, f34m2, f34r0, f34r1, f34r2, f34r3, f34r4, f34r5, f34r6, f34l2_b, lastIx] | with_reducible refine ch_both (fun _ => ?_) (fun _ => ?_) | with_reducible refine ite_both (fun _ => ?_) (fun _ => ?_) | intro _)
  | succ n ih =>
    intro hn
    have hlt : n < s.length := by omega
    have hb : s[n]? = some s[n] := List.getElem?_eq_getElem hlt
    generalize s[n] = b at hb
    have ih2 := ih (by omega)
    have e1 : ((n + 1 : Nat) : Int) - 1 = n := by omega
    have hw : IntKind.i64.wrap ((n : Int) - 1) = n - 1 := IntWalk.i64_in _ (by omega)
    have hne : ¬ (n : Int) = -1 := by omega
    rw [Brun_loop, e1]
    clear ih hn hs e1 hlt
    repeat (any_goals first | simp (dsimp := false) (maxSteps := 4000000) (maxDischargeDepth := 8) (implicitDefEqProofs := false) [*, -Int.not_le, -Int.not_lt, amLt, f34c, f34m2, f34r0, f34r1, f34r2, f34r3, f34r4, f34r5, f34r6, f34l2_b, lastIx, u8_inj] | with_reducible refine ch_both (fun _ => ?_) (fun _ => ?_) | with_reducible refine ite_both (fun _ => ?_) (fun _ => ?_) | intro _)
theorem last_ok' (h : Heap) (s : List UInt8) (c : UInt8) (hs : s.length ≤ 16777216) : Ccall tab 34 [.str s, .int .u8 c.toNat] h = some (.int .i64 (lastIx s c s.length), h) := by
  have lp := last_loop s c hs [] s.length (Nat.le_refl _)
  have hw : IntKind.i64.wrap ((s.length : Int) - 1) = s.length - 1 := IntWalk.i64_in _ (by omega)
  refine Ccall_own rfl rfl rfl rfl ?_
  clear hs
  by_cases q : lastIx s c s.length = -1
  · repeat (any_goals first | simp (dsimp := false) (maxSteps := 4000000) (maxDischargeDepth := 8) (implicitDefEqProofs := false) [*, -Int.not_le, -Int.not_lt, amLt, f34c, f34m2, f34r0, f34r1, f34r2, f34r3, f34r4, f34r5, f34r6, f34l2_b] | with_reducible refine ch_both (fun _ => ?_) (fun _ => ?_) | with_reducible refine ite_both (fun _ => ?_) (fun _ => ?_) | intro _)
  · repeat (any_goals first | simp (dsimp := false) (maxSteps := 4000000) (maxDischargeDepth := 8) (implicitDefEqProofs := false) [*, -Int.not_le, -Int.not_lt, amLt, f34c, f34m2, f34r0, f34r1, f34r2, f34r3, f34r4, f34r5, f34r6, f34l2_b] | with_reducible refine ch_both (fun _ => ?_) (fun _ => ?_) | with_reducible refine ite_both (fun _ => ?_) (fun _ => ?_) | intro _)
theorem last_ok (h : Heap) (s : List UInt8) (hs : s.length ≤ 16777216) : Ccall tab 22 [.str s, .int .u8 10] h = some (.int .i64 (lastIx s 10 s.length), h) := by
  have l1 := fun h => last_ok' h s 10 hs
  rw [show (((10 : UInt8).toNat : Nat) : Int) = 10 from rfl] at l1
  refine Ccall_own rfl rfl rfl rfl ?_
  clear hs
  repeat (any_goals first | simp (dsimp := false) (maxSteps := 4000000) (maxDischargeDepth := 8) (implicitDefEqProofs := false) [*, -Int.not_le, -Int.not_lt, amLt, f22c, f22r0, f22r1] | with_reducible refine ch_both (fun _ => ?_) (fun _ => ?_) | with_reducible refine ite_both (fun _ => ?_) (fun _ => ?_) | intro _)
theorem count_ok (h : Heap) (s : List UInt8) : Ccall tab 23 [.str s, .str [10]] h = some (.int .i64 (s.count 10 : Nat), h) := by
  refine Ccall_own rfl rfl rfl rfl ?_
  repeat (any_goals first | simp (dsimp := false) (maxSteps := 4000000) (maxDischargeDepth := 8) (implicitDefEqProofs := false) [*, -Int.not_le, -Int.not_lt, amLt, f23c, f23m6, f23r0, f23r1, f23r2, f23r3, f23r4, f23r5, f23r6, f23r7, f23r8, f23r9, f23r10, f23l6_b, Go.Lib.countByte, show ((10 : Int).toNat.toUInt8) = 10 from rfl] | with_reducible refine ch_both (fun _ => ?_) (fun _ => ?_) | with_reducible refine ite_both (fun _ => ?_) (fun _ => ?_) | intro _)
theorem lastIx_take (s : List UInt8) (c : UInt8) : ∀ (n k : Nat), n ≤ k → lastIx (s.take k) c n = lastIx s c n := by
  intro n
  induction n with
  | zero => intro k _; rfl
  | succ n ih => intro k hk; simp only [lastIx]; rw [List.getElem?_take_of_lt (by omega), ih k (by omega)]
/-- Where a byte stands: its line, its column. -/
def lineAt (s : List UInt8) (n : Nat) : Int := 1 + ((s.take n).count 10 : Nat)
def colAt (s : List UInt8) (n : Nat) : Int := n - lastIx s 10 n
def offAt (s : List UInt8) (off : Int) : Nat := (max 0 (min off s.length)).toNat
def atV (s : List UInt8) (n : Nat) : AV := .agg [.int .i64 (lineAt s n), .int .i64 (colAt s n), .int .i64 n]
theorem offAt_le (s : List UInt8) (off : Int) : offAt s off ≤ s.length := by unfold offAt; omega
theorem obound_some (e : Env) (y d : Nat) (x : AO) : obound e y d (some x) = abound y (ev e x) := rfl
theorem obound_none (e : Env) (y d : Nat) : obound e y d none = some d := rfl
theorem abound_int (y : Nat) (k : IntKind) (i : Int) : abound y (.int k i) = if 0 ≤ i ∧ i ≤ y then some i.toNat else none := rfl
theorem at_ok (h : Heap) (s : List UInt8) (off : Int) (hs : s.length ≤ 1048576) : Ccall tab 9 [.str s, .int .i64 off] h = some (atV s (offAt s off), h) := by
  have hl := offAt_le s off
  have e1 : (if (if off ≤ (s.length : Int) then off else (s.length : Int)) ≤ 0 then 0 else (if off ≤ (s.length : Int) then off else (s.length : Int))) = (offAt s off : Int) := by unfold offAt; split <;> split <;> omega
  generalize hn : offAt s off = n at hl e1
  have l1 := fun h => last_ok h (s.take n) (by simp; omega)
  have hlen : (s.take n).length = n := by simp; omega
  rw [hlen, lastIx_take s 10 n n (Nat.le_refl _)] at l1
  have hle : (n : Int) ≤ s.length := by omega
  have hb := lastIx_lt s 10 n
  have hc : (s.take n).count 10 ≤ (s.take n).length := List.count_le_length
  have w1 : IntKind.i64.wrap (1 + ((s.take n).count 10 : Nat)) = lineAt s n := IntWalk.i64_in _ (by rw [hlen] at hc; omega)
  have w2 : IntKind.i64.wrap ((n : Int) - lastIx s 10 n) = colAt s n := IntWalk.i64_in _ (by omega)
  refine Ccall_own rfl rfl rfl rfl ?_
  clear hs hl hb hc hlen hn
  repeat (any_goals first | simp (dsimp := false) (maxSteps := 4000000) (maxDischargeDepth := 8) (implicitDefEqProofs := false) [*, -Int.not_le, -Int.not_lt, amLt, f9c, f9r0, f9r1, f9r2, f9r3, f9r4, count_ok, atV, obound_some, obound_none, abound_int] | with_reducible refine ch_both (fun _ => ?_) (fun _ => ?_) | with_reducible refine ite_both (fun _ => ?_) (fun _ => ?_) | intro _)

end Go.Proofs.YtmpdpjkblcdfkaaDoor
