/- Chapter 23: FrameLays's functions walked. -/
import Derived.Test.YtlmgkbdcpaojlaaFns
import Derived.Test.YtlmgkbdcpaojlaaAmW
namespace Go.Proofs.Ytlmgkbdcpaojlaa
open Go.AM
set_option maxRecDepth 20000
set_option maxHeartbeats 4000000
set_option linter.unusedSimpArgs false
set_option linter.unusedVariables false
attribute [local congr] andF_cg onF_cg bthen_cg bkeep_cg bcond_cg guardV_cg putF_cg guardF_cg ite_cg stepsF_cg
attribute [local simp] Brun_skip Brun_exit Brun_ret Brun_seq Brun_cond Brun_block Brun_region bthen_normal bthen_ret bthen_exit bblock_normal bblock_ret bblock_exit bkeep_some andF_some onF_some onF_none guardF_none guardF_some guardV_tup putF_some putF_none stepsF_nil stepsF_cons upd_apply ofL_cons ofL_nil bown_normal bown_ret banswer_normal banswer_ret aresults ares List.replicate stepF_call stepF_callD stepF_move stepF_pick stepF_alloc stepF_allocV stepF_box stepF_boxV stepF_build stepF_buildSlice stepF_buildSliceV stepF_load stepF_store stepF_nilCheck stepF_bin stepF_eq stepF_un stepF_conv stepF_strId stepF_toStr stepF_toBytes stepF_fn stepF_mkSlice stepF_slice stepF_strSlice stepF_fieldAddr stepF_field stepF_idxAddr stepF_idxArr stepF_index stepF_strIndex stepF_extract stepF_len0 stepF_len1 stepF_min stepF_max stepF_append stepF_appendF appF_none appF_row stepF_mkMap stepF_mkIface stepF_lookup stepF_mapUpdate cellsF newF abin_add abin_sub abin_mul abin_quo abin_rem abin_eql abin_neq abin_lss abin_leq abin_gtr abin_geq abin_and abin_or abin_xor abin_shl abin_shr abin_seql abin_sneq aun_not aun_neg aeq_bool aeq_agg eqCells_nil eqCells_int eqCells_bool eqCells_str cellsOf_agg cellsOf_int cellsOf_bool cellsOf_str cellsOf_is cellsOf_ms cellsOf_fn cellsOf_nilp cellsOf_mp cellsOf_mm cellsOf_nilm cellsOf_nili cellsOf_ifc cellsOf_ip cget_one cget_agg ev_t ev_c fillp_nil fillp_cons isSc_int isSc_bool isSc_str isSc_is isSc_ms isSc_fn isSc_mm isSc_mp isSc_ip isSc_nilp isSc_nilm isSc_nili isSc_nilf isSc_ifc splice chunk strip strip.stripL imm imm.immL Areify_int Areify_bool Areify_str Areify_is Areify_nilp Areify_tup Areify_agg AreifyL andF_chi andF_ch onF_chi onF_ch bthen_ch bthen_chi bblock_ch bblock_chi bkeep_ch bkeep_chi bown_ch bown_chi banswer_ch banswer_chi isSome_ch bcond_ch guardV_ch1 guardV_ch0 chF_true chF_false chF_not
attribute [local simp ↓] andF_some andF_chi andF_ch onF_some onF_none onF_chi onF_ch bthen_normal bthen_ret bthen_exit bthen_ch bthen_chi bblock_normal bblock_ret bblock_exit bblock_ch bblock_chi bkeep_some bkeep_ch bkeep_chi bown_normal bown_ret bown_ch bown_chi banswer_normal banswer_ret banswer_ch banswer_chi bcond_ch guardV_ch1 guardV_ch0 guardV_tup guardF_none guardF_some putF_some putF_none stepsF_nil stepsF_cons chF_true chF_false Brun_seq Brun_cond Brun_block Brun_region Brun_skip Brun_ret Brun_exit stepF_call stepF_callD stepF_move stepF_pick stepF_alloc stepF_allocV stepF_box stepF_boxV stepF_build stepF_buildSlice stepF_buildSliceV stepF_load stepF_store stepF_nilCheck stepF_bin stepF_eq stepF_un stepF_conv stepF_strId stepF_toStr stepF_toBytes stepF_fn stepF_mkSlice stepF_slice stepF_strSlice stepF_fieldAddr stepF_field stepF_idxAddr stepF_idxArr stepF_index stepF_strIndex stepF_extract stepF_len0 stepF_len1 stepF_min stepF_max stepF_append stepF_appendF stepF_mkMap stepF_mkIface stepF_lookup stepF_mapUpdate
/-- A row of numbers, as a slice holds it. -/
def ints (l : List Int) : List (List AV) := l.map fun n => [.int .i64 n]
theorem ints_len (l : List Int) : (ints l).length = l.length := by simp [ints]
theorem ints_get (l : List Int) (i : Nat) (h : i < l.length) : (ints l)[i]? = some [.int .i64 l[i]] := by simp [ints, h]
theorem ints_at (l : List Int) (i : Nat) (h : i < (ints l).length) : (ints l)[i] = [.int .i64 (l[i]'(by rw [← ints_len]; exact h))] := by simp [ints]
theorem w64 (n : Nat) (h : n < 4611686018427387904) : IntKind.i64.wrap (n + 1) = (n : Int) + 1 := IntWalk.i64_in _ (by omega)
theorem ints_loop (a b : List Int) (ca cb : Cap) (h : Heap) (hl : a.length = b.length) (hs : a.length < 4611686018427387904) : ∀ (n i : Nat), i + n = a.length →
    Brun tab 26 (.loop f19l4) (ofL [(0, .is (ints a) ca), (1, .is (ints b) cb), (5, .int .i64 i)]) h =
      if a.drop i = b.drop i then some (.exit 0, ofL [(0, .is (ints a) ca), (1, .is (ints b) cb), (5, .int .i64 a.length), (14, .bool false)], h) else some (.ret, ofL [(4, .bool false)], h) := by
  intro n
  induction n with
  | zero =>
    intro i hi
    rw [Brun_loop]
    have e1 : a.drop i = [] := List.drop_eq_nil_of_le (by omega)
    have e2 : b.drop i = [] := List.drop_eq_nil_of_le (by omega)
    have e3 : (a.length : Int) = i := by omega
    have e4 : (b.length : Int) = i := by omega
    clear hi hl hs
    repeat (any_goals first | simp (dsimp := false) (maxSteps := 4000000) (maxDischargeDepth := 8) (implicitDefEqProofs := false) [*, -Int.not_le, -Int.not_lt, amLt, f19c, f19m4, f19q5, f19r0, f19r1, f19r2, f19r3, f19r4, f19r6, f19r7, f19r8, f19l4_b, f19r5_u, f19r5_w, ints_len, ints_at] | with_reducible refine ch_both (fun _ => ?_) (fun _ => ?_) | with_reducible refine ite_both (fun _ => ?_) (fun _ => ?_) | intro _)
  | succ n ih =>
    intro i hi
    rw [Brun_loop]
    have hi1 : i < a.length := by omega
    have hi2 : i < b.length := by omega
    have e3 : ¬ (a.length : Int) ≤ i := by omega
    have e4 : ¬ (b.length : Int) ≤ i := by omega
    have e1 : a.drop i = b.drop i ↔ a[i] = b[i] ∧ a.drop (i + 1) = b.drop (i + 1) := by
      rw [List.drop_eq_getElem_cons hi1, List.drop_eq_getElem_cons hi2, List.cons.injEq]
    have hw := w64 i (by omega)
    have ih := ih (i + 1) (by omega)
    push_cast at ih
    clear hi hl hs
    repeat (any_goals first | simp (dsimp := false) (maxSteps := 4000000) (maxDischargeDepth := 8) (implicitDefEqProofs := false) [*, -Int.not_le, -Int.not_lt, amLt, f19c, f19m4, f19q5, f19r0, f19r1, f19r2, f19r3, f19r4, f19r6, f19r7, f19r8, f19l4_b, f19r5_u, f19r5_w, ints_len, ints_at] | with_reducible refine ch_both (fun _ => ?_) (fun _ => ?_) | with_reducible refine ite_both (fun _ => ?_) (fun _ => ?_) | intro _)
theorem ints_ok (h : Heap) (a b : List Int) (ca cb : Cap) (hs : a.length < 4611686018427387904) (hi1 : imm (.is (ints a) ca) = true) (hi2 : imm (.is (ints b) cb) = true) :
    Ccall tab 19 [.is (ints a) ca, .is (ints b) cb] h = some (.bool (decide (a = b)), h) := by
  refine Ccall_own rfl rfl rfl (by simp [hi1, hi2]) ?_
  by_cases hl : a.length = b.length
  · have lp := fun ca cb => ints_loop a b ca cb [] hl hs a.length 0 (by omega)
    simp only [List.drop_zero, Int.natCast_zero] at lp
    have hl' : (a.length : Int) = b.length := by omega
    clear hi1 hi2 hs hl
    by_cases q : a = b
    · subst q
      repeat (any_goals first | simp (dsimp := false) (maxSteps := 4000000) (maxDischargeDepth := 8) (implicitDefEqProofs := false) [*, -Int.not_le, -Int.not_lt, amLt, f19c, f19m4, f19q5, f19r0, f19r1, f19r2, f19r3, f19r4, f19r6, f19r7, f19r8, f19l4_b, f19r5_u, f19r5_w, ints_len] | with_reducible refine ch_both (fun _ => ?_) (fun _ => ?_) | with_reducible refine ite_both (fun _ => ?_) (fun _ => ?_) | intro _)
    · repeat (any_goals first | simp (dsimp := false) (maxSteps := 4000000) (maxDischargeDepth := 8) (implicitDefEqProofs := false) [*, -Int.not_le, -Int.not_lt, amLt, f19c, f19m4, f19q5, f19r0, f19r1, f19r2, f19r3, f19r4, f19r6, f19r7, f19r8, f19l4_b, f19r5_u, f19r5_w, ints_len] | with_reducible refine ch_both (fun _ => ?_) (fun _ => ?_) | with_reducible refine ite_both (fun _ => ?_) (fun _ => ?_) | intro _)
  · have hl' : ¬ (a.length : Int) = b.length := by omega
    have hl2 : ¬ a = b := fun q => hl (by rw [q])
    clear hi1 hi2 hs hl
    repeat (any_goals first | simp (dsimp := false) (maxSteps := 4000000) (maxDischargeDepth := 8) (implicitDefEqProofs := false) [*, -Int.not_le, -Int.not_lt, amLt, f19c, f19m4, f19q5, f19r0, f19r1, f19r2, f19r3, f19r4, f19r6, f19r7, f19r8, f19l4_b, f19r5_u, f19r5_w, ints_len] | with_reducible refine ch_both (fun _ => ?_) (fun _ => ?_) | with_reducible refine ite_both (fun _ => ?_) (fun _ => ?_) | intro _)
/-- Rows of two numbers, as a slice holds them. -/
def pairs (l : List (Int × Int)) : List (List AV) := l.map fun p => [.int .i64 p.1, .int .i64 p.2]
theorem pairs_len (l : List (Int × Int)) : (pairs l).length = l.length := by simp [pairs]
theorem pairs_at (l : List (Int × Int)) (i : Nat) (h : i < (pairs l).length) : (pairs l)[i] = [.int .i64 (l[i]'(by rw [← pairs_len]; exact h)).1, .int .i64 (l[i]'(by rw [← pairs_len]; exact h)).2] := by simp [pairs]
theorem ints_app (a : List Int) (n : Int) : ints a ++ [[.int .i64 n]] = ints (a ++ [n]) := by simp [ints]
def upI (n a : Int) : Int := (n + a - 1) / a * a
theorem upI_in {n a : Int} (hn : 0 ≤ n) (ha : 1 ≤ a ∧ a ≤ 8) : n ≤ upI n a ∧ upI n a ≤ n + a - 1 := by
  unfold upI
  have h1 := Int.mul_ediv_self_le (x := n + a - 1) (k := a) (by omega)
  have h2 := Int.lt_mul_ediv_self_add (x := n + a - 1) (k := a) (by omega)
  rw [Int.mul_comm]
  omega
theorem wrap_in {n : Int} (h : -1000000000000 ≤ n ∧ n ≤ 1000000000000) : IntKind.i64.wrap n = n := IntWalk.i64_in _ (by omega)
theorem up_ok (h : Heap) (n a : Int) (hn : 0 ≤ n ∧ n ≤ 100000000000) (ha : 1 ≤ a ∧ a ≤ 8) : Ccall tab 18 [.int .i64 n, .int .i64 a] h = some (.int .i64 (upI n a), h) := by
  have h2 := upI_in hn.1 ha
  have e1 : IntKind.i64.wrap (n + a) = n + a := wrap_in (by omega)
  have e2 : IntKind.i64.wrap (n + a - 1) = n + a - 1 := wrap_in (by omega)
  have e3 : (n + a - 1).tdiv a = (n + a - 1) / a := Int.tdiv_eq_ediv_of_nonneg (by omega)
  have e4 : IntKind.i64.wrap ((n + a - 1) / a) = (n + a - 1) / a := by
    have := Int.ediv_nonneg (a := n + a - 1) (b := a) (by omega) (by omega)
    have := Int.ediv_le_self (a := n + a - 1) a (by omega)
    exact wrap_in (by omega)
  have e5 : IntKind.i64.wrap ((n + a - 1) / a * a) = upI n a := wrap_in (n := upI n a) (by omega)
  have e6 : ¬ a = 0 := by omega
  clear h2 hn ha
  refine Ccall_own rfl rfl rfl rfl ?_
  repeat (any_goals first | simp (dsimp := false) (maxSteps := 4000000) (maxDischargeDepth := 8) (implicitDefEqProofs := false) [*, -Int.not_le, -Int.not_lt, amLt, f18c, f18r0, f18r1] | with_reducible refine ch_both (fun _ => ?_) (fun _ => ?_) | with_reducible refine ite_both (fun _ => ?_) (fun _ => ?_) | intro _)
def fitsB (s : Int × Int) : Bool := decide (1 ≤ s.1 ∧ s.1 ≤ 16384) && decide (s.2 = 1 ∨ s.2 = 2 ∨ s.2 = 4)
def lay : List (Int × Int) → Int → Option (List Int × Int)
  | [], n => some ([], n)
  | s :: r, n => if fitsB s = true then (match lay r (upI n s.2 + s.1) with
    | some (l, k) => some (upI n s.2 :: l, k)
    | none => none) else none
theorem roomy_small {n b : Nat} (h : n ≤ 4000000000) (hb : b ≤ 10000) : roomy n b = true := by
  have := Nat.mul_le_mul h hb
  simp only [roomy, decide_eq_true_eq]
  omega
theorem of_body1 (sl : List (Int × Int)) (a0 a1 a2 a3 a5 : AV) (cs : Cap) (R : Blk) (i : Nat) (l : List Int) (n sz : Int) (cap : Cap) (t : Heap) (hs : sl.length ≤ 256) (hi1 : i < sl.length) (hl : l.length = i) (h0 : 0 ≤ n) (h1 : n ≤ i * 16400) (hc : CapAt 2 cap 1 (ints l) t)
    (hget : (pairs sl)[i]? = some [.int .i64 sz, .int .i64 1]) (f1 : 1 ≤ sz) (f2 : sz ≤ 16384) :
    Brun tab 94 f8l6 (ofL [(1, .ip [a0, a1, a2, a3, .is (pairs sl) cs, a5] 0), (2, .mp 0 0), (4, .mp 1 0), (5, .int .i64 n), (6, .int .i64 i)]) (R :: .cells [.is (ints l) cap, .int .i64 0, .int .i64 0, .int .i64 0] :: t) =
      some (.normal, ofL [(1, .ip [a0, a1, a2, a3, .is (pairs sl) cs, a5] 0), (2, .mp 0 0), (4, .mp 1 0), (5, .int .i64 (upI n 1 + sz)), (6, .int .i64 (i + 1))], R :: .cells [.is (ints (l ++ [upI n 1])) (.tok (t.length + 3) 1), .int .i64 0, .int .i64 0, .int .i64 0] :: (spendAt 2 cap t ++ [.cells [.int .i64 sz, .int .i64 1], .tok])) := by
  have e3 : ¬ (sl.length : Int) ≤ i := by omega
  have hw : IntKind.i64.wrap (i + 1) = (i : Int) + 1 := wrap_in (by omega)
  have hu := upI_in (n := n) (a := 1) h0 (by omega)
  have hup := fun h => up_ok h n 1 (by omega) (by omega)
  have w1 : IntKind.i64.wrap (upI n 1 + sz) = upI n 1 + sz := wrap_in (by omega)
  have hroom : roomy (l.length + 1) 8 = true := roomy_small (by omega) (by decide)
  have hr2 := hc.room2
  have hs2 := hc.spend2
  have hsl := spendAt_len 2 cap t
  have hi2 : i < (pairs sl).length := by rw [pairs_len]; exact hi1
  have hg : (pairs sl)[i] = [.int .i64 sz, .int .i64 1] := by rw [List.getElem?_eq_getElem hi2] at hget; exact Option.some.inj hget
  clear hs hl h0 h1 hc hu hget
  repeat (any_goals first | simp (dsimp := false) (maxSteps := 4000000) (maxDischargeDepth := 8) (implicitDefEqProofs := false) [*, -Int.not_le, -Int.not_lt, amLt, f8c, f8m6, f8r0, f8r1, f8r2, f8r3, f8r4, f8r5, f8r6, f8r7, f8r8, f8r9, f8r10, f8r11, f8r12, f8r13, f8r14, f8r15, f8r16, f8r17, f8r18, f8r19, f8l6_b, pairs_len, ints_len, app_get, app_get0, app_set, app_set0, ints_app] | with_reducible refine ch_both (fun _ => ?_) (fun _ => ?_) | with_reducible refine ite_both (fun _ => ?_) (fun _ => ?_) | intro _)
theorem of_body2 (sl : List (Int × Int)) (a0 a1 a2 a3 a5 : AV) (cs : Cap) (R : Blk) (i : Nat) (l : List Int) (n sz : Int) (cap : Cap) (t : Heap) (hs : sl.length ≤ 256) (hi1 : i < sl.length) (hl : l.length = i) (h0 : 0 ≤ n) (h1 : n ≤ i * 16400) (hc : CapAt 2 cap 1 (ints l) t)
    (hget : (pairs sl)[i]? = some [.int .i64 sz, .int .i64 2]) (f1 : 1 ≤ sz) (f2 : sz ≤ 16384) :
    Brun tab 94 f8l6 (ofL [(1, .ip [a0, a1, a2, a3, .is (pairs sl) cs, a5] 0), (2, .mp 0 0), (4, .mp 1 0), (5, .int .i64 n), (6, .int .i64 i)]) (R :: .cells [.is (ints l) cap, .int .i64 0, .int .i64 0, .int .i64 0] :: t) =
      some (.normal, ofL [(1, .ip [a0, a1, a2, a3, .is (pairs sl) cs, a5] 0), (2, .mp 0 0), (4, .mp 1 0), (5, .int .i64 (upI n 2 + sz)), (6, .int .i64 (i + 1))], R :: .cells [.is (ints (l ++ [upI n 2])) (.tok (t.length + 3) 1), .int .i64 0, .int .i64 0, .int .i64 0] :: (spendAt 2 cap t ++ [.cells [.int .i64 sz, .int .i64 2], .tok])) := by
  have e3 : ¬ (sl.length : Int) ≤ i := by omega
  have hw : IntKind.i64.wrap (i + 1) = (i : Int) + 1 := wrap_in (by omega)
  have hu := upI_in (n := n) (a := 2) h0 (by omega)
  have hup := fun h => up_ok h n 2 (by omega) (by omega)
  have w1 : IntKind.i64.wrap (upI n 2 + sz) = upI n 2 + sz := wrap_in (by omega)
  have hroom : roomy (l.length + 1) 8 = true := roomy_small (by omega) (by decide)
  have hr2 := hc.room2
  have hs2 := hc.spend2
  have hsl := spendAt_len 2 cap t
  have hi2 : i < (pairs sl).length := by rw [pairs_len]; exact hi1
  have hg : (pairs sl)[i] = [.int .i64 sz, .int .i64 2] := by rw [List.getElem?_eq_getElem hi2] at hget; exact Option.some.inj hget
  clear hs hl h0 h1 hc hu hget
  repeat (any_goals first | simp (dsimp := false) (maxSteps := 4000000) (maxDischargeDepth := 8) (implicitDefEqProofs := false) [*, -Int.not_le, -Int.not_lt, amLt, f8c, f8m6, f8r0, f8r1, f8r2, f8r3, f8r4, f8r5, f8r6, f8r7, f8r8, f8r9, f8r10, f8r11, f8r12, f8r13, f8r14, f8r15, f8r16, f8r17, f8r18, f8r19, f8l6_b, pairs_len, ints_len, app_get, app_get0, app_set, app_set0, ints_app] | with_reducible refine ch_both (fun _ => ?_) (fun _ => ?_) | with_reducible refine ite_both (fun _ => ?_) (fun _ => ?_) | intro _)
theorem of_body4 (sl : List (Int × Int)) (a0 a1 a2 a3 a5 : AV) (cs : Cap) (R : Blk) (i : Nat) (l : List Int) (n sz : Int) (cap : Cap) (t : Heap) (hs : sl.length ≤ 256) (hi1 : i < sl.length) (hl : l.length = i) (h0 : 0 ≤ n) (h1 : n ≤ i * 16400) (hc : CapAt 2 cap 1 (ints l) t)
    (hget : (pairs sl)[i]? = some [.int .i64 sz, .int .i64 4]) (f1 : 1 ≤ sz) (f2 : sz ≤ 16384) :
    Brun tab 94 f8l6 (ofL [(1, .ip [a0, a1, a2, a3, .is (pairs sl) cs, a5] 0), (2, .mp 0 0), (4, .mp 1 0), (5, .int .i64 n), (6, .int .i64 i)]) (R :: .cells [.is (ints l) cap, .int .i64 0, .int .i64 0, .int .i64 0] :: t) =
      some (.normal, ofL [(1, .ip [a0, a1, a2, a3, .is (pairs sl) cs, a5] 0), (2, .mp 0 0), (4, .mp 1 0), (5, .int .i64 (upI n 4 + sz)), (6, .int .i64 (i + 1))], R :: .cells [.is (ints (l ++ [upI n 4])) (.tok (t.length + 3) 1), .int .i64 0, .int .i64 0, .int .i64 0] :: (spendAt 2 cap t ++ [.cells [.int .i64 sz, .int .i64 4], .tok])) := by
  have e3 : ¬ (sl.length : Int) ≤ i := by omega
  have hw : IntKind.i64.wrap (i + 1) = (i : Int) + 1 := wrap_in (by omega)
  have hu := upI_in (n := n) (a := 4) h0 (by omega)
  have hup := fun h => up_ok h n 4 (by omega) (by omega)
  have w1 : IntKind.i64.wrap (upI n 4 + sz) = upI n 4 + sz := wrap_in (by omega)
  have hroom : roomy (l.length + 1) 8 = true := roomy_small (by omega) (by decide)
  have hr2 := hc.room2
  have hs2 := hc.spend2
  have hsl := spendAt_len 2 cap t
  have hi2 : i < (pairs sl).length := by rw [pairs_len]; exact hi1
  have hg : (pairs sl)[i] = [.int .i64 sz, .int .i64 4] := by rw [List.getElem?_eq_getElem hi2] at hget; exact Option.some.inj hget
  clear hs hl h0 h1 hc hu hget
  repeat (any_goals first | simp (dsimp := false) (maxSteps := 4000000) (maxDischargeDepth := 8) (implicitDefEqProofs := false) [*, -Int.not_le, -Int.not_lt, amLt, f8c, f8m6, f8r0, f8r1, f8r2, f8r3, f8r4, f8r5, f8r6, f8r7, f8r8, f8r9, f8r10, f8r11, f8r12, f8r13, f8r14, f8r15, f8r16, f8r17, f8r18, f8r19, f8l6_b, pairs_len, ints_len, app_get, app_get0, app_set, app_set0, ints_app] | with_reducible refine ch_both (fun _ => ?_) (fun _ => ?_) | with_reducible refine ite_both (fun _ => ?_) (fun _ => ?_) | intro _)
theorem of_bodyN (sl : List (Int × Int)) (a0 a1 a2 a3 a5 : AV) (cs : Cap) (X : AV) (i : Nat) (n sz al : Int) (t : Heap) (hi1 : i < sl.length)
    (hget : (pairs sl)[i]? = some [.int .i64 sz, .int .i64 al]) (hf : ¬ fitsB (sz, al) = true) :
    Brun tab 94 f8l6 (ofL [(1, .ip [a0, a1, a2, a3, .is (pairs sl) cs, a5] 0), (2, .mp 0 0), (4, .mp 1 0), (5, .int .i64 n), (6, .int .i64 i)]) (.cells [.is [] .nil, .int .i64 0, .int .i64 0, .int .i64 0] :: .cells [X, .int .i64 0, .int .i64 0, .int .i64 0] :: t) =
      some (.ret, ofL [(2, .mp 0 0), (3, .int .i64 250)], .cells [.is [] .nil, .int .i64 0, .int .i64 0, .int .i64 0] :: .cells [X, .int .i64 0, .int .i64 0, .int .i64 0] :: (t ++ [.cells [.int .i64 sz, .int .i64 al]])) := by
  have e3 : ¬ (sl.length : Int) ≤ i := by omega
  have hi2 : i < (pairs sl).length := by rw [pairs_len]; exact hi1
  have hg : (pairs sl)[i] = [.int .i64 sz, .int .i64 al] := by rw [List.getElem?_eq_getElem hi2] at hget; exact Option.some.inj hget
  simp only [fitsB, Bool.and_eq_true, decide_eq_true_eq] at hf
  clear hget
  repeat (any_goals first | simp (dsimp := false) (maxSteps := 4000000) (maxDischargeDepth := 8) (implicitDefEqProofs := false) [*, -Int.not_le, -Int.not_lt, amLt, f8c, f8m6, f8r0, f8r1, f8r2, f8r3, f8r4, f8r5, f8r6, f8r7, f8r8, f8r9, f8r10, f8r11, f8r12, f8r13, f8r14, f8r15, f8r16, f8r17, f8r18, f8r19, f8l6_b, pairs_len, app_get, app_get0, app_set, app_set0] | with_reducible refine ch_both (fun _ => ?_) (fun _ => ?_) | with_reducible refine ite_both (fun _ => ?_) (fun _ => ?_) | intro _)
  all_goals omega
theorem of_loop (sl : List (Int × Int)) (a0 a1 a2 a3 a5 : AV) (cs : Cap) (R : Blk) (hs : sl.length ≤ 256) : ∀ (m i : Nat) (l : List Int) (n : Int) (cap : Cap) (t : Heap), i + m = sl.length → l.length = i → 0 ≤ n → n ≤ i * 16400 → CapAt 2 cap 1 (ints l) t →
    ∃ t', match lay (sl.drop i) n with
      | some (l', n') => ∃ cap', Brun tab 94 (.loop f8l6) (ofL [(1, .ip [a0, a1, a2, a3, .is (pairs sl) cs, a5] 0), (2, .mp 0 0), (4, .mp 1 0), (5, .int .i64 n), (6, .int .i64 i)]) (R :: .cells [.is (ints l) cap, .int .i64 0, .int .i64 0, .int .i64 0] :: t) =
          some (.exit 0, ofL [(1, .ip [a0, a1, a2, a3, .is (pairs sl) cs, a5] 0), (2, .mp 0 0), (4, .mp 1 0), (5, .int .i64 n'), (6, .int .i64 sl.length), (28, .bool false)], R :: .cells [.is (ints (l ++ l')) cap', .int .i64 0, .int .i64 0, .int .i64 0] :: t')
      | none => R = .cells [.is [] .nil, .int .i64 0, .int .i64 0, .int .i64 0] → ∃ y, Brun tab 94 (.loop f8l6) (ofL [(1, .ip [a0, a1, a2, a3, .is (pairs sl) cs, a5] 0), (2, .mp 0 0), (4, .mp 1 0), (5, .int .i64 n), (6, .int .i64 i)]) (R :: .cells [.is (ints l) cap, .int .i64 0, .int .i64 0, .int .i64 0] :: t) =
          some (.ret, ofL [(2, .mp 0 0), (3, .int .i64 250)], .cells [.is [] .nil, .int .i64 0, .int .i64 0, .int .i64 0] :: y :: t') := by
  intro m
  induction m with
  | zero =>
    intro i l n cap t hi hl h0 h1 hc
    rw [List.drop_eq_nil_of_le (by omega)]
    simp only [lay, List.append_nil]
    refine ⟨t, cap, ?_⟩
    have e3 : (sl.length : Int) = i := by omega
    clear hi h0 h1 hs hl
    rw [Brun_loop]
    repeat (any_goals first | simp (dsimp := false) (maxSteps := 4000000) (maxDischargeDepth := 8) (implicitDefEqProofs := false) [*, -Int.not_le, -Int.not_lt, amLt, f8c, f8m6, f8r0, f8r1, f8r2, f8r3, f8r4, f8r5, f8r6, f8r7, f8r8, f8r9, f8r10, f8r11, f8r12, f8r13, f8r14, f8r15, f8r16, f8r17, f8r18, f8r19, f8l6_b, pairs_len] | with_reducible refine ch_both (fun _ => ?_) (fun _ => ?_) | with_reducible refine ite_both (fun _ => ?_) (fun _ => ?_) | intro _)
  | succ m ih =>
    intro i l n cap t hi hl h0 h1 hc
    have hi1 : i < sl.length := by omega
    rw [List.drop_eq_getElem_cons hi1]
    have hget : (pairs sl)[i]? = some [.int .i64 sl[i].1, .int .i64 sl[i].2] := by simp [pairs, hi1]
    generalize hx : sl[i] = x at *
    obtain ⟨sz, al⟩ := x
    dsimp only at hget
    simp only [lay]
    by_cases hf : fitsB (sz, al) = true
    · rw [if_pos hf]
      have hf2 := hf
      simp only [fitsB, Bool.and_eq_true, decide_eq_true_eq] at hf2
      have hu := upI_in (n := n) (a := al) h0 (by omega)
      have hbody : Brun tab 94 f8l6 (ofL [(1, .ip [a0, a1, a2, a3, .is (pairs sl) cs, a5] 0), (2, .mp 0 0), (4, .mp 1 0), (5, .int .i64 n), (6, .int .i64 i)]) (R :: .cells [.is (ints l) cap, .int .i64 0, .int .i64 0, .int .i64 0] :: t) =
          some (.normal, ofL [(1, .ip [a0, a1, a2, a3, .is (pairs sl) cs, a5] 0), (2, .mp 0 0), (4, .mp 1 0), (5, .int .i64 (upI n al + sz)), (6, .int .i64 (i + 1))], R :: .cells [.is (ints (l ++ [upI n al])) (.tok (t.length + 3) 1), .int .i64 0, .int .i64 0, .int .i64 0] :: (spendAt 2 cap t ++ [.cells [.int .i64 sz, .int .i64 al], .tok])) := by
        rcases hf2.2 with rfl | rfl | rfl
        · exact of_body1 sl a0 a1 a2 a3 a5 cs R i l n sz cap t hs hi1 hl h0 h1 hc hget hf2.1.1 hf2.1.2
        · exact of_body2 sl a0 a1 a2 a3 a5 cs R i l n sz cap t hs hi1 hl h0 h1 hc hget hf2.1.1 hf2.1.2
        · exact of_body4 sl a0 a1 a2 a3 a5 cs R i l n sz cap t hs hi1 hl h0 h1 hc hget hf2.1.1 hf2.1.2
      have ih2 := ih (i + 1) (l ++ [upI n al]) (upI n al + sz) (.tok (t.length + 3) 1) (spendAt 2 cap t ++ [.cells [.int .i64 sz, .int .i64 al], .tok]) (by omega) (by simp [hl]) (by omega) (by push_cast; omega) (CapAt.new (by rw [spendAt_len]) 1 rfl)
      obtain ⟨t', ih2⟩ := ih2
      refine ⟨t', ?_⟩
      push_cast at ih2
      rw [Brun_loop, hbody, bthen_normal]
      cases hl2 : lay (sl.drop (i + 1)) (upI n al + sz) with
      | none =>
        rw [hl2] at ih2
        exact ih2
      | some r =>
        obtain ⟨l', n'⟩ := r
        rw [hl2] at ih2
        dsimp only at ih2 ⊢
        rw [List.append_assoc] at ih2
        exact ih2
    · rw [if_neg hf]
      refine ⟨t ++ [.cells [.int .i64 sz, .int .i64 al]], ?_⟩
      intro hR
      subst hR
      exact ⟨_, by rw [Brun_loop, of_bodyN sl a0 a1 a2 a3 a5 cs _ i n sz al t hi1 hget hf]; rfl⟩

end Go.Proofs.Ytlmgkbdcpaojlaa
