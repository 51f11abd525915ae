/- Chapter 23: FrameLays's functions walked. -/
import Derived.Test.YtlmgkbdcpaojlaaVa
import Derived.Test.YtlmgkbdcpaojlaaAmW
namespace Go.Proofs.Ytlmgkbdcpaojlaa
open Go.AM
set_option maxRecDepth 20000
set_option maxHeartbeats 4000000
set_option linter.unusedSimpArgs false
set_option linter.unusedVariables false
attribute [local congr] andF_cg onF_cg bthen_cg bkeep_cg bcond_cg guardV_cg putF_cg guardF_cg ite_cg stepsF_cg
attribute [local simp] Brun_skip Brun_exit Brun_ret Brun_seq Brun_cond Brun_block Brun_region bthen_normal bthen_ret bthen_exit bblock_normal bblock_ret bblock_exit bkeep_some andF_some onF_some onF_none guardF_none guardF_some guardV_tup putF_some putF_none stepsF_nil stepsF_cons upd_apply ofL_cons ofL_nil bown_normal bown_ret banswer_normal banswer_ret aresults ares List.replicate stepF_call stepF_callD stepF_move stepF_pick stepF_alloc stepF_allocV stepF_box stepF_boxV stepF_build stepF_buildSlice stepF_buildSliceV stepF_load stepF_store stepF_nilCheck stepF_bin stepF_eq stepF_un stepF_conv stepF_strId stepF_toStr stepF_toBytes stepF_fn stepF_mkSlice stepF_slice stepF_strSlice stepF_fieldAddr stepF_field stepF_idxAddr stepF_idxArr stepF_index stepF_strIndex stepF_extract stepF_len0 stepF_len1 stepF_min stepF_max stepF_append stepF_appendF appF_none appF_row stepF_mkMap stepF_mkIface stepF_lookup stepF_mapUpdate cellsF newF abin_add abin_sub abin_mul abin_quo abin_rem abin_eql abin_neq abin_lss abin_leq abin_gtr abin_geq abin_and abin_or abin_xor abin_shl abin_shr abin_seql abin_sneq aun_not aun_neg aeq_bool aeq_agg eqCells_nil eqCells_int eqCells_bool eqCells_str cellsOf_agg cellsOf_int cellsOf_bool cellsOf_str cellsOf_is cellsOf_ms cellsOf_fn cellsOf_nilp cellsOf_mp cellsOf_mm cellsOf_nilm cellsOf_nili cellsOf_ifc cellsOf_ip cget_one cget_agg ev_t ev_c fillp_nil fillp_cons isSc_int isSc_bool isSc_str isSc_is isSc_ms isSc_fn isSc_mm isSc_mp isSc_ip isSc_nilp isSc_nilm isSc_nili isSc_nilf isSc_ifc splice chunk strip strip.stripL imm imm.immL Areify_int Areify_bool Areify_str Areify_is Areify_nilp Areify_tup Areify_agg AreifyL andF_chi andF_ch onF_chi onF_ch bthen_ch bthen_chi bblock_ch bblock_chi bkeep_ch bkeep_chi bown_ch bown_chi banswer_ch banswer_chi isSome_ch bcond_ch guardV_ch1 guardV_ch0 chF_true chF_false chF_not
attribute [local simp ↓] andF_some andF_chi andF_ch onF_some onF_none onF_chi onF_ch bthen_normal bthen_ret bthen_exit bthen_ch bthen_chi bblock_normal bblock_ret bblock_exit bblock_ch bblock_chi bkeep_some bkeep_ch bkeep_chi bown_normal bown_ret bown_ch bown_chi banswer_normal banswer_ret banswer_ch banswer_chi bcond_ch guardV_ch1 guardV_ch0 guardV_tup guardF_none guardF_some putF_some putF_none stepsF_nil stepsF_cons chF_true chF_false Brun_seq Brun_cond Brun_block Brun_region Brun_skip Brun_ret Brun_exit stepF_call stepF_callD stepF_move stepF_pick stepF_alloc stepF_allocV stepF_box stepF_boxV stepF_build stepF_buildSlice stepF_buildSliceV stepF_load stepF_store stepF_nilCheck stepF_bin stepF_eq stepF_un stepF_conv stepF_strId stepF_toStr stepF_toBytes stepF_fn stepF_mkSlice stepF_slice stepF_strSlice stepF_fieldAddr stepF_field stepF_idxAddr stepF_idxArr stepF_index stepF_strIndex stepF_extract stepF_len0 stepF_len1 stepF_min stepF_max stepF_append stepF_appendF stepF_mkMap stepF_mkIface stepF_lookup stepF_mapUpdate
def ofAns (temps : Int) (sl : List (Int × Int)) : Option (List Int × Int × Int × Int) :=
  if 256 < sl.length ∨ temps < 0 ∨ 10 < temps then none else
  match lay sl 0 with
  | none => none
  | some (l, n) => if 65536 < upI (upI n 4 + 4 * temps + 4) 8 then none else some (l, upI n 4, upI n 4 + 4 * temps, upI (upI n 4 + 4 * temps + 4) 8)
def ofV : Option (List Int × Int × Int × Int) → AV
  | some (l, a, b, c) => .tup [.agg [.is (ints l) .no, .int .i64 a, .int .i64 b, .int .i64 c], .int .i64 0]
  | none => .tup [.agg [.is [] .no, .int .i64 0, .int .i64 0, .int .i64 0], .int .i64 250]
theorem lay_in : ∀ (sl : List (Int × Int)) (n : Int) (l : List Int) (k : Int), 0 ≤ n → lay sl n = some (l, k) → 0 ≤ k ∧ k ≤ n + sl.length * 16400 := by
  intro sl
  induction sl with
  | nil => intro n l k h0 h; simp only [lay, Option.some.injEq, Prod.mk.injEq] at h; obtain ⟨_, rfl⟩ := h; simp; exact h0
  | cons s r ih =>
    intro n l k h0 h
    simp only [lay] at h
    by_cases hf : fitsB s = true
    · rw [if_pos hf] at h
      have hf2 := hf
      simp only [fitsB, Bool.and_eq_true, decide_eq_true_eq] at hf2
      have hu := upI_in (n := n) (a := s.2) h0 (by omega)
      cases hl : lay r (upI n s.2 + s.1) with
      | none => rw [hl] at h; cases h
      | some q =>
        obtain ⟨l2, k2⟩ := q
        rw [hl] at h
        simp only [Option.some.injEq, Prod.mk.injEq] at h
        obtain ⟨_, rfl⟩ := h
        have := ih _ _ _ (by omega) hl
        simp only [List.length_cons]
        push_cast
        omega
    · rw [if_neg hf] at h; cases h
theorem ints_nil : ints [] = [] := rfl
theorem of_ok' (h : Heap) (nm : List UInt8) (pr temps : Int) (gv : Bool) (sl : List (Int × Int)) (code : List (List AV)) : Ccall tab 8 [.agg [.str nm, .int .i64 pr, .int .i64 temps, .bool gv, .is (pairs sl) .no, .is code .no]] h = some (ofV (ofAns temps sl), h) := by
  refine Ccall_own rfl rfl rfl rfl ?_
  by_cases h1 : 256 < sl.length
  · have e : ofAns temps sl = none := by simp [ofAns, h1]
    rw [e]
    have h2 : ¬ (sl.length : Int) ≤ 256 := by omega
    clear e h1
    repeat (any_goals first | simp (dsimp := false) (maxSteps := 4000000) (maxDischargeDepth := 8) (implicitDefEqProofs := false) [*, -Int.not_le, -Int.not_lt, amLt, f8c, f8m6, f8r0, f8r1, f8r2, f8r3, f8r4, f8r5, f8r6, f8r7, f8r8, f8r9, f8r10, f8r11, f8r12, f8r13, f8r14, f8r15, f8r16, f8r17, f8r18, f8r19, f8l6_b, pairs_len, ofV] | with_reducible refine ch_both (fun _ => ?_) (fun _ => ?_) | with_reducible refine ite_both (fun _ => ?_) (fun _ => ?_) | intro _)
  · by_cases h2 : temps < 0 ∨ 10 < temps
    · have e : ofAns temps sl = none := by simp [ofAns, h2]
      rw [e]
      have h3 : (sl.length : Int) ≤ 256 := by omega
      rcases h2 with h2 | h2
      all_goals clear e h1
      · repeat (any_goals first | simp (dsimp := false) (maxSteps := 4000000) (maxDischargeDepth := 8) (implicitDefEqProofs := false) [*, -Int.not_le, -Int.not_lt, amLt, f8c, f8m6, f8r0, f8r1, f8r2, f8r3, f8r4, f8r5, f8r6, f8r7, f8r8, f8r9, f8r10, f8r11, f8r12, f8r13, f8r14, f8r15, f8r16, f8r17, f8r18, f8r19, f8l6_b, pairs_len, ofV] | with_reducible refine ch_both (fun _ => ?_) (fun _ => ?_) | with_reducible refine ite_both (fun _ => ?_) (fun _ => ?_) | intro _)
      · repeat (any_goals first | simp (dsimp := false) (maxSteps := 4000000) (maxDischargeDepth := 8) (implicitDefEqProofs := false) [*, -Int.not_le, -Int.not_lt, amLt, f8c, f8m6, f8r0, f8r1, f8r2, f8r3, f8r4, f8r5, f8r6, f8r7, f8r8, f8r9, f8r10, f8r11, f8r12, f8r13, f8r14, f8r15, f8r16, f8r17, f8r18, f8r19, f8l6_b, pairs_len, ofV] | with_reducible refine ch_both (fun _ => ?_) (fun _ => ?_) | with_reducible refine ite_both (fun _ => ?_) (fun _ => ?_) | intro _)
        all_goals omega
    · have h3 : (sl.length : Int) ≤ 256 := by omega
      have h4 : 0 ≤ temps := by omega
      have h5 : temps ≤ 10 := by omega
      obtain ⟨t', hl⟩ := of_loop sl (.str nm) (.int .i64 pr) (.int .i64 temps) (.bool gv) (.is code .no) .no (.cells [.is [] .nil, .int .i64 0, .int .i64 0, .int .i64 0]) (by omega) sl.length 0 [] 0 .nil [] (by omega) rfl (by omega) (by omega) (CapAt.nil ..)
      simp only [List.drop_zero, List.nil_append, ints_nil, Int.natCast_zero] at hl
      cases hy : lay sl 0 with
      | none =>
        have e : ofAns temps sl = none := by simp [ofAns, hy]
        rw [e]
        rw [hy] at hl
        obtain ⟨y, hl⟩ := hl trivial
        clear e h1 h2
        repeat (any_goals first | simp (dsimp := false) (maxSteps := 4000000) (maxDischargeDepth := 8) (implicitDefEqProofs := false) [*, -Int.not_le, -Int.not_lt, amLt, f8c, f8m6, f8r0, f8r1, f8r2, f8r3, f8r4, f8r5, f8r6, f8r7, f8r8, f8r9, f8r10, f8r11, f8r12, f8r13, f8r14, f8r15, f8r16, f8r17, f8r18, f8r19, f8l6_b, pairs_len, ofV] | with_reducible refine ch_both (fun _ => ?_) (fun _ => ?_) | with_reducible refine ite_both (fun _ => ?_) (fun _ => ?_) | intro _)
      | some r =>
        obtain ⟨l, n⟩ := r
        rw [hy] at hl
        obtain ⟨cap', hl⟩ := hl
        have hn := lay_in sl 0 l n (by omega) hy
        have u1 := upI_in (n := n) (a := 4) hn.1 (by omega)
        have u2 := upI_in (n := upI n 4 + 4 * temps + 4) (a := 8) (by omega) (by omega)
        have p1 := fun h => up_ok h n 4 (by omega) (by omega)
        have p2 := fun h => up_ok h (upI n 4 + 4 * temps + 4) 8 (by omega) (by omega)
        have w1 : IntKind.i64.wrap (4 * temps) = 4 * temps := wrap_in (by omega)
        have w2 : IntKind.i64.wrap (upI n 4 + 4 * temps) = upI n 4 + 4 * temps := wrap_in (by omega)
        have w3 : IntKind.i64.wrap (upI n 4 + 4 * temps + 4) = upI n 4 + 4 * temps + 4 := wrap_in (by omega)
        by_cases h6 : upI (upI n 4 + 4 * temps + 4) 8 ≤ 65536
        · have e : ofAns temps sl = some (l, upI n 4, upI n 4 + 4 * temps, upI (upI n 4 + 4 * temps + 4) 8) := by
            rw [ofAns, if_neg (by omega), hy]
            dsimp only
            rw [if_neg (by omega)]
          rw [e]
          clear e h1 h2 hn u1 u2 hy
          repeat (any_goals first | simp (dsimp := false) (maxSteps := 4000000) (maxDischargeDepth := 8) (implicitDefEqProofs := false) [*, -Int.not_le, -Int.not_lt, amLt, f8c, f8m6, f8r0, f8r1, f8r2, f8r3, f8r4, f8r5, f8r6, f8r7, f8r8, f8r9, f8r10, f8r11, f8r12, f8r13, f8r14, f8r15, f8r16, f8r17, f8r18, f8r19, f8l6_b, pairs_len, ofV] | with_reducible refine ch_both (fun _ => ?_) (fun _ => ?_) | with_reducible refine ite_both (fun _ => ?_) (fun _ => ?_) | intro _)
        · have e : ofAns temps sl = none := by
            rw [ofAns, if_neg (by omega), hy]
            dsimp only
            rw [if_pos (by omega)]
          rw [e]
          clear e h1 h2 hn u1 u2 hy
          repeat (any_goals first | simp (dsimp := false) (maxSteps := 4000000) (maxDischargeDepth := 8) (implicitDefEqProofs := false) [*, -Int.not_le, -Int.not_lt, amLt, f8c, f8m6, f8r0, f8r1, f8r2, f8r3, f8r4, f8r5, f8r6, f8r7, f8r8, f8r9, f8r10, f8r11, f8r12, f8r13, f8r14, f8r15, f8r16, f8r17, f8r18, f8r19, f8l6_b, pairs_len, ofV] | with_reducible refine ch_both (fun _ => ?_) (fun _ => ?_) | with_reducible refine ite_both (fun _ => ?_) (fun _ => ?_) | intro _)

end Go.Proofs.Ytlmgkbdcpaojlaa
