/- Chapter 23: FrameLays's functions walked. -/
import Derived.Test.YtlmgkbdcpaojlaaVd
import Derived.Test.YtlmgkbdcpaojlaaAmW
namespace Go.Proofs.Ytlmgkbdcpaojlaa
open Go.AM
set_option maxRecDepth 20000
set_option maxHeartbeats 4000000
set_option linter.unusedSimpArgs false
set_option linter.unusedVariables false
attribute [local congr] andF_cg onF_cg bthen_cg bkeep_cg bcond_cg guardV_cg putF_cg guardF_cg ite_cg stepsF_cg
attribute [local simp] Brun_skip Brun_exit Brun_ret Brun_seq Brun_cond Brun_block Brun_region bthen_normal bthen_ret bthen_exit bblock_normal bblock_ret bblock_exit bkeep_some andF_some onF_some onF_none guardF_none guardF_some guardV_tup putF_some putF_none stepsF_nil stepsF_cons upd_apply ofL_cons ofL_nil bown_normal bown_ret banswer_normal banswer_ret aresults ares List.replicate stepF_call stepF_callD stepF_move stepF_pick stepF_alloc stepF_allocV stepF_box stepF_boxV stepF_build stepF_buildSlice stepF_buildSliceV stepF_load stepF_store stepF_nilCheck stepF_bin stepF_eq stepF_un stepF_conv stepF_strId stepF_toStr stepF_toBytes stepF_fn stepF_mkSlice stepF_slice stepF_strSlice stepF_fieldAddr stepF_field stepF_idxAddr stepF_idxArr stepF_index stepF_strIndex stepF_extract stepF_len0 stepF_len1 stepF_min stepF_max stepF_append stepF_appendF appF_none appF_row stepF_mkMap stepF_mkIface stepF_lookup stepF_mapUpdate cellsF newF abin_add abin_sub abin_mul abin_quo abin_rem abin_eql abin_neq abin_lss abin_leq abin_gtr abin_geq abin_and abin_or abin_xor abin_shl abin_shr abin_seql abin_sneq aun_not aun_neg aeq_bool aeq_agg eqCells_nil eqCells_int eqCells_bool eqCells_str cellsOf_agg cellsOf_int cellsOf_bool cellsOf_str cellsOf_is cellsOf_ms cellsOf_fn cellsOf_nilp cellsOf_mp cellsOf_mm cellsOf_nilm cellsOf_nili cellsOf_ifc cellsOf_ip cget_one cget_agg ev_t ev_c fillp_nil fillp_cons isSc_int isSc_bool isSc_str isSc_is isSc_ms isSc_fn isSc_mm isSc_mp isSc_ip isSc_nilp isSc_nilm isSc_nili isSc_nilf isSc_ifc splice chunk strip strip.stripL imm imm.immL Areify_int Areify_bool Areify_str Areify_is Areify_nilp Areify_tup Areify_agg AreifyL andF_chi andF_ch onF_chi onF_ch bthen_ch bthen_chi bblock_ch bblock_chi bkeep_ch bkeep_chi bown_ch bown_chi banswer_ch banswer_chi isSome_ch bcond_ch guardV_ch1 guardV_ch0 chF_true chF_false chF_not
attribute [local simp ↓] andF_some andF_chi andF_ch onF_some onF_none onF_chi onF_ch bthen_normal bthen_ret bthen_exit bthen_ch bthen_chi bblock_normal bblock_ret bblock_exit bblock_ch bblock_chi bkeep_some bkeep_ch bkeep_chi bown_normal bown_ret bown_ch bown_chi banswer_normal banswer_ret banswer_ch banswer_chi bcond_ch guardV_ch1 guardV_ch0 guardV_tup guardF_none guardF_some putF_some putF_none stepsF_nil stepsF_cons chF_true chF_false Brun_seq Brun_cond Brun_block Brun_region Brun_skip Brun_ret Brun_exit stepF_call stepF_callD stepF_move stepF_pick stepF_alloc stepF_allocV stepF_box stepF_boxV stepF_build stepF_buildSlice stepF_buildSliceV stepF_load stepF_store stepF_nilCheck stepF_bin stepF_eq stepF_un stepF_conv stepF_strId stepF_toStr stepF_toBytes stepF_fn stepF_mkSlice stepF_slice stepF_strSlice stepF_fieldAddr stepF_field stepF_idxAddr stepF_idxArr stepF_index stepF_strIndex stepF_extract stepF_len0 stepF_len1 stepF_min stepF_max stepF_append stepF_appendF stepF_mkMap stepF_mkIface stepF_lookup stepF_mapUpdate
theorem place (n sz al : Int) (h1 : 0 ≤ n ∧ n ≤ 100000000000) (h2 : 1 ≤ al ∧ al ≤ 8) (h3 : 0 ≤ sz ∧ sz ≤ 100000) (R Y : Blk) (t : Heap) :
    Ccall tab 15 [.int .i64 sz, .int .i64 al, .mp 2 0] (R :: Y :: .cells [.int .i64 n] :: t) = some (.int .i64 (upI n al), R :: Y :: .cells [.int .i64 (upI n al + sz)] :: t) := by
  rw [Ccall, take n sz al h1 h2 h3]
  rfl
theorem up4 (n k : Int) : upI (upI n 4 + 4 * k) 4 = upI n 4 + 4 * k := by unfold upI; omega
theorem of_ok (h : Heap) (nm : List UInt8) (pr temps : Int) (gv : Bool) (sl : List (Int × Int)) (code : List (List AV)) : Ccall tab 7 [.agg [.str nm, .int .i64 pr, .int .i64 temps, .bool gv, .is (pairs sl) .no, .is code .no]] h = some (ofV (ofAns temps sl), h) := by
  refine Ccall_own rfl rfl rfl rfl ?_
  by_cases h1 : 256 < sl.length
  · have e : ofAns temps sl = none := by simp [ofAns, h1]
    rw [e]
    have h2 : ¬ (sl.length : Int) ≤ 256 := by omega
    clear e h1
    repeat (any_goals first | simp (dsimp := false) (maxSteps := 4000000) (maxDischargeDepth := 8) (implicitDefEqProofs := false) [*, -Int.not_le, -Int.not_lt, amLt, f7c, f7m7, f7r0, f7r1, f7r2, f7r3, f7r4, f7r5, f7r6, f7r7, f7r8, f7r9, f7r10, f7r12, f7r13, f7r14, f7r15, f7r16, f7r17, f7r18, f7l7_b, pairs_len, ofV] | with_reducible refine ch_both (fun _ => ?_) (fun _ => ?_) | with_reducible refine ite_both (fun _ => ?_) (fun _ => ?_) | intro _)
  · by_cases h2 : temps < 0 ∨ 10 < temps
    · have e : ofAns temps sl = none := by simp [ofAns, h2]
      rw [e]
      have h3 : (sl.length : Int) ≤ 256 := by omega
      rcases h2 with h2 | h2
      all_goals clear e h1
      · repeat (any_goals first | simp (dsimp := false) (maxSteps := 4000000) (maxDischargeDepth := 8) (implicitDefEqProofs := false) [*, -Int.not_le, -Int.not_lt, amLt, f7c, f7m7, f7r0, f7r1, f7r2, f7r3, f7r4, f7r5, f7r6, f7r7, f7r8, f7r9, f7r10, f7r12, f7r13, f7r14, f7r15, f7r16, f7r17, f7r18, f7l7_b, pairs_len, ofV] | with_reducible refine ch_both (fun _ => ?_) (fun _ => ?_) | with_reducible refine ite_both (fun _ => ?_) (fun _ => ?_) | intro _)
      · repeat (any_goals first | simp (dsimp := false) (maxSteps := 4000000) (maxDischargeDepth := 8) (implicitDefEqProofs := false) [*, -Int.not_le, -Int.not_lt, amLt, f7c, f7m7, f7r0, f7r1, f7r2, f7r3, f7r4, f7r5, f7r6, f7r7, f7r8, f7r9, f7r10, f7r12, f7r13, f7r14, f7r15, f7r16, f7r17, f7r18, f7l7_b, pairs_len, ofV] | with_reducible refine ch_both (fun _ => ?_) (fun _ => ?_) | with_reducible refine ite_both (fun _ => ?_) (fun _ => ?_) | intro _)
        all_goals omega
    · have h3 : (sl.length : Int) ≤ 256 := by omega
      have h4 : 0 ≤ temps := by omega
      have h5 : temps ≤ 10 := by omega
      have hl := fl_loop (.ip [.str nm, .int .i64 pr, .int .i64 temps, .bool gv, .is (pairs sl) .no, .is code .no] 0) sl (.cells [.is [] .nil, .int .i64 0, .int .i64 0, .int .i64 0]) (by omega) sl.length 0 [] 0 .nil [] (by omega) rfl (by omega) (by omega) (.inl ⟨rfl, rfl⟩)
      simp only [List.drop_zero, List.nil_append, ints_nil, Int.natCast_zero] at hl
      cases hy : lay sl 0 with
      | none =>
        have e : ofAns temps sl = none := by simp [ofAns, hy]
        rw [e]
        rw [hy] at hl
        obtain ⟨y, t', hl⟩ := hl trivial
        clear e h1 h2
        repeat (any_goals first | simp (dsimp := false) (maxSteps := 4000000) (maxDischargeDepth := 8) (implicitDefEqProofs := false) [*, -Int.not_le, -Int.not_lt, amLt, f7c, f7m7, f7r0, f7r1, f7r2, f7r3, f7r4, f7r5, f7r6, f7r7, f7r8, f7r9, f7r10, f7r12, f7r13, f7r14, f7r15, f7r16, f7r17, f7r18, f7l7_b, pairs_len, ofV] | with_reducible refine ch_both (fun _ => ?_) (fun _ => ?_) | with_reducible refine ite_both (fun _ => ?_) (fun _ => ?_) | intro _)
      | some r =>
        obtain ⟨l, n⟩ := r
        rw [hy] at hl
        obtain ⟨cap', t', hl⟩ := hl
        have hn := lay_in sl 0 l n (by omega) hy
        have u1 := upI_in (n := n) (a := 4) hn.1 (by omega)
        have u2 := upI_in (n := upI n 4 + 4 * temps + 4) (a := 8) (by omega) (by omega)
        have p1 := place n (4 * temps) 4 (by omega) (by omega) (by omega)
        have p2 := place (upI n 4 + 4 * temps) 4 4 (by omega) (by omega) (by omega)
        rw [up4] at p2
        have p3 := fun h => fup_ok h (upI n 4 + 4 * temps + 4) 8 (by omega) (by omega)
        have w1 : IntKind.i64.wrap (4 * temps) = 4 * temps := wrap_in (by omega)
        by_cases h6 : upI (upI n 4 + 4 * temps + 4) 8 ≤ 65536
        · have e : ofAns temps sl = some (l, upI n 4, upI n 4 + 4 * temps, upI (upI n 4 + 4 * temps + 4) 8) := by
            rw [ofAns, if_neg (by omega), hy]
            dsimp only
            rw [if_neg (by omega)]
          rw [e]
          clear e h1 h2 hn u1 u2 hy
          repeat (any_goals first | simp (dsimp := false) (maxSteps := 4000000) (maxDischargeDepth := 8) (implicitDefEqProofs := false) [*, -Int.not_le, -Int.not_lt, amLt, f7c, f7m7, f7r0, f7r1, f7r2, f7r3, f7r4, f7r5, f7r6, f7r7, f7r8, f7r9, f7r10, f7r12, f7r13, f7r14, f7r15, f7r16, f7r17, f7r18, f7l7_b, pairs_len, ofV] | with_reducible refine ch_both (fun _ => ?_) (fun _ => ?_) | with_reducible refine ite_both (fun _ => ?_) (fun _ => ?_) | intro _)
        · have e : ofAns temps sl = none := by
            rw [ofAns, if_neg (by omega), hy]
            dsimp only
            rw [if_pos (by omega)]
          rw [e]
          clear e h1 h2 hn u1 u2 hy
          repeat (any_goals first | simp (dsimp := false) (maxSteps := 4000000) (maxDischargeDepth := 8) (implicitDefEqProofs := false) [*, -Int.not_le, -Int.not_lt, amLt, f7c, f7m7, f7r0, f7r1, f7r2, f7r3, f7r4, f7r5, f7r6, f7r7, f7r8, f7r9, f7r10, f7r12, f7r13, f7r14, f7r15, f7r16, f7r17, f7r18, f7l7_b, pairs_len, ofV] | with_reducible refine ch_both (fun _ => ?_) (fun _ => ?_) | with_reducible refine ite_both (fun _ => ?_) (fun _ => ?_) | intro _)

end Go.Proofs.Ytlmgkbdcpaojlaa
