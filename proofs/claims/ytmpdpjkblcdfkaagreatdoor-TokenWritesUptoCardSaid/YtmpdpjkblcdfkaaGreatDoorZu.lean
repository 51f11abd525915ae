/- Rows of tokens. -/
import Derived.Test.YtmpdpjkblcdfkaaGreatDoorZm
import Derived.Test.YtmpdpjkblcdfkaaGreatDoorAmW
namespace Go.Proofs.YtmpdpjkblcdfkaaGreatDoor
open Go.AM
set_option maxRecDepth 20000
set_option maxHeartbeats 4000000
set_option linter.unusedSimpArgs false
set_option linter.unusedVariables false
attribute [local congr] andF_cg onF_cg bthen_cg bkeep_cg bcond_cg guardV_cg putF_cg guardF_cg ite_cg stepsF_cg
attribute [local simp] Brun_skip Brun_exit Brun_ret Brun_seq Brun_cond Brun_block Brun_region bthen_normal bthen_ret bthen_exit bblock_normal bblock_ret bblock_exit bkeep_some andF_some onF_some onF_none guardF_none guardF_some guardV_tup putF_some putF_none stepsF_nil stepsF_cons upd_apply ofL_cons ofL_nil bown_normal bown_ret banswer_normal banswer_ret aresults ares List.replicate stepF_call stepF_callD stepF_move stepF_pick stepF_alloc stepF_allocV stepF_box stepF_boxV stepF_build stepF_buildSlice stepF_buildSliceV stepF_load stepF_store stepF_nilCheck stepF_bin stepF_eq stepF_un stepF_conv stepF_strId stepF_toStr stepF_toBytes stepF_fn stepF_mkSlice stepF_slice stepF_strSlice stepF_fieldAddr stepF_field stepF_idxAddr stepF_idxArr stepF_index stepF_strIndex stepF_extract stepF_len0 stepF_len1 stepF_min stepF_max stepF_append stepF_appendF appF_none appF_row stepF_mkMap stepF_mkIface stepF_lookup stepF_mapUpdate stepF_ext aext_idx aext_count aext_same cellsF newF abin_add abin_sub abin_mul abin_quo abin_rem abin_eql abin_neq abin_lss abin_leq abin_gtr abin_geq abin_and abin_or abin_xor abin_shl abin_shr abin_seql abin_sneq aun_not aun_neg aeq_bool aeq_agg eqCells_nil eqCells_int eqCells_bool eqCells_str cellsOf_agg cellsOf_int cellsOf_bool cellsOf_str cellsOf_is cellsOf_ms cellsOf_fn cellsOf_nilp cellsOf_mp cellsOf_mm cellsOf_nilm cellsOf_nili cellsOf_ifc cellsOf_ip cget_one cget_agg ev_t ev_c fillp_nil fillp_cons isSc_int isSc_bool isSc_str isSc_is isSc_ms isSc_fn isSc_mm isSc_mp isSc_ip isSc_nilp isSc_nilm isSc_nili isSc_nilf isSc_ifc splice chunk strip strip.stripL imm imm.immL Areify_int Areify_bool Areify_str Areify_is Areify_nilp Areify_tup Areify_agg AreifyL andF_chi andF_ch onF_chi onF_ch bthen_ch bthen_chi bblock_ch bblock_chi bkeep_ch bkeep_chi bown_ch bown_chi banswer_ch banswer_chi isSome_ch bcond_ch guardV_ch1 guardV_ch0 chF_true chF_false chF_not
attribute [local simp ↓] andF_some andF_chi andF_ch onF_some onF_none onF_chi onF_ch bthen_normal bthen_ret bthen_exit bthen_ch bthen_chi bblock_normal bblock_ret bblock_exit bblock_ch bblock_chi bkeep_some bkeep_ch bkeep_chi bown_normal bown_ret bown_ch bown_chi banswer_normal banswer_ret banswer_ch banswer_chi bcond_ch guardV_ch1 guardV_ch0 guardV_tup guardF_none guardF_some putF_some putF_none stepsF_nil stepsF_cons chF_true chF_false Brun_seq Brun_cond Brun_block Brun_region Brun_skip Brun_ret Brun_exit stepF_call stepF_callD stepF_move stepF_pick stepF_alloc stepF_allocV stepF_box stepF_boxV stepF_build stepF_buildSlice stepF_buildSliceV stepF_load stepF_store stepF_nilCheck stepF_bin stepF_eq stepF_un stepF_conv stepF_strId stepF_toStr stepF_toBytes stepF_fn stepF_mkSlice stepF_slice stepF_strSlice stepF_fieldAddr stepF_field stepF_idxAddr stepF_idxArr stepF_index stepF_strIndex stepF_extract stepF_len0 stepF_len1 stepF_min stepF_max stepF_append stepF_appendF stepF_mkMap stepF_mkIface stepF_lookup stepF_mapUpdate stepF_ext
set_option maxHeartbeats 2000000
abbrev Y6 := Int × List UInt8 × Int × Int × Int × Int
def row6 (y : Y6) : List AV := [.int .i64 y.1, .str y.2.1, .int .i64 y.2.2.1, .int .i64 y.2.2.2.1, .int .i64 y.2.2.2.2.1, .int .i64 y.2.2.2.2.2]
def rows6 (l : List Y6) : List (List AV) := l.map row6
theorem rows6_len (l : List Y6) : (rows6 l).length = l.length := by simp [rows6]
theorem same_loop (l : List Y6) (c1 c2 : Cap) (hs : l.length ≤ 16777216) (h : Heap) : ∀ (m i : Nat), i + m = l.length →
    Brun tab 26 (.loop f7l4) (ofL [(0, .is (rows6 l) c1), (1, .is (rows6 l) c2), (5, .int .i64 i)]) h = some (.exit 0, ofL [(0, .is (rows6 l) c1), (1, .is (rows6 l) c2), (5, .int .i64 l.length), (14, .bool false)], h) := by
  intro m
  induction m with
  | zero =>
    intro i hi
    have e3 : (l.length : Int) = i := by omega
    have hl6 := rows6_len l
    rw [Brun_loop]
    clear hi hs
    repeat (any_goals first | simp (dsimp := false) (maxSteps := 4000000) (maxDischargeDepth := 8) (implicitDefEqProofs := false) [*, -Int.not_le, -Int.not_lt, amLt, f7c, f7m4, f7q5, f7r0, f7r1, f7r2, f7r3, f7r4, f7r6, f7r7, f7r8, f7l4_b, f7r5_u, f7r5_w] | with_reducible refine ch_both (fun _ => ?_) (fun _ => ?_) | with_reducible refine ite_both (fun _ => ?_) (fun _ => ?_) | intro _)
  | succ m ih =>
    intro i hi
    have hlt : i < l.length := by omega
    have hg : (rows6 l)[i]? = some (row6 l[i]) := by simp [rows6, hlt]
    generalize l[i] = y at *
    unfold row6 at hg
    have hl6 := rows6_len l
    have e3 : ¬ (l.length : Int) ≤ i := by omega
    have hw := w64 i (by omega)
    have ih2 := ih (i + 1) (by omega)
    push_cast at ih2
    rw [Brun_loop, ← ih2]
    clear hi hs hlt ih ih2
    repeat (any_goals first | simp (dsimp := false) (maxSteps := 4000000) (maxDischargeDepth := 8) (implicitDefEqProofs := false) [*, -Int.not_le, -Int.not_lt, amLt, f7c, f7m4, f7q5, f7r0, f7r1, f7r2, f7r3, f7r4, f7r6, f7r7, f7r8, f7l4_b, f7r5_u, f7r5_w] | with_reducible refine ch_both (fun _ => ?_) (fun _ => ?_) | with_reducible refine ite_both (fun _ => ?_) (fun _ => ?_) | intro _)
theorem same_ok (h : Heap) (l : List Y6) (c1 c2 : Cap) (hs : l.length ≤ 16777216) : Ccall tab 7 [.is (rows6 l) c1, .is (rows6 l) c2] h = some (.bool true, h) := by
  have lp := same_loop l .no .no hs [] l.length 0 (by omega)
  have hl6 := rows6_len l
  refine Ccall_own rfl rfl rfl rfl ?_
  push_cast at lp
  clear hs
  repeat (any_goals first | simp (dsimp := false) (maxSteps := 4000000) (maxDischargeDepth := 8) (implicitDefEqProofs := false) [*, -Int.not_le, -Int.not_lt, amLt, f7c, f7m4, f7q5, f7r0, f7r1, f7r2, f7r3, f7r4, f7r6, f7r7, f7r8, f7l4_b, f7r5_u, f7r5_w] | with_reducible refine ch_both (fun _ => ?_) (fun _ => ?_) | with_reducible refine ite_both (fun _ => ?_) (fun _ => ?_) | intro _)

end Go.Proofs.YtmpdpjkblcdfkaaGreatDoor
