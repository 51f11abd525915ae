/- A table that no call made is refused by all. -/
import Derived.Test.YtjggeonachlebaaDoorFns
import Derived.Test.YtjggeonachlebaaDoorHd
import Derived.Test.YtjggeonachlebaaDoorAmW
namespace Go.Proofs.YtjggeonachlebaaDoor
open Go.AM
set_option maxRecDepth 20000
set_option maxHeartbeats 4000000
set_option linter.unusedSimpArgs false
set_option linter.unusedVariables false
attribute [local congr] andF_cg onF_cg bthen_cg bkeep_cg bcond_cg guardV_cg putF_cg guardF_cg ite_cg stepsF_cg
attribute [local simp] Brun_skip Brun_exit Brun_ret Brun_seq Brun_cond Brun_block Brun_region bthen_normal bthen_ret bthen_exit bblock_normal bblock_ret bblock_exit bkeep_some andF_some onF_some onF_none guardF_none guardF_some guardV_tup putF_some putF_none stepsF_nil stepsF_cons upd_apply ofL_cons ofL_nil bown_normal bown_ret banswer_normal banswer_ret aresults ares List.replicate stepF_call stepF_callD stepF_move stepF_pick stepF_alloc stepF_allocV stepF_box stepF_boxV stepF_build stepF_buildSlice stepF_buildSliceV stepF_load stepF_store stepF_nilCheck stepF_bin stepF_eq stepF_un stepF_conv stepF_strId stepF_toStr stepF_toBytes stepF_fn stepF_mkSlice stepF_slice stepF_strSlice stepF_fieldAddr stepF_field stepF_idxAddr stepF_idxArr stepF_index stepF_strIndex stepF_extract stepF_len0 stepF_len1 stepF_min stepF_max stepF_append stepF_appendF appF_none appF_row stepF_mkMap stepF_mkIface stepF_lookup stepF_mapUpdate stepF_ext aext_idx aext_count aext_same cellsF newF abin_add abin_sub abin_mul abin_quo abin_rem abin_eql abin_neq abin_lss abin_leq abin_gtr abin_geq abin_and abin_or abin_xor abin_shl abin_shr abin_seql abin_sneq aun_not aun_neg aeq_bool aeq_agg eqCells_nil eqCells_int eqCells_bool eqCells_str cellsOf_agg cellsOf_int cellsOf_bool cellsOf_str cellsOf_is cellsOf_ms cellsOf_fn cellsOf_nilp cellsOf_mp cellsOf_mm cellsOf_nilm cellsOf_nili cellsOf_ifc cellsOf_ip cget_one cget_agg ev_t ev_c fillp_nil fillp_cons isSc_int isSc_bool isSc_str isSc_is isSc_ms isSc_fn isSc_mm isSc_mp isSc_ip isSc_nilp isSc_nilm isSc_nili isSc_nilf isSc_ifc splice chunk strip strip.stripL imm imm.immL Areify_int Areify_bool Areify_str Areify_is Areify_nilp Areify_tup Areify_agg AreifyL andF_chi andF_ch onF_chi onF_ch bthen_ch bthen_chi bblock_ch bblock_chi bkeep_ch bkeep_chi bown_ch bown_chi banswer_ch banswer_chi isSome_ch bcond_ch guardV_ch1 guardV_ch0 chF_true chF_false chF_not
attribute [local simp ↓] andF_some andF_chi andF_ch onF_some onF_none onF_chi onF_ch bthen_normal bthen_ret bthen_exit bthen_ch bthen_chi bblock_normal bblock_ret bblock_exit bblock_ch bblock_chi bkeep_some bkeep_ch bkeep_chi bown_normal bown_ret bown_ch bown_chi banswer_normal banswer_ret banswer_ch banswer_chi bcond_ch guardV_ch1 guardV_ch0 guardV_tup guardF_none guardF_some putF_some putF_none stepsF_nil stepsF_cons chF_true chF_false Brun_seq Brun_cond Brun_block Brun_region Brun_skip Brun_ret Brun_exit stepF_call stepF_callD stepF_move stepF_pick stepF_alloc stepF_allocV stepF_box stepF_boxV stepF_build stepF_buildSlice stepF_buildSliceV stepF_load stepF_store stepF_nilCheck stepF_bin stepF_eq stepF_un stepF_conv stepF_strId stepF_toStr stepF_toBytes stepF_fn stepF_mkSlice stepF_slice stepF_strSlice stepF_fieldAddr stepF_field stepF_idxAddr stepF_idxArr stepF_index stepF_strIndex stepF_extract stepF_len0 stepF_len1 stepF_min stepF_max stepF_append stepF_appendF stepF_mkMap stepF_mkIface stepF_lookup stepF_mapUpdate stepF_ext
theorem nob1 (s : List UInt8) (a : Int) (rows : List (List AV)) (h : Heap) : Ccall tab 4 [.nilp, .int .i64 a, .str s, .is rows .no] h = some (.bool true, h) := by
  refine Ccall_run (w := []) 1000 ?_
  kernel_rfl
def nobH : Heap := [.cells [.is [] .nil, .nilm], .cells [.int .i64 0, .int .i64 0, .is [] .nil], .cells [.int .i64 0, .int .i64 0, .is [] .nil], .cells [.int .i64 0, .int .i64 0, .is [] .nil], .cells [.int .i64 0, .int .i64 0, .is [] .nil], .cells [.int .i64 0, .int .i64 0, .is [] .nil], .cells [.int .i64 0, .int .i64 0, .is [] .nil], .cells [.int .i64 0, .int .i64 0, .int .i64 0, .int .i64 0, .int .i64 0], .cells [.int .i64 0, .int .i64 0, .int .i64 0, .int .i64 0, .int .i64 0], .cells [.int .i64 0, .int .i64 0, .is [] .nil], .cells [.int .i64 0, .int .i64 0, .is [] .nil], .cells [.int .i64 0, .int .i64 0, .int .i64 0, .int .i64 0, .int .i64 0], .cells [.int .i64 0, .int .i64 0, .int .i64 0, .int .i64 0, .int .i64 0], .cells [.int .i64 0, .int .i64 0, .is [] .nil], .cells [.int .i64 0, .int .i64 0, .is [] .nil], .cells [.int .i64 0, .int .i64 0, .is [] .nil], .cells [.int .i64 0, .int .i64 0, .is [] .nil]]
theorem nob2 (s : List UInt8) (a : Int) (rows : List (List AV)) : Ccall tab 4 [.mp 0 0, .int .i64 a, .str s, .is rows .no] [.cells [.is [] .nil, .nilm]] = some (.bool true, nobH) := by
  refine Ccall_run (w := []) 1000 ?_
  kernel_rfl
theorem nobody_ok (s : List UInt8) (a : Int) (rows : List (List AV)) (h : Heap) : Ccall tab 3 [.int .i64 a, .str s, .is rows .no] h = some (.bool true, h) := by
  have n1 := fun h => nob1 s a rows h
  have n2 := nob2 s a rows
  generalize nobH = H at n2
  refine Ccall_own rfl rfl rfl rfl ?_
  repeat (any_goals first | simp (dsimp := false) (maxSteps := 4000000) (maxDischargeDepth := 8) (implicitDefEqProofs := false) [*, -Int.not_le, -Int.not_lt, amLt, f3c, f3r0, f3r1, f3r2, heads_ok] | with_reducible refine ch_both (fun _ => ?_) (fun _ => ?_) | with_reducible refine ite_both (fun _ => ?_) (fun _ => ?_) | intro _)
theorem nobody_law : ∀ xs, ArgsL 1048576 f3s xs → ∃ h', Ccall tab 3 xs [] = some (.bool true, h') := by
  intro xs hxs
  unfold f3s at hxs
  simp only [ArgsL, Sh.Arg, Sh.Row] at hxs
  obtain ⟨x, r, rfl, ⟨n, _, hn⟩, y, r2, rfl, ⟨s, _, hs⟩, z, r3, rfl, ⟨rows, hr, _⟩, rfl⟩ := hxs
  cases hn
  cases hs
  cases hr
  exact ⟨_, nobody_ok s n rows []⟩

end Go.Proofs.YtjggeonachlebaaDoor
