/- The first fault. -/
import Derived.Test.YtmpdpjkblcdfkaaDoorTr
import Derived.Test.YtmpdpjkblcdfkaaDoorHd
import Derived.Test.YtmpdpjkblcdfkaaDoorAmW
namespace Go.Proofs.YtmpdpjkblcdfkaaDoor
open Go.AM
set_option maxRecDepth 20000
set_option maxHeartbeats 4000000
set_option linter.unusedSimpArgs false
set_option linter.unusedVariables false
attribute [local congr] andF_cg onF_cg bthen_cg bkeep_cg bcond_cg guardV_cg putF_cg guardF_cg ite_cg stepsF_cg
attribute [local simp] Brun_skip Brun_exit Brun_ret Brun_seq Brun_cond Brun_block Brun_region bthen_normal bthen_ret bthen_exit bblock_normal bblock_ret bblock_exit bkeep_some andF_some onF_some onF_none guardF_none guardF_some guardV_tup putF_some putF_none stepsF_nil stepsF_cons upd_apply ofL_cons ofL_nil bown_normal bown_ret banswer_normal banswer_ret aresults ares List.replicate stepF_call stepF_callD stepF_move stepF_pick stepF_alloc stepF_allocV stepF_box stepF_boxV stepF_build stepF_buildSlice stepF_buildSliceV stepF_load stepF_store stepF_nilCheck stepF_bin stepF_eq stepF_un stepF_conv stepF_strId stepF_toStr stepF_toBytes stepF_fn stepF_mkSlice stepF_slice stepF_strSlice stepF_fieldAddr stepF_field stepF_idxAddr stepF_idxArr stepF_index stepF_strIndex stepF_extract stepF_len0 stepF_len1 stepF_min stepF_max stepF_append stepF_appendF appF_none appF_row stepF_mkMap stepF_mkIface stepF_lookup stepF_mapUpdate stepF_ext aext_idx aext_count aext_same cellsF newF abin_add abin_sub abin_mul abin_quo abin_rem abin_eql abin_neq abin_lss abin_leq abin_gtr abin_geq abin_and abin_or abin_xor abin_shl abin_shr abin_seql abin_sneq aun_not aun_neg aeq_bool aeq_agg eqCells_nil eqCells_int eqCells_bool eqCells_str cellsOf_agg cellsOf_int cellsOf_bool cellsOf_str cellsOf_is cellsOf_ms cellsOf_fn cellsOf_nilp cellsOf_mp cellsOf_mm cellsOf_nilm cellsOf_nili cellsOf_ifc cellsOf_ip cget_one cget_agg ev_t ev_c fillp_nil fillp_cons isSc_int isSc_bool isSc_str isSc_is isSc_ms isSc_fn isSc_mm isSc_mp isSc_ip isSc_nilp isSc_nilm isSc_nili isSc_nilf isSc_ifc splice chunk strip strip.stripL imm imm.immL Areify_int Areify_bool Areify_str Areify_is Areify_nilp Areify_tup Areify_agg AreifyL andF_chi andF_ch onF_chi onF_ch bthen_ch bthen_chi bblock_ch bblock_chi bkeep_ch bkeep_chi bown_ch bown_chi banswer_ch banswer_chi isSome_ch bcond_ch guardV_ch1 guardV_ch0 chF_true chF_false chF_not
attribute [local simp ↓] andF_some andF_chi andF_ch onF_some onF_none onF_chi onF_ch bthen_normal bthen_ret bthen_exit bthen_ch bthen_chi bblock_normal bblock_ret bblock_exit bblock_ch bblock_chi bkeep_some bkeep_ch bkeep_chi bown_normal bown_ret bown_ch bown_chi banswer_normal banswer_ret banswer_ch banswer_chi bcond_ch guardV_ch1 guardV_ch0 guardV_tup guardF_none guardF_some putF_some putF_none stepsF_nil stepsF_cons chF_true chF_false Brun_seq Brun_cond Brun_block Brun_region Brun_skip Brun_ret Brun_exit stepF_call stepF_callD stepF_move stepF_pick stepF_alloc stepF_allocV stepF_box stepF_boxV stepF_build stepF_buildSlice stepF_buildSliceV stepF_load stepF_store stepF_nilCheck stepF_bin stepF_eq stepF_un stepF_conv stepF_strId stepF_toStr stepF_toBytes stepF_fn stepF_mkSlice stepF_slice stepF_strSlice stepF_fieldAddr stepF_field stepF_idxAddr stepF_idxArr stepF_index stepF_strIndex stepF_extract stepF_len0 stepF_len1 stepF_min stepF_max stepF_append stepF_appendF stepF_mkMap stepF_mkIface stepF_lookup stepF_mapUpdate stepF_ext
set_option maxHeartbeats 1500000
theorem num_ok (h : Heap) (n : Int) : Ccall tab 17 [.int .i64 n] h = some (.int .i64 n, h) := by
  refine Ccall_own rfl rfl rfl rfl ?_
  repeat (any_goals first | simp (dsimp := false) (maxSteps := 4000000) (maxDischargeDepth := 8) (implicitDefEqProofs := false) [*, -Int.not_le, -Int.not_lt, amLt, f17c, f17r0, f17r1] | with_reducible refine ch_both (fun _ => ?_) (fun _ => ?_) | with_reducible refine ite_both (fun _ => ?_) (fun _ => ?_) | intro _)
theorem first_ok (h : Heap) (s : List UInt8) (hs : s.length ≤ 1048576) : Ccall tab 6 [.str s] h = some (.bool true, h) := by
  have hsc := fun h => scan_ok h s (by omega)
  unfold scanV at hsc
  refine Ccall_own rfl rfl rfl rfl ?_
  by_cases hb : 65536 < s.length
  · simp only [if_pos hb] at hsc
    have hb' : 65536 < (s.length : Int) := by omega
    clear hs hb
    repeat (any_goals first | simp (dsimp := false) (maxSteps := 4000000) (maxDischargeDepth := 8) (implicitDefEqProofs := false) [*, -Int.not_le, -Int.not_lt, amLt, f6c, f6q4, f6r0, f6r1, f6r2, f6r3, f6r5, f6r6, f6r7, f9_p, f6r4_u, f6r4_w, num_ok, heads_ok] | with_reducible refine ch_both (fun _ => ?_) (fun _ => ?_) | with_reducible refine ite_both (fun _ => ?_) (fun _ => ?_) | intro _)
  · simp only [if_neg hb] at hsc
    have hb' : ¬ 65536 < (s.length : Int) := by omega
    cases hS : scanS s with
    | ok l =>
      rw [hS] at hsc
      dsimp only at hsc
      generalize tokRows s l = rows at *
      clear hs hb hS
      repeat (any_goals first | simp (dsimp := false) (maxSteps := 4000000) (maxDischargeDepth := 8) (implicitDefEqProofs := false) [*, -Int.not_le, -Int.not_lt, amLt, f6c, f6q4, f6r0, f6r1, f6r2, f6r3, f6r5, f6r6, f6r7, f9_p, f6r4_u, f6r4_w, num_ok, heads_ok] | with_reducible refine ch_both (fun _ => ?_) (fun _ => ?_) | with_reducible refine ite_both (fun _ => ?_) (fun _ => ?_) | intro _)
    | error p =>
      obtain ⟨e, k⟩ := p
      rw [hS] at hsc
      dsimp only at hsc
      unfold faultV at hsc
      have he := scan_err _ _ _ _ _ hS (Nat.zero_le _) (by omega)
      obtain ⟨_, hk, l, hl⟩ := scan_take s _ 0 0 e k (k + 1) (Nat.zero_le _) hS (by omega) (by simp only [List.length_take]; omega)
      have hkl : (s.take k).length = k := by simp only [List.length_take]; omega
      have hl2 : scanS (s.take k) = .ok l := by unfold scanS; rw [hkl]; exact hl
      have hsc2 := fun h => scan_ok h (s.take k) (by omega)
      unfold scanV at hsc2
      simp only [if_neg (show ¬ 65536 < (s.take k).length by omega), hl2] at hsc2
      have hat := fun h => at_ok h s (k : Int) hs
      have hoff : offAt s (k : Int) = k := by unfold offAt; omega
      obtain ⟨hl1, hc1⟩ := spot_at s k hk
      unfold atV at hat
      simp only [hoff, hl1, hc1] at hat
      have e0 : ¬ (e : Int) = 0 := by omega
      have e24 : ¬ (e : Int) = 24 := by omega
      have e0' : ¬ e = 0 := by omega
      have hk0 : ¬ (k : Int) < 0 := by omega
      have hk1 : ¬ (s.length : Int) < k := by omega
      have hk2 : (k : Int) ≤ s.length := by omega
      generalize tokRows (s.take k) l = rows at *
      generalize spotOf s k = sp at *
      clear hs hb hS he hl hl2 hk hkl hl1 hc1 hoff
      repeat (any_goals first | simp (dsimp := false) (maxSteps := 4000000) (maxDischargeDepth := 8) (implicitDefEqProofs := false) [*, -Int.not_le, -Int.not_lt, amLt, f6c, f6q4, f6r0, f6r1, f6r2, f6r3, f6r5, f6r6, f6r7, f9_p, f6r4_u, f6r4_w, num_ok, heads_ok, obound_some, obound_none, abound_int] | with_reducible refine ch_both (fun _ => ?_) (fun _ => ?_) | with_reducible refine ite_both (fun _ => ?_) (fun _ => ?_) | intro _)
theorem first_law : ∀ xs, ArgsL 1048576 f6s xs → ∃ h', Ccall tab 6 xs [] = some (.bool true, h') := by
  intro xs hxs
  unfold f6s at hxs
  simp only [ArgsL, Sh.Arg, Sh.Row] at hxs
  obtain ⟨x, r, rfl, ⟨s, hl, hs⟩, rfl⟩ := hxs
  cases hs
  exact ⟨_, first_ok [] s hl⟩

end Go.Proofs.YtmpdpjkblcdfkaaDoor
