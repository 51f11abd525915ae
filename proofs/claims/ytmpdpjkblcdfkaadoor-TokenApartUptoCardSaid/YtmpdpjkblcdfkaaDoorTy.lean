/- Two texts, one behind the other, are cut as each by itself. -/
import Derived.Test.YtmpdpjkblcdfkaaDoorTx
import Derived.Test.YtmpdpjkblcdfkaaDoorAmW
namespace Go.Proofs.YtmpdpjkblcdfkaaDoor
open Go.AM
set_option maxRecDepth 20000
set_option maxHeartbeats 4000000
set_option linter.unusedSimpArgs false
set_option linter.unusedVariables false
attribute [local congr] andF_cg onF_cg bthen_cg bkeep_cg bcond_cg guardV_cg putF_cg guardF_cg ite_cg stepsF_cg
attribute [local simp] Brun_skip Brun_exit Brun_ret Brun_seq Brun_cond Brun_block Brun_region bthen_normal bthen_ret bthen_exit bblock_normal bblock_ret bblock_exit bkeep_some andF_some onF_some onF_none guardF_none guardF_some guardV_tup putF_some putF_none stepsF_nil stepsF_cons upd_apply ofL_cons ofL_nil bown_normal bown_ret banswer_normal banswer_ret aresults ares List.replicate stepF_call stepF_callD stepF_move stepF_pick stepF_alloc stepF_allocV stepF_box stepF_boxV stepF_build stepF_buildSlice stepF_buildSliceV stepF_load stepF_store stepF_nilCheck stepF_bin stepF_eq stepF_un stepF_conv stepF_strId stepF_toStr stepF_toBytes stepF_fn stepF_mkSlice stepF_slice stepF_strSlice stepF_fieldAddr stepF_field stepF_idxAddr stepF_idxArr stepF_index stepF_strIndex stepF_extract stepF_len0 stepF_len1 stepF_min stepF_max stepF_append stepF_appendF appF_none appF_row stepF_mkMap stepF_mkIface stepF_lookup stepF_mapUpdate stepF_ext aext_idx aext_count aext_same cellsF newF abin_add abin_sub abin_mul abin_quo abin_rem abin_eql abin_neq abin_lss abin_leq abin_gtr abin_geq abin_and abin_or abin_xor abin_shl abin_shr abin_seql abin_sneq aun_not aun_neg aeq_bool aeq_agg eqCells_nil eqCells_int eqCells_bool eqCells_str cellsOf_agg cellsOf_int cellsOf_bool cellsOf_str cellsOf_is cellsOf_ms cellsOf_fn cellsOf_nilp cellsOf_mp cellsOf_mm cellsOf_nilm cellsOf_nili cellsOf_ifc cellsOf_ip cget_one cget_agg ev_t ev_c fillp_nil fillp_cons isSc_int isSc_bool isSc_str isSc_is isSc_ms isSc_fn isSc_mm isSc_mp isSc_ip isSc_nilp isSc_nilm isSc_nili isSc_nilf isSc_ifc splice chunk strip strip.stripL imm imm.immL Areify_int Areify_bool Areify_str Areify_is Areify_nilp Areify_tup Areify_agg AreifyL andF_chi andF_ch onF_chi onF_ch bthen_ch bthen_chi bblock_ch bblock_chi bkeep_ch bkeep_chi bown_ch bown_chi banswer_ch banswer_chi isSome_ch bcond_ch guardV_ch1 guardV_ch0 chF_true chF_false chF_not
attribute [local simp ↓] andF_some andF_chi andF_ch onF_some onF_none onF_chi onF_ch bthen_normal bthen_ret bthen_exit bthen_ch bthen_chi bblock_normal bblock_ret bblock_exit bblock_ch bblock_chi bkeep_some bkeep_ch bkeep_chi bown_normal bown_ret bown_ch bown_chi banswer_normal banswer_ret banswer_ch banswer_chi bcond_ch guardV_ch1 guardV_ch0 guardV_tup guardF_none guardF_some putF_some putF_none stepsF_nil stepsF_cons chF_true chF_false Brun_seq Brun_cond Brun_block Brun_region Brun_skip Brun_ret Brun_exit stepF_call stepF_callD stepF_move stepF_pick stepF_alloc stepF_allocV stepF_box stepF_boxV stepF_build stepF_buildSlice stepF_buildSliceV stepF_load stepF_store stepF_nilCheck stepF_bin stepF_eq stepF_un stepF_conv stepF_strId stepF_toStr stepF_toBytes stepF_fn stepF_mkSlice stepF_slice stepF_strSlice stepF_fieldAddr stepF_field stepF_idxAddr stepF_idxArr stepF_index stepF_strIndex stepF_extract stepF_len0 stepF_len1 stepF_min stepF_max stepF_append stepF_appendF stepF_mkMap stepF_mkIface stepF_lookup stepF_mapUpdate stepF_ext
theorem toks_plain (s : List UInt8) (l : List Tk) : (toks6 s l).map plainY = (l.map (·.1)).map fun x => (x.1, x.2.1, x.2.2, (0 : Int), (0 : Int), (0 : Int)) := by
  simp only [toks6, List.map_map]
  rfl
theorem toks_len (s : List UInt8) (l : List Tk) : (toks6 s l).length = l.length := by simp [toks6]
theorem apart_ok (h : Heap) (s t : List UInt8) (hs : s.length ≤ 1048576) (ht : t.length ≤ 1048576) : Ccall tab 7 [.str s, .str t] h = some (.bool true, h) := by
  rcases scan_cases s (by omega) with ⟨e, l, c, k, he, hv⟩ | ⟨a, hs6, hsa, hv⟩
  · exact apart_bad1 h s t hs ht e l c k he hv
  · rcases scan_cases t (by omega) with ⟨e, l, c, k, he, hw⟩ | ⟨b, ht6, hsb, hw⟩
    · exact apart_bad2 h s t hs ht _ hv e l c k he hw
    · have hal := scan_rows_le (Nat.zero_le _) hsa
      have hbl := scan_rows_le (Nat.zero_le _) hsb
      by_cases hlong : 60000 < s.length + t.length ∨ 16000 < (rows6 (toks6 s a)).length + (rows6 (toks6 t b)).length
      · exact apart_long h s t hs ht _ _ (by rw [rows6_len, toks_len]; omega) (by rw [rows6_len, toks_len]; omega) hv hw hlong
      · rw [rows6_len, rows6_len, toks_len, toks_len] at hlong
        obtain ⟨c, hc1, hc2⟩ := scan_app s t b hsb (s.length + 1) 0 0 a ((s ++ 10 :: t).length + 1) (Nat.zero_le _) hsa (by omega) (by omega)
        have hSl : (s ++ 10 :: t).length = s.length + 1 + t.length := by simp; omega
        have hC : scanV (s ++ 10 :: t) = .tup [.is (rows6 (toks6 (s ++ 10 :: t) c)) .no, .agg [.int .i64 0, .int .i64 0, .int .i64 0, .int .i64 0]] := by
          unfold scanV
          rw [if_neg (by omega)]
          have : scanS (s ++ 10 :: t) = .ok c := hc1
          rw [this, ← toks_rows]
        refine apart_main h s t (toks6 s a) (toks6 t b) (toks6 (s ++ 10 :: t) c) (by omega) (by rw [toks_len, toks_len]; omega) ?_ ?_ hv hw hC ?_
        · intro q
          have := congrArg List.length q
          rw [toks_len, List.length_nil] at this
          exact scan_ne hsa (List.eq_nil_of_length_eq_zero this)
        · intro q
          have := congrArg List.length q
          rw [toks_len, List.length_nil] at this
          exact scan_ne hsb (List.eq_nil_of_length_eq_zero this)
        · have hd : (toks6 s a).dropLast = toks6 s a.dropLast := by simp only [toks6, List.map_dropLast]
          rw [hd, toks_plain, toks_plain, toks_plain, hc2, List.map_append]
theorem apart_law : ∀ xs, ArgsL 1048576 f7s xs → ∃ h', Ccall tab 7 xs [] = some (.bool true, h') := by
  intro xs hxs
  unfold f7s at hxs
  simp only [ArgsL, Sh.Arg, Sh.Row] at hxs
  obtain ⟨x, r, rfl, ⟨s, hl, hs⟩, y, r2, rfl, ⟨t, hl2, ht⟩, rfl⟩ := hxs
  cases hs
  cases ht
  exact ⟨_, apart_ok [] s t hl hl2⟩

end Go.Proofs.YtmpdpjkblcdfkaaDoor
