/- Two texts: their tokens. -/
import Derived.Test.YtmpdpjkblcdfkaaDoorTw
import Derived.Test.YtmpdpjkblcdfkaaDoorAmW
namespace Go.Proofs.YtmpdpjkblcdfkaaDoor
open Go.AM
set_option maxRecDepth 20000
set_option maxHeartbeats 4000000
set_option linter.unusedSimpArgs false
set_option linter.unusedVariables false
attribute [local congr] andF_cg onF_cg bthen_cg bkeep_cg bcond_cg guardV_cg putF_cg guardF_cg ite_cg stepsF_cg
attribute [local simp] Brun_skip Brun_exit Brun_ret Brun_seq Brun_cond Brun_block Brun_region bthen_normal bthen_ret bthen_exit bblock_normal bblock_ret bblock_exit bkeep_some andF_some onF_some onF_none guardF_none guardF_some guardV_tup putF_some putF_none stepsF_nil stepsF_cons upd_apply ofL_cons ofL_nil bown_normal bown_ret banswer_normal banswer_ret aresults ares List.replicate stepF_call stepF_callD stepF_move stepF_pick stepF_alloc stepF_allocV stepF_box stepF_boxV stepF_build stepF_buildSlice stepF_buildSliceV stepF_load stepF_store stepF_nilCheck stepF_bin stepF_eq stepF_un stepF_conv stepF_strId stepF_toStr stepF_toBytes stepF_fn stepF_mkSlice stepF_slice stepF_strSlice stepF_fieldAddr stepF_field stepF_idxAddr stepF_idxArr stepF_index stepF_strIndex stepF_extract stepF_len0 stepF_len1 stepF_min stepF_max stepF_append stepF_appendF appF_none appF_row stepF_mkMap stepF_mkIface stepF_lookup stepF_mapUpdate stepF_ext aext_idx aext_count aext_same cellsF newF abin_add abin_sub abin_mul abin_quo abin_rem abin_eql abin_neq abin_lss abin_leq abin_gtr abin_geq abin_and abin_or abin_xor abin_shl abin_shr abin_seql abin_sneq aun_not aun_neg aeq_bool aeq_agg eqCells_nil eqCells_int eqCells_bool eqCells_str cellsOf_agg cellsOf_int cellsOf_bool cellsOf_str cellsOf_is cellsOf_ms cellsOf_fn cellsOf_nilp cellsOf_mp cellsOf_mm cellsOf_nilm cellsOf_nili cellsOf_ifc cellsOf_ip cget_one cget_agg ev_t ev_c fillp_nil fillp_cons isSc_int isSc_bool isSc_str isSc_is isSc_ms isSc_fn isSc_mm isSc_mp isSc_ip isSc_nilp isSc_nilm isSc_nili isSc_nilf isSc_ifc splice chunk strip strip.stripL imm imm.immL Areify_int Areify_bool Areify_str Areify_is Areify_nilp Areify_tup Areify_agg AreifyL andF_chi andF_ch onF_chi onF_ch bthen_ch bthen_chi bblock_ch bblock_chi bkeep_ch bkeep_chi bown_ch bown_chi banswer_ch banswer_chi isSome_ch bcond_ch guardV_ch1 guardV_ch0 chF_true chF_false chF_not
attribute [local simp ↓] andF_some andF_chi andF_ch onF_some onF_none onF_chi onF_ch bthen_normal bthen_ret bthen_exit bthen_ch bthen_chi bblock_normal bblock_ret bblock_exit bblock_ch bblock_chi bkeep_some bkeep_ch bkeep_chi bown_normal bown_ret bown_ch bown_chi banswer_normal banswer_ret banswer_ch banswer_chi bcond_ch guardV_ch1 guardV_ch0 guardV_tup guardF_none guardF_some putF_some putF_none stepsF_nil stepsF_cons chF_true chF_false Brun_seq Brun_cond Brun_block Brun_region Brun_skip Brun_ret Brun_exit stepF_call stepF_callD stepF_move stepF_pick stepF_alloc stepF_allocV stepF_box stepF_boxV stepF_build stepF_buildSlice stepF_buildSliceV stepF_load stepF_store stepF_nilCheck stepF_bin stepF_eq stepF_un stepF_conv stepF_strId stepF_toStr stepF_toBytes stepF_fn stepF_mkSlice stepF_slice stepF_strSlice stepF_fieldAddr stepF_field stepF_idxAddr stepF_idxArr stepF_index stepF_strIndex stepF_extract stepF_len0 stepF_len1 stepF_min stepF_max stepF_append stepF_appendF stepF_mkMap stepF_mkIface stepF_lookup stepF_mapUpdate stepF_ext
set_option maxHeartbeats 1500000
theorem apart_main (h : Heap) (s t : List UInt8) (A B C : List Y6) (hs : s.length + t.length ≤ 60000) (hl : A.length + B.length ≤ 16000) (hA0 : A ≠ []) (hB0 : B ≠ [])
    (hA : scanV s = .tup [.is (rows6 A) .no, .agg [.int .i64 0, .int .i64 0, .int .i64 0, .int .i64 0]]) (hB : scanV t = .tup [.is (rows6 B) .no, .agg [.int .i64 0, .int .i64 0, .int .i64 0, .int .i64 0]])
    (hC : scanV (s ++ 10 :: t) = .tup [.is (rows6 C) .no, .agg [.int .i64 0, .int .i64 0, .int .i64 0, .int .i64 0]]) (hm : C.map plainY = A.dropLast.map plainY ++ B.map plainY) : Ccall tab 7 [.str s, .str t] h = some (.bool true, h) := by
  have h1 := fun h => scan_ok h s (by omega)
  have h2 := fun h => scan_ok h t (by omega)
  have h3 := fun h => scan_ok h (s ++ 10 :: t) (by simp; omega)
  simp only [hA] at h1
  simp only [hB] at h2
  simp only [hC] at h3
  have hAl : 0 < A.length := List.length_pos_iff.2 hA0
  have hCl : C.length = A.length - 1 + B.length := by
    have := congrArg List.length hm
    simpa using this
  have add1 : abin .add (.str s) (.str [10]) = some (.str (s ++ [10])) := by
    simp only [abin]
    rw [if_pos (by simp only [List.length_cons, List.length_nil]; omega)]
  have add2 : abin .add (.str (s ++ [10])) (.str t) = some (.str (s ++ 10 :: t)) := by
    simp only [abin]
    rw [if_pos (by simp only [List.length_append, List.length_cons, List.length_nil]; omega), List.append_assoc]
    rfl
  obtain ⟨cap1, x1, hc1, p1⟩ := plain_ok [.cells [.int .i64 0, .int .i64 0, .int .i64 0, .int .i64 0], .cells [.int .i64 0, .int .i64 0, .int .i64 0, .int .i64 0], .cells [.int .i64 0, .int .i64 0, .int .i64 0, .int .i64 0], .free] A.dropLast .no (by simp; omega)
  obtain ⟨cap2, x2, _, p2⟩ := plain_ok (.cells [.int .i64 0, .int .i64 0, .int .i64 0, .int .i64 0] :: .cells [.int .i64 0, .int .i64 0, .int .i64 0, .int .i64 0] :: .cells [.int .i64 0, .int .i64 0, .int .i64 0, .int .i64 0] :: .free :: x1) B .no (by omega)
  obtain ⟨cap3, x3, _, p3⟩ := plain_ok (.cells [.int .i64 0, .int .i64 0, .int .i64 0, .int .i64 0] :: .cells [.int .i64 0, .int .i64 0, .int .i64 0, .int .i64 0] :: .cells [.int .i64 0, .int .i64 0, .int .i64 0, .int .i64 0] :: .tok :: (spendAt 4 cap1 x1 ++ x2)) C .no (by omega)
  have hsame := fun h => same_ok h (C.map plainY) cap3 (.tok 3 6) (by simp; omega)
  have hrm : rows6 (A.dropLast.map plainY) ++ rows6 (B.map plainY) = rows6 (C.map plainY) := by rw [hm]; simp [rows6]
  have hap : appF 3 6 56 (.is (rows6 (A.dropLast.map plainY)) cap1) (.is (rows6 (B.map plainY)) cap2) (.cells [.int .i64 0, .int .i64 0, .int .i64 0, .int .i64 0] :: .cells [.int .i64 0, .int .i64 0, .int .i64 0, .int .i64 0] :: .cells [.int .i64 0, .int .i64 0, .int .i64 0, .int .i64 0] :: .free :: (x1 ++ x2)) =
      some (.is (rows6 (C.map plainY)) (.tok 3 6), .cells [.int .i64 0, .int .i64 0, .int .i64 0, .int .i64 0] :: .cells [.int .i64 0, .int .i64 0, .int .i64 0, .int .i64 0] :: .cells [.int .i64 0, .int .i64 0, .int .i64 0, .int .i64 0] :: .tok :: (spendAt 4 cap1 x1 ++ x2)) := by
    have hr := hc1.room (p := [.cells [.int .i64 0, .int .i64 0, .int .i64 0, .int .i64 0], .cells [.int .i64 0, .int .i64 0, .int .i64 0, .int .i64 0], .cells [.int .i64 0, .int .i64 0, .int .i64 0, .int .i64 0], .free]) rfl x2
    have hsp := hc1.spend (p := [.cells [.int .i64 0, .int .i64 0, .int .i64 0, .int .i64 0], .cells [.int .i64 0, .int .i64 0, .int .i64 0, .int .i64 0], .cells [.int .i64 0, .int .i64 0, .int .i64 0, .int .i64 0], .free]) rfl x2
    simp only [List.cons_append, List.nil_append] at hr hsp
    rw [appF_rows 3 6 56 _ cap1 cap2 _ (rows6_ok _) (by
      intro q
      have := congrArg List.length q
      rw [rows6_len, List.length_map, List.length_nil] at this
      exact hB0 (List.eq_nil_of_length_eq_zero this)), if_pos (roomy_small (by simp only [rows6_len, List.length_map, List.length_dropLast]; omega) (by decide)), hrm]
    rw [hr, if_pos rfl, hsp]
    rfl
  have w1 : IntKind.i64.wrap ((s.length : Int) + t.length) = ((s.length + t.length : Nat) : Int) := by rw [IntWalk.i64_in _ (by omega)]; push_cast; rfl
  have w2 : IntKind.i64.wrap (((rows6 A).length : Int) + (rows6 B).length) = (((rows6 A).length + (rows6 B).length : Nat) : Int) := by rw [rows6_len, rows6_len, IntWalk.i64_in _ (by omega)]; push_cast; rfl
  have w3 : IntKind.i64.wrap (((rows6 A).length : Int) - 1) = ((A.length - 1 : Nat) : Int) := by rw [rows6_len, IntWalk.i64_in _ (by omega)]; omega
  have w4 : IntKind.i64.wrap (((A.length - 1 : Nat) : Int) + (rows6 B).length) = ((rows6 C).length : Int) := by rw [rows6_len, rows6_len, IntWalk.i64_in _ (by omega)]; omega
  have q1 : ¬ 60000 < ((s.length + t.length : Nat) : Int) := by omega
  have q2 : ¬ 16000 < (((rows6 A).length + (rows6 B).length : Nat) : Int) := by rw [rows6_len, rows6_len]; omega
  have hsl : ∀ e : Env, e 69 = .is (rows6 A) .no → e 72 = .int .i64 ((A.length - 1 : Nat) : Int) → aslice e 6 (.is (rows6 A) .no) none (some (.t 72)) none = some (.is (rows6 A.dropLast) .no) := by
    intro e he1 he2
    have hb : (0 : Int) ≤ ((A.length - 1 : Nat) : Int) ∧ ((A.length - 1 : Nat) : Int) ≤ ((rows6 A).length : Int) := by rw [rows6_len]; omega
    have ht : (rows6 A).take (A.length - 1) = rows6 A.dropLast := by rw [List.dropLast_eq_take]; simp [rows6]
    simp only [aslice, rows6_sz, obound_none, obound_some, ev_t, he2, abound_int, if_pos hb, Int.toNat_natCast, ht]
    simp [obound_none]
  generalize s.length + t.length = n1 at *
  generalize s ++ [10] = u1 at *
  generalize s ++ 10 :: t = u2 at *
  generalize A.length - 1 = n3 at *
  generalize rows6 A.dropLast = RA1 at *
  generalize rows6 (A.dropLast.map plainY) = R1 at *
  generalize rows6 (B.map plainY) = R2 at *
  generalize rows6 (C.map plainY) = R3 at *
  generalize rows6 A = RA at *
  generalize rows6 B = RB at *
  generalize rows6 C = RC at *
  generalize spendAt 4 cap1 x1 ++ x2 = y at *
  generalize RA.length + RB.length = n2 at *
  simp only [List.cons_append, List.nil_append] at p1 p2 p3
  refine Ccall_own rfl rfl rfl rfl ?_
  clear hs hl hA0 hB0 hA hB hC hm hAl hCl hc1 hrm
  repeat (any_goals first | simp (dsimp := false) (maxSteps := 4000000) (maxDischargeDepth := 8) (implicitDefEqProofs := false) [*, -Int.not_le, -Int.not_lt, amLt, f7c, f7r0, f7r1, f7r2, f7r3, f7r4, f7r5, f7r6, f7r7, f7r8, f7r9, heads_ok] | with_reducible refine ch_both (fun _ => ?_) (fun _ => ?_) | with_reducible refine ite_both (fun _ => ?_) (fun _ => ?_) | intro _)

end Go.Proofs.YtmpdpjkblcdfkaaDoor
