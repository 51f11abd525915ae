/- Chapter 23: FrameLays's functions walked. -/
import Derived.Test.YtlmgkbdcpaojlaaVb
import Derived.Test.YtlmgkbdcpaojlaaAmW
namespace Go.Proofs.Ytlmgkbdcpaojlaa
open Go.AM
set_option maxRecDepth 20000
set_option maxHeartbeats 4000000
set_option linter.unusedSimpArgs false
set_option linter.unusedVariables false
attribute [local congr] andF_cg onF_cg bthen_cg bkeep_cg bcond_cg guardV_cg putF_cg guardF_cg ite_cg stepsF_cg
attribute [local simp] Brun_skip Brun_exit Brun_ret Brun_seq Brun_cond Brun_block Brun_region bthen_normal bthen_ret bthen_exit bblock_normal bblock_ret bblock_exit bkeep_some andF_some onF_some onF_none guardF_none guardF_some guardV_tup putF_some putF_none stepsF_nil stepsF_cons upd_apply ofL_cons ofL_nil bown_normal bown_ret banswer_normal banswer_ret aresults ares List.replicate stepF_call stepF_callD stepF_move stepF_pick stepF_alloc stepF_allocV stepF_box stepF_boxV stepF_build stepF_buildSlice stepF_buildSliceV stepF_load stepF_store stepF_nilCheck stepF_bin stepF_eq stepF_un stepF_conv stepF_strId stepF_toStr stepF_toBytes stepF_fn stepF_mkSlice stepF_slice stepF_strSlice stepF_fieldAddr stepF_field stepF_idxAddr stepF_idxArr stepF_index stepF_strIndex stepF_extract stepF_len0 stepF_len1 stepF_min stepF_max stepF_append stepF_appendF appF_none appF_row stepF_mkMap stepF_mkIface stepF_lookup stepF_mapUpdate cellsF newF abin_add abin_sub abin_mul abin_quo abin_rem abin_eql abin_neq abin_lss abin_leq abin_gtr abin_geq abin_and abin_or abin_xor abin_shl abin_shr abin_seql abin_sneq aun_not aun_neg aeq_bool aeq_agg eqCells_nil eqCells_int eqCells_bool eqCells_str cellsOf_agg cellsOf_int cellsOf_bool cellsOf_str cellsOf_is cellsOf_ms cellsOf_fn cellsOf_nilp cellsOf_mp cellsOf_mm cellsOf_nilm cellsOf_nili cellsOf_ifc cellsOf_ip cget_one cget_agg ev_t ev_c fillp_nil fillp_cons isSc_int isSc_bool isSc_str isSc_is isSc_ms isSc_fn isSc_mm isSc_mp isSc_ip isSc_nilp isSc_nilm isSc_nili isSc_nilf isSc_ifc splice chunk strip strip.stripL imm imm.immL Areify_int Areify_bool Areify_str Areify_is Areify_nilp Areify_tup Areify_agg AreifyL andF_chi andF_ch onF_chi onF_ch bthen_ch bthen_chi bblock_ch bblock_chi bkeep_ch bkeep_chi bown_ch bown_chi banswer_ch banswer_chi isSome_ch bcond_ch guardV_ch1 guardV_ch0 chF_true chF_false chF_not
attribute [local simp ↓] andF_some andF_chi andF_ch onF_some onF_none onF_chi onF_ch bthen_normal bthen_ret bthen_exit bthen_ch bthen_chi bblock_normal bblock_ret bblock_exit bblock_ch bblock_chi bkeep_some bkeep_ch bkeep_chi bown_normal bown_ret bown_ch bown_chi banswer_normal banswer_ret banswer_ch banswer_chi bcond_ch guardV_ch1 guardV_ch0 guardV_tup guardF_none guardF_some putF_some putF_none stepsF_nil stepsF_cons chF_true chF_false Brun_seq Brun_cond Brun_block Brun_region Brun_skip Brun_ret Brun_exit stepF_call stepF_callD stepF_move stepF_pick stepF_alloc stepF_allocV stepF_box stepF_boxV stepF_build stepF_buildSlice stepF_buildSliceV stepF_load stepF_store stepF_nilCheck stepF_bin stepF_eq stepF_un stepF_conv stepF_strId stepF_toStr stepF_toBytes stepF_fn stepF_mkSlice stepF_slice stepF_strSlice stepF_fieldAddr stepF_field stepF_idxAddr stepF_idxArr stepF_index stepF_strIndex stepF_extract stepF_len0 stepF_len1 stepF_min stepF_max stepF_append stepF_appendF stepF_mkMap stepF_mkIface stepF_lookup stepF_mapUpdate
theorem fup_ok (h : Heap) (n a : Int) (hn : 0 ≤ n ∧ n ≤ 100000000000) (ha : 1 ≤ a ∧ a ≤ 8) : Ccall tab 16 [.int .i64 n, .int .i64 a] h = some (.int .i64 (upI n a), h) := by
  have h2 := upI_in hn.1 ha
  have e1 : IntKind.i64.wrap (n + a) = n + a := wrap_in (by omega)
  have e2 : IntKind.i64.wrap (n + a - 1) = n + a - 1 := wrap_in (by omega)
  have e3 : (n + a - 1).tdiv a = (n + a - 1) / a := Int.tdiv_eq_ediv_of_nonneg (by omega)
  have e4 : IntKind.i64.wrap ((n + a - 1) / a) = (n + a - 1) / a := by
    have := Int.ediv_nonneg (a := n + a - 1) (b := a) (by omega) (by omega)
    have := Int.ediv_le_self (a := n + a - 1) a (by omega)
    exact wrap_in (by omega)
  have e5 : IntKind.i64.wrap ((n + a - 1) / a * a) = upI n a := wrap_in (n := upI n a) (by omega)
  have e6 : ¬ a = 0 := by omega
  clear h2 hn ha
  refine Ccall_own rfl rfl rfl rfl ?_
  repeat (any_goals first | simp (dsimp := false) (maxSteps := 4000000) (maxDischargeDepth := 8) (implicitDefEqProofs := false) [*, -Int.not_le, -Int.not_lt, amLt, f16c, f16r0, f16r1] | with_reducible refine ch_both (fun _ => ?_) (fun _ => ?_) | with_reducible refine ite_both (fun _ => ?_) (fun _ => ?_) | intro _)
theorem fits_ok (h : Heap) (sz al : Int) : Ccall tab 17 [.agg [.int .i64 sz, .int .i64 al]] h = some (.bool (fitsB (sz, al)), h) := by
  refine Ccall_own rfl rfl rfl rfl ?_
  repeat (any_goals first | simp (dsimp := false) (maxSteps := 4000000) (maxDischargeDepth := 8) (implicitDefEqProofs := false) [*, -Int.not_le, -Int.not_lt, amLt, f17c, f17r0, f17r1, fitsB] | with_reducible refine ch_both (fun _ => ?_) (fun _ => ?_) | with_reducible refine ite_both (fun _ => ?_) (fun _ => ?_) | intro _)
theorem take (n sz al : Int) (h1 : 0 ≤ n ∧ n ≤ 100000000000) (h2 : 1 ≤ al ∧ al ≤ 8) (h3 : 0 ≤ sz ∧ sz ≤ 100000) (R Y : Blk) (t : Heap) :
    Acall tab 15 [.int .i64 sz, .int .i64 al, .mp 2 0] (R :: Y :: .cells [.int .i64 n] :: t) = some (.int .i64 (upI n al), R :: Y :: .cells [.int .i64 (upI n al + sz)] :: t, [2]) := by
  have hu := upI_in h1.1 h2
  have w1 : IntKind.i64.wrap (upI n al + sz) = upI n al + sz := wrap_in (by omega)
  have hup := fun h => fup_ok h n al h1 h2
  have hc : ∀ h, ∃ w, Acall tab 16 [.int .i64 n, .int .i64 al] h = some (.int .i64 (upI n al), h, w) := by
    intro h
    have := hup h
    unfold Ccall at this
    cases hA : Acall tab 16 [.int .i64 n, .int .i64 al] h with
    | none => rw [hA] at this; cases this
    | some r => obtain ⟨a, b, c⟩ := r; rw [hA] at this; simp only [Option.map_some, Option.some.injEq, Prod.mk.injEq] at this; obtain ⟨rfl, rfl⟩ := this; exact ⟨c, rfl⟩
  have hb : Abody tab f15 [.int .i64 sz, .int .i64 al, .mp 2 0] (R :: Y :: .cells [.int .i64 n] :: t) = some (.int .i64 (upI n al), R :: Y :: .cells [.int .i64 (upI n al + sz)] :: t, [2]) := by
    unfold Abody
    simp only [args_env]
    obtain ⟨w, hw⟩ := hc (R :: Y :: .cells [.int .i64 n] :: t)
    simp [f15, f15c, Arun_seq, Arun_region, Arun_ret, aregion, asteps, astep, stepRun, aop, HC.run, HC.rds, HC.wrs, HC.ofOpt, f15r0, f15r1, f15r2, f15r3, andNext, prune_ofL, Blk.isFree, hw, isPure, tab, f16, logOf, addLog, Rec.log, w1, wanted, put]
  have := Acall_over (A := tab) (g := 15) (f := f15) rfl rfl rfl rfl hb
  rw [this]
  simp
theorem r11_nil (e1 : AV) (x26 x27 x28 : AV) (R : Blk) (n sz al : Int) (t : Heap) (h1 : 0 ≤ n ∧ n ≤ 100000000000) (h2 : 1 ≤ al ∧ al ≤ 8) (h3 : 0 ≤ sz ∧ sz ≤ 100000) :
    Brun tab 65 (.region true f7r11 [1, 2, 4, 5, 6, 26, 27, 28] 1) (ofL [(1, e1), (2, .mp 0 0), (4, .mp 1 0), (5, .mp 2 0), (6, .fn 15 [] [.mp 2 0]), (8, .mp (t.length + 3) 0), (26, x26), (27, x27), (28, x28), (34, .bool false)])
      (R :: .cells [.is [] .nil, .int .i64 0, .int .i64 0, .int .i64 0] :: .cells [.int .i64 n] :: (t ++ [.cells [.int .i64 sz, .int .i64 al]])) =
    some (.normal, ofL [(1, e1), (2, .mp 0 0), (4, .mp 1 0), (5, .mp 2 0), (6, .fn 15 [] [.mp 2 0]), (26, x26), (27, x27), (28, x28)],
      R :: .cells [.is (ints ([] ++ [upI n al])) (.tok (t.length + 4) 1), .int .i64 0, .int .i64 0, .int .i64 0] :: .cells [.int .i64 (upI n al + sz)] :: (t ++ [.cells [.int .i64 sz, .int .i64 al], .tok])) := by
  have ht := take n sz al h1 h2 h3
  refine Brun_told ?_
  simp [f7r11, asteps, astep, stepRun, aop, HC.run, HC.rds, HC.wrs, HC.ofOpt, Blk.isFree, ht, wanted, put, isPure, tab, f15, slen, ssz, scells, roomy, rowsz, Cap.tight, drawOK, freeOf, Rec.indep, disj, apart, AOper.looks, AOp.tmps, AO.tmps, pTmps, oTmps, Nat.testBit, app_get, app_get0, app_set, app_set0, ints]
theorem r11_tok (e1 : AV) (x26 x27 x28 : AV) (R : Blk) (n sz al : Int) (t : Heap) (l : List Int) (j : Nat) (hj : t[j]? = some .tok) (hl : l.length ≤ 256) (h1 : 0 ≤ n ∧ n ≤ 100000000000) (h2 : 1 ≤ al ∧ al ≤ 8) (h3 : 0 ≤ sz ∧ sz ≤ 100000) :
    Brun tab 65 (.region true f7r11 [1, 2, 4, 5, 6, 26, 27, 28] 1) (ofL [(1, e1), (2, .mp 0 0), (4, .mp 1 0), (5, .mp 2 0), (6, .fn 15 [] [.mp 2 0]), (8, .mp (t.length + 3) 0), (26, x26), (27, x27), (28, x28), (34, .bool false)])
      (R :: .cells [.is (ints l) (.tok (j + 3) 1), .int .i64 0, .int .i64 0, .int .i64 0] :: .cells [.int .i64 n] :: (t ++ [.cells [.int .i64 sz, .int .i64 al]])) =
    some (.normal, ofL [(1, e1), (2, .mp 0 0), (4, .mp 1 0), (5, .mp 2 0), (6, .fn 15 [] [.mp 2 0]), (26, x26), (27, x27), (28, x28)],
      R :: .cells [.is (ints (l ++ [upI n al])) (.tok (t.length + 4) 1), .int .i64 0, .int .i64 0, .int .i64 0] :: .cells [.int .i64 (upI n al + sz)] :: (t.set j .dead ++ [.cells [.int .i64 sz, .int .i64 al], .tok])) := by
  have ht := take n sz al h1 h2 h3
  have hlt := set_lt hj
  have hj2 : ∀ r : Heap, (t ++ r)[j]? = some .tok := fun r => by rw [List.getElem?_append_left hlt]; exact hj
  have hset : ∀ (r : Heap) (b : Blk), (t ++ r).set j b = t.set j b ++ r := fun r b => by rw [List.set_append_left _ _ hlt]
  have hsz : ¬ 140737488355328 < (l.length + 1) * 8 := by omega
  refine Brun_told ?_
  simp [f7r11, asteps, astep, stepRun, aop, HC.run, HC.rds, HC.wrs, HC.ofOpt, Blk.isFree, ht, wanted, put, isPure, tab, f15, slen, ssz, scells, roomy, rowsz, Cap.tight, drawOK, freeOf, Rec.indep, disj, apart, AOper.looks, AOp.tmps, AO.tmps, pTmps, oTmps, Nat.testBit, app_get, app_get0, app_set, app_set0, ints, hj2, hset, hsz]

end Go.Proofs.Ytlmgkbdcpaojlaa
