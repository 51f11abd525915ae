/- Chapter 23: FrameLays's functions walked. -/
import Derived.Test.YtlmgkbdcpaojlaaVf
import Derived.Test.YtlmgkbdcpaojlaaAmW
namespace Go.Proofs.Ytlmgkbdcpaojlaa
open Go.AM
set_option maxRecDepth 20000
set_option maxHeartbeats 4000000
set_option linter.unusedSimpArgs false
set_option linter.unusedVariables false
attribute [local congr] andF_cg onF_cg bthen_cg bkeep_cg bcond_cg guardV_cg putF_cg guardF_cg ite_cg stepsF_cg
attribute [local simp] Brun_skip Brun_exit Brun_ret Brun_seq Brun_cond Brun_block Brun_region bthen_normal bthen_ret bthen_exit bblock_normal bblock_ret bblock_exit bkeep_some andF_some onF_some onF_none guardF_none guardF_some guardV_tup putF_some putF_none stepsF_nil stepsF_cons upd_apply ofL_cons ofL_nil bown_normal bown_ret banswer_normal banswer_ret aresults ares List.replicate stepF_call stepF_callD stepF_move stepF_pick stepF_alloc stepF_allocV stepF_box stepF_boxV stepF_build stepF_buildSlice stepF_buildSliceV stepF_load stepF_store stepF_nilCheck stepF_bin stepF_eq stepF_un stepF_conv stepF_strId stepF_toStr stepF_toBytes stepF_fn stepF_mkSlice stepF_slice stepF_strSlice stepF_fieldAddr stepF_field stepF_idxAddr stepF_idxArr stepF_index stepF_strIndex stepF_extract stepF_len0 stepF_len1 stepF_min stepF_max stepF_append stepF_appendF appF_none appF_row stepF_mkMap stepF_mkIface stepF_lookup stepF_mapUpdate cellsF newF abin_add abin_sub abin_mul abin_quo abin_rem abin_eql abin_neq abin_lss abin_leq abin_gtr abin_geq abin_and abin_or abin_xor abin_shl abin_shr abin_seql abin_sneq aun_not aun_neg aeq_bool aeq_agg eqCells_nil eqCells_int eqCells_bool eqCells_str cellsOf_agg cellsOf_int cellsOf_bool cellsOf_str cellsOf_is cellsOf_ms cellsOf_fn cellsOf_nilp cellsOf_mp cellsOf_mm cellsOf_nilm cellsOf_nili cellsOf_ifc cellsOf_ip cget_one cget_agg ev_t ev_c fillp_nil fillp_cons isSc_int isSc_bool isSc_str isSc_is isSc_ms isSc_fn isSc_mm isSc_mp isSc_ip isSc_nilp isSc_nilm isSc_nili isSc_nilf isSc_ifc splice chunk strip strip.stripL imm imm.immL Areify_int Areify_bool Areify_str Areify_is Areify_nilp Areify_tup Areify_agg AreifyL andF_chi andF_ch onF_chi onF_ch bthen_ch bthen_chi bblock_ch bblock_chi bkeep_ch bkeep_chi bown_ch bown_chi banswer_ch banswer_chi isSome_ch bcond_ch guardV_ch1 guardV_ch0 chF_true chF_false chF_not
attribute [local simp ↓] andF_some andF_chi andF_ch onF_some onF_none onF_chi onF_ch bthen_normal bthen_ret bthen_exit bthen_ch bthen_chi bblock_normal bblock_ret bblock_exit bblock_ch bblock_chi bkeep_some bkeep_ch bkeep_chi bown_normal bown_ret bown_ch bown_chi banswer_normal banswer_ret banswer_ch banswer_chi bcond_ch guardV_ch1 guardV_ch0 guardV_tup guardF_none guardF_some putF_some putF_none stepsF_nil stepsF_cons chF_true chF_false Brun_seq Brun_cond Brun_block Brun_region Brun_skip Brun_ret Brun_exit stepF_call stepF_callD stepF_move stepF_pick stepF_alloc stepF_allocV stepF_box stepF_boxV stepF_build stepF_buildSlice stepF_buildSliceV stepF_load stepF_store stepF_nilCheck stepF_bin stepF_eq stepF_un stepF_conv stepF_strId stepF_toStr stepF_toBytes stepF_fn stepF_mkSlice stepF_slice stepF_strSlice stepF_fieldAddr stepF_field stepF_idxAddr stepF_idxArr stepF_index stepF_strIndex stepF_extract stepF_len0 stepF_len1 stepF_min stepF_max stepF_append stepF_appendF stepF_mkMap stepF_mkIface stepF_lookup stepF_mapUpdate
theorem room4 {cap : Cap} {sz : Nat} {rows : List (List AV)} {t : Heap} (h : CapAt 4 cap sz rows t) (a b c d : Blk) (r : Heap) : roomOK cap sz rows (a :: b :: c :: d :: (t ++ r)) = true := h.room (p := [a, b, c, d]) rfl r
theorem spend4 {cap : Cap} {sz : Nat} {rows : List (List AV)} {t : Heap} (h : CapAt 4 cap sz rows t) (a b c d : Blk) (r : Heap) : spend cap (a :: b :: c :: d :: (t ++ r)) = a :: b :: c :: d :: (spendAt 4 cap t ++ r) := h.spend (p := [a, b, c, d]) rfl r
theorem arg_row {r : List AV} (h : IsArg r) : RowOK 2 r := by
  obtain ⟨a, v, rfl⟩ := h
  exact ⟨rfl, rfl, rfl, rfl⟩
theorem full_room (sz : Nat) (h : Heap) : roomOK .full sz [] h = true := rfl
theorem full_spend (h : Heap) : spend .full h = h := rfl
theorem cp_body (e1 n0 n1 n2 n3 n4 : AV) (B0 B1 B3 : Blk) (code done : List (List AV)) (row : List AV) (i : Nat) (cap : Cap) (t : Heap) (hs : code.length ≤ 1048576) (hi1 : i < code.length) (hrow : code[i]? = some row) (hr : IsIns row) (hl : done.length = i) (hc : CapAt 4 cap 12 done t) :
    ∃ X Y, Brun tab 93 f6l15 (ofL [(1, e1), (2, .mp 0 0), (3, .mp 1 0), (6, .int .i64 0), (7, .mp 2 0), (8, .is done cap), (9, .int .i64 i)]) (B0 :: B1 :: .cells [n0, n1, n2, n3, n4, .is code .no] :: B3 :: t) =
      some (.normal, ofL [(1, e1), (2, .mp 0 0), (3, .mp 1 0), (6, .int .i64 0), (7, .mp 2 0), (8, .is (done ++ [row]) (.tok (t.length + 6) 12)), (9, .int .i64 (i + 1))], B0 :: B1 :: .cells [n0, n1, n2, n3, n4, .is code .no] :: B3 :: (spendAt 4 cap t ++ [X, Y, .tok])) := by
  have e3 : ¬ (code.length : Int) ≤ i := by omega
  have hw := w64 i (by omega)
  have hg : code[i] = row := by rw [List.getElem?_eq_getElem hi1] at hrow; exact Option.some.inj hrow
  obtain ⟨a0, a1, a2, a3, a4, a5, a6, a7, a8, a9, b, args, rfl, hq, hal⟩ := hr
  have hr4 := room4 hc
  have hs4 := spend4 hc
  have hsl := spendAt_len 4 cap t
  have hroom : roomy (done.length + 1) 112 = true := roomy_small (by omega) (by decide)
  have hroom2 : roomy args.length 16 = true := roomy_small (by omega) (by decide)
  unfold insRow at *
  by_cases ha : args = []
  · subst ha
    refine ⟨.cells [.int .i64 a0, .int .i64 a1, .int .i64 a2, .int .i64 a3, .int .u32 a4, .int .i64 a5, .int .u32 a6, .int .i64 a7, .int .i64 a8, .int .i64 a9, .bool b, .is [] .full], .free, ?_⟩
    clear hs hl hc hrow hq hal
    repeat (any_goals first | simp (dsimp := false) (maxSteps := 4000000) (maxDischargeDepth := 8) (implicitDefEqProofs := false) [*, -Int.not_le, -Int.not_lt, amLt, f6c, f6m3, f6r0, f6r1, f6r2, f6r3, f6r4, f6r5, f6r6, f6r7, f6r8, f6r9, f6m10, f6m15, f6r10, f6r11, f6r12, f6r13, f6r14, f6r15, f6r16, f6r17, f6r18, f6r19, f6r20, f6r21, f6r22, f6r23, f6l3_b, f6l10_b, f6l15_b, app_get, app_get0, app_set, app_set0] | with_reducible refine ch_both (fun _ => ?_) (fun _ => ?_) | with_reducible refine ite_both (fun _ => ?_) (fun _ => ?_) | intro _)
  · have hap := fun slot h => appF_rows slot 2 16 [] .full .no h (fun r hr => arg_row (hq r hr)) ha
    simp only [List.length_nil, Nat.zero_add, hroom2, full_room, full_spend, if_true, List.nil_append] at hap
    refine ⟨.cells [.int .i64 a0, .int .i64 a1, .int .i64 a2, .int .i64 a3, .int .u32 a4, .int .i64 a5, .int .u32 a6, .int .i64 a7, .int .i64 a8, .int .i64 a9, .bool b, .is args (.tok (t.length + 5) 2)], .tok, ?_⟩
    clear hs hl hc hrow hq hal
    repeat (any_goals first | simp (dsimp := false) (maxSteps := 4000000) (maxDischargeDepth := 8) (implicitDefEqProofs := false) [*, -Int.not_le, -Int.not_lt, amLt, f6c, f6m3, f6r0, f6r1, f6r2, f6r3, f6r4, f6r5, f6r6, f6r7, f6r8, f6r9, f6m10, f6m15, f6r10, f6r11, f6r12, f6r13, f6r14, f6r15, f6r16, f6r17, f6r18, f6r19, f6r20, f6r21, f6r22, f6r23, f6l3_b, f6l10_b, f6l15_b, app_get, app_get0, app_set, app_set0] | with_reducible refine ch_both (fun _ => ?_) (fun _ => ?_) | with_reducible refine ite_both (fun _ => ?_) (fun _ => ?_) | intro _)
theorem cp_loop (e1 n0 n1 n2 n3 n4 : AV) (B0 B1 B3 : Blk) (code : List (List AV)) (hs : code.length ≤ 1048576) (hcode : ∀ q ∈ code, IsIns q) : ∀ (m i : Nat) (done : List (List AV)) (cap : Cap) (t : Heap), i + m = code.length → done = code.take i → CapAt 4 cap 12 done t →
    ∃ cap' t', Brun tab 93 (.loop f6l15) (ofL [(1, e1), (2, .mp 0 0), (3, .mp 1 0), (6, .int .i64 0), (7, .mp 2 0), (8, .is done cap), (9, .int .i64 i)]) (B0 :: B1 :: .cells [n0, n1, n2, n3, n4, .is code .no] :: B3 :: t) =
      some (.exit 4, ofL [(1, e1), (2, .mp 0 0), (3, .mp 1 0), (6, .int .i64 0), (7, .mp 2 0), (8, .is code cap'), (9, .int .i64 code.length), (67, .bool false)], B0 :: B1 :: .cells [n0, n1, n2, n3, n4, .is code .no] :: B3 :: t') := by
  intro m
  induction m with
  | zero =>
    intro i done cap t hi hd hc
    have hd2 : done = code := by rw [hd, List.take_of_length_le (by omega)]
    subst hd2
    refine ⟨cap, t, ?_⟩
    have e3 : (done.length : Int) = i := by omega
    clear hi hs hcode hd hc
    rw [Brun_loop]
    repeat (any_goals first | simp (dsimp := false) (maxSteps := 4000000) (maxDischargeDepth := 8) (implicitDefEqProofs := false) [*, -Int.not_le, -Int.not_lt, amLt, f6c, f6m3, f6r0, f6r1, f6r2, f6r3, f6r4, f6r5, f6r6, f6r7, f6r8, f6r9, f6m10, f6m15, f6r10, f6r11, f6r12, f6r13, f6r14, f6r15, f6r16, f6r17, f6r18, f6r19, f6r20, f6r21, f6r22, f6r23, f6l3_b, f6l10_b, f6l15_b] | with_reducible refine ch_both (fun _ => ?_) (fun _ => ?_) | with_reducible refine ite_both (fun _ => ?_) (fun _ => ?_) | intro _)
  | succ m ih =>
    intro i done cap t hi hd hc
    have hi1 : i < code.length := by omega
    have hrow : code[i]? = some code[i] := List.getElem?_eq_getElem hi1
    obtain ⟨X, Y, hb⟩ := cp_body e1 n0 n1 n2 n3 n4 B0 B1 B3 code done code[i] i cap t hs hi1 hrow (hcode _ (List.getElem_mem hi1)) (by rw [hd, List.length_take]; omega) hc
    obtain ⟨cap', t', ih2⟩ := ih (i + 1) (done ++ [code[i]]) (.tok (t.length + 6) 12) (spendAt 4 cap t ++ [X, Y, .tok]) (by omega) (by rw [hd, List.take_succ_eq_append_getElem hi1]) (CapAt.new (by rw [spendAt_len]) 2 rfl)
    refine ⟨cap', t', ?_⟩
    push_cast at ih2
    rw [Brun_loop, hb, bthen_normal]
    exact ih2
theorem nil_room (sz : Nat) (h : Heap) : roomOK .nil sz [] h = true := rfl
theorem nil_spend (h : Heap) : spend .nil h = h := rfl
theorem pair_row {l : List (Int × Int)} {r : List AV} (h : r ∈ pairs l) : RowOK 2 r := by
  obtain ⟨p, _, rfl⟩ := List.mem_map.1 h
  exact ⟨rfl, rfl, rfl, rfl⟩
theorem copy_ok (h : Heap) (nm : List UInt8) (pr temps : Int) (gv : Bool) (sl : List (Int × Int)) (code : List (List AV)) (hsl : sl.length ≤ 1048576) (hc : ∀ q ∈ code, IsIns q) (hs : code.length ≤ 1048576) :
    Ccall tab 6 [.agg [.is [] .nil, .is [[.str nm, .int .i64 pr, .int .i64 temps, .bool gv, .is (pairs sl) .no, .is code .no]] .full, .int .i64 0]] h =
      some (.agg [.is [] .no, .is [[.str nm, .int .i64 pr, .int .i64 temps, .bool gv, .is (pairs sl) .no, .is code .no]] .no, .int .i64 0], h) := by
  have w1 : IntKind.i64.wrap 1 = 1 := by rfl
  have r1 : roomy 1 88 = true := by rfl
  have hroom2 : roomy (pairs sl).length 16 = true := roomy_small (by rw [pairs_len]; omega) (by decide)
  have lp := fun e1 n0 n1 n2 n3 n4 B0 B1 B3 => cp_loop e1 n0 n1 n2 n3 n4 B0 B1 B3 code hs hc code.length 0 [] .nil [] (by omega) rfl (CapAt.nil ..)
  simp only [Int.natCast_zero] at lp
  refine Ccall_own rfl rfl rfl rfl ?_
  by_cases ha : sl = []
  · subst ha
    obtain ⟨cap', t', lp2⟩ := lp (.ip [.is [] .no, .is [[.str nm, .int .i64 pr, .int .i64 temps, .bool gv, .is [] .no, .is code .no]] .no, .int .i64 0] 0) (.str nm) (.int .i64 pr) (.int .i64 temps) (.bool gv) (.is [] .full) (.cells [.is [] .nil, .is [] .nil, .int .i64 0]) (.cells [.is [] .nil, .is [] .nil, .int .i64 0]) .free
    clear lp hc hs hsl
    repeat (any_goals first | simp (dsimp := false) (maxSteps := 4000000) (maxDischargeDepth := 8) (implicitDefEqProofs := false) [*, -Int.not_le, -Int.not_lt, amLt, f6c, f6m3, f6r0, f6r1, f6r2, f6r3, f6r4, f6r5, f6r6, f6r7, f6r8, f6r9, f6m10, f6m15, f6r10, f6r11, f6r12, f6r13, f6r14, f6r15, f6r16, f6r17, f6r18, f6r19, f6r20, f6r21, f6r22, f6r23, f6l3_b, f6l10_b, f6l15_b, Brun_loop (b := f6l3), Brun_loop (b := f6l10), pairs, nil_room, nil_spend, app_get, app_get0, app_set, app_set0] | with_reducible refine ch_both (fun _ => ?_) (fun _ => ?_) | with_reducible refine ite_both (fun _ => ?_) (fun _ => ?_) | intro _)
  · have hne : pairs sl ≠ [] := by simpa [pairs] using ha
    have hap := fun slot h => appF_rows slot 2 16 [] .full .no h (fun r hr => pair_row (l := sl) hr) hne
    simp only [List.length_nil, Nat.zero_add, hroom2, full_room, full_spend, if_true, List.nil_append] at hap
    obtain ⟨cap', t', lp2⟩ := lp (.ip [.is [] .no, .is [[.str nm, .int .i64 pr, .int .i64 temps, .bool gv, .is (pairs sl) .no, .is code .no]] .no, .int .i64 0] 0) (.str nm) (.int .i64 pr) (.int .i64 temps) (.bool gv) (.is (pairs sl) (.tok 3 2)) (.cells [.is [] .nil, .is [] .nil, .int .i64 0]) (.cells [.is [] .nil, .is [] .nil, .int .i64 0]) .tok
    clear lp hc hs hsl
    repeat (any_goals first | simp (dsimp := false) (maxSteps := 4000000) (maxDischargeDepth := 8) (implicitDefEqProofs := false) [*, -Int.not_le, -Int.not_lt, amLt, f6c, f6m3, f6r0, f6r1, f6r2, f6r3, f6r4, f6r5, f6r6, f6r7, f6r8, f6r9, f6m10, f6m15, f6r10, f6r11, f6r12, f6r13, f6r14, f6r15, f6r16, f6r17, f6r18, f6r19, f6r20, f6r21, f6r22, f6r23, f6l3_b, f6l10_b, f6l15_b, Brun_loop (b := f6l3), Brun_loop (b := f6l10), nil_room, nil_spend, app_get, app_get0, app_set, app_set0] | with_reducible refine ch_both (fun _ => ?_) (fun _ => ?_) | with_reducible refine ite_both (fun _ => ?_) (fun _ => ?_) | intro _)

end Go.Proofs.Ytlmgkbdcpaojlaa
