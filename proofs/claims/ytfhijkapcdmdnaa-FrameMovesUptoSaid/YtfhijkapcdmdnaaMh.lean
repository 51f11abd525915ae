/- Moves: the first that may be done. -/
import Derived.Test.YtfhijkapcdmdnaaMg
import Derived.Test.YtfhijkapcdmdnaaAmW
namespace Go.Proofs.Ytfhijkapcdmdnaa
open Go.AM
set_option maxRecDepth 20000
set_option maxHeartbeats 4000000
set_option linter.unusedSimpArgs false
set_option linter.unusedVariables false
attribute [local congr] andF_cg onF_cg bthen_cg bkeep_cg bcond_cg guardV_cg putF_cg guardF_cg ite_cg stepsF_cg
attribute [local simp] Brun_skip Brun_exit Brun_ret Brun_seq Brun_cond Brun_block Brun_region bthen_normal bthen_ret bthen_exit bblock_normal bblock_ret bblock_exit bkeep_some andF_some onF_some onF_none guardF_none guardF_some guardV_tup putF_some putF_none stepsF_nil stepsF_cons upd_apply ofL_cons ofL_nil bown_normal bown_ret banswer_normal banswer_ret aresults ares List.replicate stepF_call stepF_callD stepF_move stepF_pick stepF_alloc stepF_allocV stepF_box stepF_boxV stepF_build stepF_buildSlice stepF_buildSliceV stepF_load stepF_store stepF_nilCheck stepF_bin stepF_eq stepF_un stepF_conv stepF_strId strIdV_str strIdV_int stepF_toStr stepF_toBytes stepF_fn stepF_mkSlice stepF_slice stepF_strSlice stepF_fieldAddr stepF_field stepF_idxAddr stepF_idxArr stepF_index stepF_strIndex stepF_extract stepF_len0 stepF_len1 stepF_min stepF_max stepF_append stepF_appendF appF_none appF_row stepF_mkMap stepF_mkIface stepF_lookup stepF_mapUpdate stepF_ext aext_idx aext_count aext_same cellsF newF abin_add abin_sub abin_mul abin_quo abin_rem abin_eql abin_neq abin_lss abin_leq abin_gtr abin_geq abin_and abin_or abin_xor abin_shl abin_shr abin_seql abin_sneq aun_not aun_neg aeq_bool aeq_agg eqCells_nil eqCells_int eqCells_bool eqCells_str cellsOf_agg cellsOf_int cellsOf_bool cellsOf_str cellsOf_is cellsOf_ms cellsOf_fn cellsOf_nilp cellsOf_mp cellsOf_mm cellsOf_nilm cellsOf_nili cellsOf_ifc cellsOf_ip cget_one cget_agg ev_t ev_c fillp_nil fillp_cons isSc_int isSc_bool isSc_str isSc_is isSc_ms isSc_fn isSc_mm isSc_mp isSc_ip isSc_nilp isSc_nilm isSc_nili isSc_nilf isSc_ifc splice chunk strip strip.stripL imm imm.immL Areify_int Areify_bool Areify_str Areify_is Areify_nilp Areify_tup Areify_agg AreifyL andF_chi andF_ch onF_chi onF_ch bthen_ch bthen_chi bblock_ch bblock_chi bkeep_ch bkeep_chi bown_ch bown_chi banswer_ch banswer_chi isSome_ch bcond_ch guardV_ch1 guardV_ch0 chF_true chF_false chF_not
attribute [local simp ↓] andF_some andF_chi andF_ch onF_some onF_none onF_chi onF_ch bthen_normal bthen_ret bthen_exit bthen_ch bthen_chi bblock_normal bblock_ret bblock_exit bblock_ch bblock_chi bkeep_some bkeep_ch bkeep_chi bown_normal bown_ret bown_ch bown_chi banswer_normal banswer_ret banswer_ch banswer_chi bcond_ch guardV_ch1 guardV_ch0 guardV_tup guardF_none guardF_some putF_some putF_none stepsF_nil stepsF_cons chF_true chF_false Brun_seq Brun_cond Brun_block Brun_region Brun_skip Brun_ret Brun_exit stepF_call stepF_callD stepF_move stepF_pick stepF_alloc stepF_allocV stepF_box stepF_boxV stepF_build stepF_buildSlice stepF_buildSliceV stepF_load stepF_store stepF_nilCheck stepF_bin stepF_eq stepF_un stepF_conv stepF_strId stepF_toStr stepF_toBytes stepF_fn stepF_mkSlice stepF_slice stepF_strSlice stepF_fieldAddr stepF_field stepF_idxAddr stepF_idxArr stepF_index stepF_strIndex stepF_extract stepF_len0 stepF_len1 stepF_min stepF_max stepF_append stepF_appendF stepF_mkMap stepF_mkIface stepF_lookup stepF_mapUpdate stepF_ext
set_option maxHeartbeats 4000000
section
variable {sp : Int} {R cap : Nat} {ex : Bool}
/-- The first move whose place nobody reads is done. -/
theorem seek_loop (K : List Mv) (n : Nat) (o : List Mv) (hK : K.length ≤ 16777216) (hn : n ≤ K.length) (hcap : n ≤ cap) (hol : o.length ≤ 16777216) : ∀ (t : List Mv) (i : Nat) (G : Heap) (ov : AV), (K.take n).drop i = t → i ≤ n → G[R]? = some (.cells (flatM K)) → OutAt G R ov o →
    ∃ G' ov', G.length ≤ G'.length ∧ (freeIx (K.take n) i t = none → G'[R]? = some (.cells (flatM K)) ∧ OutAt G' R ov' o ∧ ∃ E', Brun tab 71 (.loop f4l7) (ofL [(1, .int .i64 sp), (6, .ms R 0 n 2 cap ex), (7, ov), (22, .ms R 0 n 2 cap ex), (23, .int .i64 n), (24, .int .i64 i)]) G = some (.exit 2, ofL ((1, .int .i64 sp) :: (6, .ms R 0 n 2 cap ex) :: (7, ov') :: E'), G')) ∧
      (∀ k m, freeIx (K.take n) i t = some (k, m) → OutAt G' R ov' (o ++ [m]) ∧ (∃ K', G'[R]? = some (.cells (flatM K')) ∧ K'.length = K.length ∧ K'.take (n - 1) = (K.take n).eraseIdx k) ∧ k < n ∧
        Brun tab 71 (.loop f4l7) (ofL [(1, .int .i64 sp), (6, .ms R 0 n 2 cap ex), (7, ov), (22, .ms R 0 n 2 cap ex), (23, .int .i64 n), (24, .int .i64 i)]) G = some (.exit 1, ofL [(1, .int .i64 sp), (6, .ms R 0 (n - 1) 2 cap ex), (7, ov')], G')) := by
  intro t
  induction t with
  | nil =>
    intro i G ov hr hi hG ho
    have hlen := congrArg List.length hr
    simp only [List.length_drop, List.length_take, List.length_nil] at hlen
    have e2 : (n : Int) = i := by omega
    refine ⟨G, ov, Nat.le_refl _, fun _ => ⟨hG, ho, [(22, .ms R 0 n 2 cap ex), (23, .int .i64 n), (24, .int .i64 i), (25, .bool false)], ?_⟩, fun k m q => by cases q⟩
    rw [Brun_loop]
    clear hr hi hlen hG hn hK ho hcap hol
    repeat (any_goals first | simp (dsimp := false) (maxSteps := 4000000) (maxDischargeDepth := 8) (implicitDefEqProofs := false) [*, -Int.not_le, -Int.not_lt, amLt, f4c, f4m5, f4m7, f4r0, f4r1, f4r2, f4r3, f4r4, f4r5, f4r6, f4r7, f4r8, f4r9, f4m16, f4r10, f4r11, f4r12, f4r13, f4r14, f4r15, f4r16, f4r17, f4r18, f4r19, f4r20, f4r21, f4l5_b, f4l7_b, f4l16_b] | with_reducible refine ch_both (fun _ => ?_) (fun _ => ?_) | with_reducible refine ite_both (fun _ => ?_) (fun _ => ?_) | intro _)
  | cons m t ih =>
    intro i G ov hr hi hG ho
    have hlen := congrArg List.length hr
    simp only [List.length_drop, List.length_take, List.length_cons] at hlen
    have hg0 : (K.take n)[i]? = some m := by
      have := congrArg (·[0]?) hr
      simpa using this
    have hg : K[i]? = some m := by
      rw [List.getElem?_take, if_pos (by omega)] at hg0; exact hg0
    have htl : (K.take n).drop (i + 1) = t := by
      have := congrArg List.tail hr
      simpa using this
    have lR := (List.getElem?_eq_some_iff.1 hG).1
    have hat := flatM_at hg
    have hfl := flatM_len K
    have hle : i * 2 + 2 ≤ (flatM K).length := by omega
    have h1 : (i : Int) < n := by omega
    have e3 : ¬ (n : Int) ≤ i := by omega
    have hw := cw64 i (by omega)
    have hG1 : (G ++ [Blk.cells (mvRow m)])[R]? = some (.cells (flatM K)) := rapp hG _
    have hGx := fun x => rapp hG x
    have hb : (G ++ [Blk.cells (mvRow m)])[G.length]? = some (.cells (mvRow m)) := by simp
    have hsome := some_ok (cap := cap) (ex := ex) (fun x => decide (x.2 = m.1)) 13 [.mp G.length 0] n (G ++ [.cells (mvRow m)]) hG1 hn hK (fun x => reads_ok _ G.length m x hb)
    have hany : (K.take n).any (fun x => decide (x.2 = m.1)) = anyFrom (K.take n) m.1 := rfl
    rw [hany] at hsome
    have ho1 : OutAt (G ++ [.cells (mvRow m)]) R ov o := ho.keep fun k hk _ => List.getElem?_append_left hk
    simp only [freeIx]
    cases hc : anyFrom (K.take n) m.1 with
    | true =>
      rw [hc] at hsome
      rw [if_pos rfl]
      obtain ⟨G', ov', x1, x2, x3⟩ := ih (i + 1) (G ++ [.cells (mvRow m)]) ov htl (by omega) hG1 ho1
      have hbd : Brun tab 71 f4l7 (ofL [(1, .int .i64 sp), (6, .ms R 0 n 2 cap ex), (7, ov), (22, .ms R 0 n 2 cap ex), (23, .int .i64 n), (24, .int .i64 i)]) G =
          some (.normal, ofL [(1, .int .i64 sp), (6, .ms R 0 n 2 cap ex), (7, ov), (22, .ms R 0 n 2 cap ex), (23, .int .i64 n), (24, .int .i64 (i + 1)), (25, .bool true)].dropLast, G ++ [.cells (mvRow m)]) := by
        unfold mvRow at *
        generalize flatM K = FK at *
        clear ih x1 x2 x3 hr hi hlen hg0 hg htl hn hK hcap hol ho ho1 hany hfl lR hG hc
        repeat (any_goals first | simp (dsimp := false) (maxSteps := 4000000) (maxDischargeDepth := 8) (implicitDefEqProofs := false) [*, -Int.not_le, -Int.not_lt, amLt, f4c, f4m5, f4m7, f4r0, f4r1, f4r2, f4r3, f4r4, f4r5, f4r6, f4r7, f4r8, f4r9, f4m16, f4r10, f4r11, f4r12, f4r13, f4r14, f4r15, f4r16, f4r17, f4r18, f4r19, f4r20, f4r21, f4l5_b, f4l7_b, f4l16_b, app_get, app_get0, app_set, app_set0, List.dropLast] | with_reducible refine ch_both (fun _ => ?_) (fun _ => ?_) | with_reducible refine ite_both (fun _ => ?_) (fun _ => ?_) | intro _)
      simp only [List.dropLast] at hbd
      push_cast at x2 x3
      refine ⟨G', ov', by simp at x1; omega, fun q => ?_, fun k mm q => ?_⟩
      · obtain ⟨y1, y2, E', y3⟩ := x2 q
        exact ⟨y1, y2, E', by rw [Brun_loop, hbd, bthen_normal]; exact y3⟩
      · obtain ⟨y1, y2, y3, y4⟩ := x3 k mm q
        exact ⟨y1, y2, y3, by rw [Brun_loop, hbd, bthen_normal]; exact y4⟩
    | false =>
      rw [hc] at hsome
      rw [if_neg (by simp)]
      obtain ⟨G2, ov2, p1, p2, p3, p4⟩ := out_put (G ++ [.cells (mvRow m)]) R ov o m G.length ho1 hb hol (by simp; omega) (.int .i64 sp) (.ms R 0 n 2 cap ex) (.int .i64 i) [(22, .ms R 0 n 2 cap ex), (23, .int .i64 n), (24, .int .i64 i), (31, .bool false)]
      rw [hG1] at p3
      obtain ⟨G3, K3, ⟨d1, d2⟩, d3, d4, d5, d6⟩ := delete_ok (cap := cap) (ex := ex) K n i G2 p3 hK hn hcap (by omega)
      refine ⟨G3, ov2, by simp at p2; omega, fun q => (by cases q), fun k mm q => ?_⟩
      simp only [Option.some.injEq, Prod.mk.injEq] at q
      obtain ⟨rfl, rfl⟩ := q
      refine ⟨p1.keep fun k hk h => d2 k hk h, ⟨K3, d3, d4, d5⟩, by omega, ?_⟩
      rw [Brun_loop]
      have hbd : Brun tab 71 f4l7 (ofL [(1, .int .i64 sp), (6, .ms R 0 n 2 cap ex), (7, ov), (22, .ms R 0 n 2 cap ex), (23, .int .i64 n), (24, .int .i64 i)]) G =
          some (.exit 1, ofL [(1, .int .i64 sp), (6, .ms R 0 (n - 1) 2 cap ex), (7, ov2)], G3) := by
        unfold mvRow at *
        generalize flatM K = FK at *
        clear ih hr hi hlen hg0 hg htl hn hK hcap hol ho ho1 hany hfl lR hG hc p1 p2 p3 d1 d2 d3 d4 d5
        rw [f4l7_b]
        unfold f4m7
        generalize ACode.region false f4r10 [1, 6, 7, 8] 2 = X10 at *
        repeat (any_goals first | simp (dsimp := false) (maxSteps := 4000000) (maxDischargeDepth := 8) (implicitDefEqProofs := false) [*, -Int.not_le, -Int.not_lt, amLt, f4c, f4m5, f4m7, f4r0, f4r1, f4r2, f4r3, f4r4, f4r5, f4r6, f4r7, f4r8, f4r9, f4m16, f4r10, f4r11, f4r12, f4r13, f4r14, f4r15, f4r16, f4r17, f4r18, f4r19, f4r20, f4r21, f4l5_b, f4l7_b, f4l16_b, app_get, app_get0, app_set, app_set0] | with_reducible refine ch_both (fun _ => ?_) (fun _ => ?_) | with_reducible refine ite_both (fun _ => ?_) (fun _ => ?_) | intro _)
      rw [hbd]
      rfl
end

end Go.Proofs.Ytfhijkapcdmdnaa
