/- Moves: what is answered. -/
import Derived.Test.YtfhijkapcdmdnaaMf
import Derived.Test.YtfhijkapcdmdnaaAmW
namespace Go.Proofs.Ytfhijkapcdmdnaa
open Go.AM
set_option maxRecDepth 20000
set_option maxHeartbeats 4000000
set_option linter.unusedSimpArgs false
set_option linter.unusedVariables false
attribute [local congr] andF_cg onF_cg bthen_cg bkeep_cg bcond_cg guardV_cg putF_cg guardF_cg ite_cg stepsF_cg
attribute [local simp] Brun_skip Brun_exit Brun_ret Brun_seq Brun_cond Brun_block Brun_region bthen_normal bthen_ret bthen_exit bblock_normal bblock_ret bblock_exit bkeep_some andF_some onF_some onF_none guardF_none guardF_some guardV_tup putF_some putF_none stepsF_nil stepsF_cons upd_apply ofL_cons ofL_nil bown_normal bown_ret banswer_normal banswer_ret aresults ares List.replicate stepF_call stepF_callD stepF_move stepF_pick stepF_alloc stepF_allocV stepF_box stepF_boxV stepF_build stepF_buildSlice stepF_buildSliceV stepF_load stepF_store stepF_nilCheck stepF_bin stepF_eq stepF_un stepF_conv stepF_strId strIdV_str strIdV_int stepF_toStr stepF_toBytes stepF_fn stepF_mkSlice stepF_slice stepF_strSlice stepF_fieldAddr stepF_field stepF_idxAddr stepF_idxArr stepF_index stepF_strIndex stepF_extract stepF_len0 stepF_len1 stepF_min stepF_max stepF_append stepF_appendF appF_none appF_row stepF_mkMap stepF_mkIface stepF_lookup stepF_mapUpdate stepF_ext aext_idx aext_count aext_same cellsF newF abin_add abin_sub abin_mul abin_quo abin_rem abin_eql abin_neq abin_lss abin_leq abin_gtr abin_geq abin_and abin_or abin_xor abin_shl abin_shr abin_seql abin_sneq aun_not aun_neg aeq_bool aeq_agg eqCells_nil eqCells_int eqCells_bool eqCells_str cellsOf_agg cellsOf_int cellsOf_bool cellsOf_str cellsOf_is cellsOf_ms cellsOf_fn cellsOf_nilp cellsOf_mp cellsOf_mm cellsOf_nilm cellsOf_nili cellsOf_ifc cellsOf_ip cget_one cget_agg ev_t ev_c fillp_nil fillp_cons isSc_int isSc_bool isSc_str isSc_is isSc_ms isSc_fn isSc_mm isSc_mp isSc_ip isSc_nilp isSc_nilm isSc_nili isSc_nilf isSc_ifc splice chunk strip strip.stripL imm imm.immL Areify_int Areify_bool Areify_str Areify_is Areify_nilp Areify_tup Areify_agg AreifyL andF_chi andF_ch onF_chi onF_ch bthen_ch bthen_chi bblock_ch bblock_chi bkeep_ch bkeep_chi bown_ch bown_chi banswer_ch banswer_chi isSome_ch bcond_ch guardV_ch1 guardV_ch0 chF_true chF_false chF_not
attribute [local simp ↓] andF_some andF_chi andF_ch onF_some onF_none onF_chi onF_ch bthen_normal bthen_ret bthen_exit bthen_ch bthen_chi bblock_normal bblock_ret bblock_exit bblock_ch bblock_chi bkeep_some bkeep_ch bkeep_chi bown_normal bown_ret bown_ch bown_chi banswer_normal banswer_ret banswer_ch banswer_chi bcond_ch guardV_ch1 guardV_ch0 guardV_tup guardF_none guardF_some putF_some putF_none stepsF_nil stepsF_cons chF_true chF_false Brun_seq Brun_cond Brun_block Brun_region Brun_skip Brun_ret Brun_exit stepF_call stepF_callD stepF_move stepF_pick stepF_alloc stepF_allocV stepF_box stepF_boxV stepF_build stepF_buildSlice stepF_buildSliceV stepF_load stepF_store stepF_nilCheck stepF_bin stepF_eq stepF_un stepF_conv stepF_strId stepF_toStr stepF_toBytes stepF_fn stepF_mkSlice stepF_slice stepF_strSlice stepF_fieldAddr stepF_field stepF_idxAddr stepF_idxArr stepF_index stepF_strIndex stepF_extract stepF_len0 stepF_len1 stepF_min stepF_max stepF_append stepF_appendF stepF_mkMap stepF_mkIface stepF_lookup stepF_mapUpdate stepF_ext
set_option maxHeartbeats 4000000
/-! Moves are done one after the other. -/
/-- What was answered so far. -/
def OutAt (G : Heap) (R : Nat) (ov : AV) (o : List Mv) : Prop := (ov = .is [] .nil ∧ o = []) ∨ ∃ O, ov = .ms O 0 o.length 2 o.length false ∧ G[O]? = some (.cells (flatM o)) ∧ O ≠ R ∧ 0 < o.length
theorem OutAt.keep {G G' : Heap} {R : Nat} {ov : AV} {o : List Mv} (h : OutAt G R ov o) (hk : ∀ k, k < G.length → k ≠ R → G'[k]? = G[k]?) : OutAt G' R ov o := by
  rcases h with h | ⟨O, h1, h2, h3, h4⟩
  · exact .inl h
  · exact .inr ⟨O, h1, by rw [hk O (List.getElem?_eq_some_iff.1 h2).1 h3]; exact h2, h3, h4⟩
theorem flatM_snoc (o : List Mv) (m : Mv) : flatM o ++ [.int .i64 m.1, .int .i64 m.2] = flatM (o ++ [m]) := by rw [flatM_app]; rfl
theorem out_put (G : Heap) (R : Nat) (ov : AV) (o : List Mv) (m : Mv) (b : Nat) (ho : OutAt G R ov o) (hb : G[b]? = some (.cells (mvRow m))) (hol : o.length ≤ 16777216) (hRl : R < G.length) (x1 x6 x8 : AV) (E : List (Nat × AV)) :
    ∃ G' ov', OutAt G' R ov' (o ++ [m]) ∧ G.length ≤ G'.length ∧ G'[R]? = G[R]? ∧
      Brun tab 71 (.region false f4r10 [1, 6, 7, 8] 2) (ofL ((1, x1) :: (6, x6) :: (7, ov) :: (8, x8) :: (9, .mp b 0) :: E)) G = some (.normal, ofL [(1, x1), (6, x6), (7, ov'), (8, x8)], G') := by
  have hbx := fun x => rapp hb x
  have hsn := flatM_snoc o m
  rcases ho with ⟨rfl, rfl⟩ | ⟨O, rfl, hO, hOR, hp⟩
  · refine ⟨G ++ [.cells (mvRow m), .cells (mvRow m)], .ms (G.length + 1) 0 1 2 1 false, .inr ⟨G.length + 1, rfl, ?_, by omega, by simp⟩, by simp, List.getElem?_append_left hRl, ?_⟩
    · rw [List.getElem?_append_right (by omega), show G.length + 1 - G.length = 1 by omega]; rfl
    · unfold mvRow at *
      have hr : roomy 1 16 = true := rfl
      clear hb hsn hol hRl
      repeat (any_goals first | simp (dsimp := false) (maxSteps := 4000000) (maxDischargeDepth := 8) (implicitDefEqProofs := false) [*, -Int.not_le, -Int.not_lt, amLt, f4c, f4m5, f4m7, f4r0, f4r1, f4r2, f4r3, f4r4, f4r5, f4r6, f4r7, f4r8, f4r9, f4m16, f4r10, f4r11, f4r12, f4r13, f4r14, f4r15, f4r16, f4r17, f4r18, f4r19, f4r20, f4r21, f4l5_b, f4l7_b, f4l16_b, app_get, app_get0, app_set, app_set0, slen, ssz, scellsF, rowsz, Cap.tight] | with_reducible refine ch_both (fun _ => ?_) (fun _ => ?_) | with_reducible refine ite_both (fun _ => ?_) (fun _ => ?_) | intro _)
  · have lO := (List.getElem?_eq_some_iff.1 hO).1
    have hOx := fun x => rapp hO x
    have hfl := flatM_len o
    have hroom : roomy (o.length + 1) 16 = true := by simp only [roomy, decide_eq_true_eq]; omega
    have sO : ∀ x b, (G ++ x).set O b = G.set O b ++ x := fun x b => by rw [List.set_append_left _ _ lO]
    have hlen : (G.set O Blk.dead).length = G.length := List.length_set ..
    have hk : ¬ o.length + 1 ≤ o.length := by omega
    have htk : (flatM o).take (o.length * 2) = flatM o := List.take_of_length_le (by omega)
    have hle : o.length * 2 ≤ (flatM o).length := by omega
    have hg2 : ∀ x, (G.set O Blk.dead ++ x)[G.length + 1]? = x[1]? := fun x => by rw [List.getElem?_append_right (by omega), hlen, show G.length + 1 - G.length = 1 by omega]
    have hs2 : ∀ x b, (G.set O Blk.dead ++ x).set (G.length + 1) b = G.set O .dead ++ x.set 1 b := fun x b => by rw [List.set_append_right _ _ (by omega), hlen, show G.length + 1 - G.length = 1 by omega]
    refine ⟨G.set O .dead ++ [.cells (mvRow m), .cells (flatM (o ++ [m]))], .ms (G.length + 1) 0 (o ++ [m]).length 2 (o ++ [m]).length false, .inr ⟨G.length + 1, rfl, ?_, by omega, by simp⟩, by simp, ?_, ?_⟩
    · rw [hg2]; rfl
    · rw [List.getElem?_append_left (by rw [hlen]; exact hRl), List.getElem?_set_ne hOR]
    · rw [List.length_append, List.length_singleton]
      unfold mvRow at *
      generalize flatM (o ++ [m]) = F2 at *
      generalize flatM o = F1 at *
      clear hb hol hRl hO lO hp hfl
      repeat (any_goals first | simp (dsimp := false) (maxSteps := 4000000) (maxDischargeDepth := 8) (implicitDefEqProofs := false) [*, -Int.not_le, -Int.not_lt, amLt, f4c, f4m5, f4m7, f4r0, f4r1, f4r2, f4r3, f4r4, f4r5, f4r6, f4r7, f4r8, f4r9, f4m16, f4r10, f4r11, f4r12, f4r13, f4r14, f4r15, f4r16, f4r17, f4r18, f4r19, f4r20, f4r21, f4l5_b, f4l7_b, f4l16_b, app_get, app_get0, app_set, app_set0, slen, ssz, scellsF, rowsz] | with_reducible refine ch_both (fun _ => ?_) (fun _ => ?_) | with_reducible refine ite_both (fun _ => ?_) (fun _ => ?_) | intro _)
theorem out_put2 (G : Heap) (R : Nat) (ov : AV) (o : List Mv) (sp f : Int) (ho : OutAt G R ov o) (hol : o.length ≤ 16777216) (hRl : R < G.length) (x6 : AV) :
    ∃ G' ov', OutAt G' R ov' (o ++ [(sp, f)]) ∧ G.length ≤ G'.length ∧ G'[R]? = G[R]? ∧
      Brun tab 71 (.region false f4r14 [1, 6, 7, 10] 2) (ofL [(1, .int .i64 sp), (6, x6), (7, ov), (10, .int .i64 f)]) G = some (.normal, ofL [(1, .int .i64 sp), (6, x6), (7, ov'), (10, .int .i64 f)], G') := by
  have hsn := flatM_snoc o (sp, f)
  rcases ho with ⟨rfl, rfl⟩ | ⟨O, rfl, hO, hOR, hp⟩
  · refine ⟨G ++ [.cells [.int .i64 sp, .int .i64 f], .cells [.int .i64 sp, .int .i64 f]], .ms (G.length + 1) 0 1 2 1 false, .inr ⟨G.length + 1, rfl, ?_, by omega, by simp⟩, by simp, List.getElem?_append_left hRl, ?_⟩
    · rw [List.getElem?_append_right (by omega), show G.length + 1 - G.length = 1 by omega]; rfl
    · have hr : roomy 1 16 = true := rfl
      clear hsn hol hRl
      repeat (any_goals first | simp (dsimp := false) (maxSteps := 4000000) (maxDischargeDepth := 8) (implicitDefEqProofs := false) [*, -Int.not_le, -Int.not_lt, amLt, f4c, f4m5, f4m7, f4r0, f4r1, f4r2, f4r3, f4r4, f4r5, f4r6, f4r7, f4r8, f4r9, f4m16, f4r10, f4r11, f4r12, f4r13, f4r14, f4r15, f4r16, f4r17, f4r18, f4r19, f4r20, f4r21, f4l5_b, f4l7_b, f4l16_b, app_get, app_get0, app_set, app_set0, slen, ssz, scellsF, rowsz, Cap.tight] | with_reducible refine ch_both (fun _ => ?_) (fun _ => ?_) | with_reducible refine ite_both (fun _ => ?_) (fun _ => ?_) | intro _)
  · have lO := (List.getElem?_eq_some_iff.1 hO).1
    have hOx := fun x => rapp hO x
    have hfl := flatM_len o
    have hroom : roomy (o.length + 1) 16 = true := by simp only [roomy, decide_eq_true_eq]; omega
    have sO : ∀ x b, (G ++ x).set O b = G.set O b ++ x := fun x b => by rw [List.set_append_left _ _ lO]
    have hlen : (G.set O Blk.dead).length = G.length := List.length_set ..
    have hk : ¬ o.length + 1 ≤ o.length := by omega
    have htk : (flatM o).take (o.length * 2) = flatM o := List.take_of_length_le (by omega)
    have hle : o.length * 2 ≤ (flatM o).length := by omega
    have hg2 : ∀ x, (G.set O Blk.dead ++ x)[G.length + 1]? = x[1]? := fun x => by rw [List.getElem?_append_right (by omega), hlen, show G.length + 1 - G.length = 1 by omega]
    have hs2 : ∀ x b, (G.set O Blk.dead ++ x).set (G.length + 1) b = G.set O .dead ++ x.set 1 b := fun x b => by rw [List.set_append_right _ _ (by omega), hlen, show G.length + 1 - G.length = 1 by omega]
    refine ⟨G.set O .dead ++ [.cells [.int .i64 sp, .int .i64 f], .cells (flatM (o ++ [(sp, f)]))], .ms (G.length + 1) 0 (o ++ [(sp, f)]).length 2 (o ++ [(sp, f)]).length false, .inr ⟨G.length + 1, rfl, ?_, by omega, by simp⟩, by simp, ?_, ?_⟩
    · rw [hg2]; rfl
    · rw [List.getElem?_append_left (by rw [hlen]; exact hRl), List.getElem?_set_ne hOR]
    · rw [List.length_append, List.length_singleton]
      dsimp only at hsn
      generalize flatM (o ++ [(sp, f)]) = F2 at *
      generalize flatM o = F1 at *
      clear hol hRl hO lO hp hfl
      repeat (any_goals first | simp (dsimp := false) (maxSteps := 4000000) (maxDischargeDepth := 8) (implicitDefEqProofs := false) [*, -Int.not_le, -Int.not_lt, amLt, f4c, f4m5, f4m7, f4r0, f4r1, f4r2, f4r3, f4r4, f4r5, f4r6, f4r7, f4r8, f4r9, f4m16, f4r10, f4r11, f4r12, f4r13, f4r14, f4r15, f4r16, f4r17, f4r18, f4r19, f4r20, f4r21, f4l5_b, f4l7_b, f4l16_b, app_get, app_get0, app_set, app_set0, slen, ssz, scellsF, rowsz] | with_reducible refine ch_both (fun _ => ?_) (fun _ => ?_) | with_reducible refine ite_both (fun _ => ?_) (fun _ => ?_) | intro _)

end Go.Proofs.Ytfhijkapcdmdnaa
