/- Moves: what is answered. -/
import Derived.Test.YtfhijkapcdmdnaaMi
import Derived.Test.YtfhijkapcdmdnaaAmW
namespace Go.Proofs.Ytfhijkapcdmdnaa
open Go.AM
set_option maxRecDepth 20000
set_option maxHeartbeats 4000000
set_option linter.unusedSimpArgs false
set_option linter.unusedVariables false
attribute [local congr] andF_cg onF_cg bthen_cg bkeep_cg bcond_cg guardV_cg putF_cg guardF_cg ite_cg stepsF_cg
attribute [local simp] Brun_skip Brun_exit Brun_ret Brun_seq Brun_cond Brun_block Brun_region bthen_normal bthen_ret bthen_exit bblock_normal bblock_ret bblock_exit bkeep_some andF_some onF_some onF_none guardF_none guardF_some guardV_tup putF_some putF_none stepsF_nil stepsF_cons upd_apply ofL_cons ofL_nil bown_normal bown_ret banswer_normal banswer_ret aresults ares List.replicate stepF_call stepF_callD stepF_move stepF_pick stepF_alloc stepF_allocV stepF_box stepF_boxV stepF_build stepF_buildSlice stepF_buildSliceV stepF_load stepF_store stepF_nilCheck stepF_bin stepF_eq stepF_un stepF_conv stepF_strId strIdV_str strIdV_int stepF_toStr stepF_toBytes stepF_fn stepF_mkSlice stepF_slice stepF_strSlice stepF_fieldAddr stepF_field stepF_idxAddr stepF_idxArr stepF_index stepF_strIndex stepF_extract stepF_len0 stepF_len1 stepF_min stepF_max stepF_append stepF_appendF appF_none appF_row stepF_mkMap stepF_mkIface stepF_lookup stepF_mapUpdate stepF_ext aext_idx aext_count aext_same cellsF newF abin_add abin_sub abin_mul abin_quo abin_rem abin_eql abin_neq abin_lss abin_leq abin_gtr abin_geq abin_and abin_or abin_xor abin_shl abin_shr abin_seql abin_sneq aun_not aun_neg aeq_bool aeq_agg eqCells_nil eqCells_int eqCells_bool eqCells_str cellsOf_agg cellsOf_int cellsOf_bool cellsOf_str cellsOf_is cellsOf_ms cellsOf_fn cellsOf_nilp cellsOf_mp cellsOf_mm cellsOf_nilm cellsOf_nili cellsOf_ifc cellsOf_ip cget_one cget_agg ev_t ev_c fillp_nil fillp_cons isSc_int isSc_bool isSc_str isSc_is isSc_ms isSc_fn isSc_mm isSc_mp isSc_ip isSc_nilp isSc_nilm isSc_nili isSc_nilf isSc_ifc splice chunk strip strip.stripL imm imm.immL Areify_int Areify_bool Areify_str Areify_is Areify_nilp Areify_tup Areify_agg AreifyL andF_chi andF_ch onF_chi onF_ch bthen_ch bthen_chi bblock_ch bblock_chi bkeep_ch bkeep_chi bown_ch bown_chi banswer_ch banswer_chi isSome_ch bcond_ch guardV_ch1 guardV_ch0 chF_true chF_false chF_not
attribute [local simp ↓] andF_some andF_chi andF_ch onF_some onF_none onF_chi onF_ch bthen_normal bthen_ret bthen_exit bthen_ch bthen_chi bblock_normal bblock_ret bblock_exit bblock_ch bblock_chi bkeep_some bkeep_ch bkeep_chi bown_normal bown_ret bown_ch bown_chi banswer_normal banswer_ret banswer_ch banswer_chi bcond_ch guardV_ch1 guardV_ch0 guardV_tup guardF_none guardF_some putF_some putF_none stepsF_nil stepsF_cons chF_true chF_false Brun_seq Brun_cond Brun_block Brun_region Brun_skip Brun_ret Brun_exit stepF_call stepF_callD stepF_move stepF_pick stepF_alloc stepF_allocV stepF_box stepF_boxV stepF_build stepF_buildSlice stepF_buildSliceV stepF_load stepF_store stepF_nilCheck stepF_bin stepF_eq stepF_un stepF_conv stepF_strId stepF_toStr stepF_toBytes stepF_fn stepF_mkSlice stepF_slice stepF_strSlice stepF_fieldAddr stepF_field stepF_idxAddr stepF_idxArr stepF_index stepF_strIndex stepF_extract stepF_len0 stepF_len1 stepF_min stepF_max stepF_append stepF_appendF stepF_mkMap stepF_mkIface stepF_lookup stepF_mapUpdate stepF_ext
set_option maxHeartbeats 4000000
theorem reify_ints {h : Heap} : ∀ (l : List Int), AreifyL h (l.map fun n => AV.int .i64 n) = some (l.map fun n => AV.int .i64 n) := by
  intro l
  induction l with
  | nil => rfl
  | cons n r ih => simp [AreifyL, Areify_int, ih]
theorem flatM_ints (o : List Mv) : ∃ l : List Int, flatM o = l.map fun n => AV.int .i64 n := by
  induction o with
  | nil => exact ⟨[], rfl⟩
  | cons m r ih =>
    obtain ⟨l, hl⟩ := ih
    exact ⟨m.1 :: m.2 :: l, by rw [flatM_cons, hl]; rfl⟩
theorem chunk_flat (o : List Mv) : chunk 2 o.length (flatM o) = mvRows o := by
  induction o with
  | nil => rfl
  | cons m r ih =>
    show (flatM (m :: r)).take 2 :: chunk 2 r.length ((flatM (m :: r)).drop 2) = _
    rw [flatM_cons]
    have e1 : (mvRow m ++ flatM r).take 2 = mvRow m := by simp [mvRow]
    have e2 : (mvRow m ++ flatM r).drop 2 = flatM r := by simp [mvRow]
    rw [e1, e2, ih]
    rfl
theorem out_reify {G : Heap} {R : Nat} {ov : AV} {o : List Mv} (h : OutAt G R ov o) : Areify G ov = some (.is (mvRows o) .no) := by
  rcases h with ⟨rfl, rfl⟩ | ⟨O, rfl, hO, _, _⟩
  · exact Areify_is
  · have hl := flatM_len o
    obtain ⟨l, hi⟩ := flatM_ints o
    have := Areify_ms (ex := false) (cap := o.length) (off := 0) (len := o.length) (sz := 2) hO (by omega) (l := flatM o) (by
      rw [List.drop_zero, List.take_of_length_le (by omega), hi]; exact reify_ints l)
    rw [this, chunk_flat]
theorem rightL_spec {sp : Int} : ∀ (r pre : List Mv), rightL sp pre r = true → (tos pre).Nodup → (tos (pre ++ r)).Nodup ∧ ∀ m ∈ r, okM sp m = true := by
  intro r
  induction r with
  | nil => intro pre _ h; exact ⟨by simpa using h, fun m hm => by cases hm⟩
  | cons m r ih =>
    intro pre h hn
    simp only [rightL, Bool.and_eq_true, Bool.not_eq_true'] at h
    obtain ⟨⟨h1, h2⟩, h3⟩ := h
    have hnd : (tos (pre ++ [m])).Nodup := by
      simp only [tos, List.map_append, List.map_cons, List.map_nil]
      refine List.nodup_append.2 ⟨hn, by simp, fun a ha b hb => ?_⟩
      simp only [List.mem_singleton] at hb
      subst hb
      obtain ⟨x, hx, rfl⟩ := List.mem_map.1 ha
      have := List.any_eq_false.1 h2 x hx
      simpa using this
    obtain ⟨g1, g2⟩ := ih (pre ++ [m]) h3 hnd
    rw [List.append_assoc] at g1
    refine ⟨g1, fun q hq => ?_⟩
    rcases List.mem_cons.1 hq with rfl | hq
    · exact h1
    · exact g2 q hq
theorem right_inv {sp : Int} {l : List Mv} (h : rightS sp l = true) : InvM sp (l.filter fun m => !self m) ∧ InR (l.filter fun m => !self m) ∧ (tos l).Nodup ∧ (0 ≤ sp ∧ sp ≤ 15) ∧ ∀ m ∈ l, (0 ≤ m.1 ∧ m.1 ≤ 15) ∧ (0 ≤ m.2 ∧ m.2 ≤ 15) ∧ m.1 ≠ sp ∧ m.2 ≠ sp := by
  unfold rightS at h
  simp only [Bool.and_eq_true] at h
  obtain ⟨h0, h1⟩ := h
  obtain ⟨g1, g2⟩ := rightL_spec l [] h1 (by simp [tos])
  rw [List.nil_append] at g1
  have hall : ∀ m ∈ l, (0 ≤ m.1 ∧ m.1 ≤ 15) ∧ (0 ≤ m.2 ∧ m.2 ≤ 15) ∧ m.1 ≠ sp ∧ m.2 ≠ sp := fun m hm => by
    have := g2 m hm
    unfold okM regB at this
    simp only [Bool.and_eq_true, decide_eq_true_eq, Bool.not_eq_true', decide_eq_false_iff_not] at this
    exact ⟨this.1.1.1, this.1.1.2, this.1.2, this.2⟩
  refine ⟨⟨List.Nodup.sublist (List.Sublist.map _ List.filter_sublist) g1, fun hs => ?_⟩, fun m hm => ?_, g1, by unfold regB at h0; simpa using h0, hall⟩
  · obtain ⟨m, hm, he⟩ := List.mem_map.1 hs
    exact (hall m (List.mem_filter.1 hm).1).2.2.1 he
  · have := hall m (List.mem_filter.1 hm).1
    exact ⟨this.1, this.2.1⟩
def restM (l : List Mv) : List Mv := l.filter fun m => !self m
def movesA (sp : Int) (l : List Mv) : List Mv := moves sp (need (restM l)) (restM l) []
theorem need_le (r : List Mv) : need r ≤ 2 * r.length := by unfold need; split <;> omega
/-- What the order of moves comes to. -/
def ansM (sp : Int) (l : List Mv) : AV := if rightS sp l = true then .tup [.is (mvRows (movesA sp l)) .no, .int .i64 0] else .tup [.is [] .no, .int .i64 2]
theorem moves4_ok (h : Heap) (l : List Mv) (sp : Int) (c0 : Cap) (hl : l.length ≤ 4194304) : Ccall tab 4 [.is (mvRows l) c0, .int .i64 sp] h = some (ansM sp l, h) := by
  have hmay := fun c h => may_ok (sp := sp) (l := l) (c0 := c) h (by omega)
  unfold ansM
  refine Ccall_both rfl rfl rfl (fun hne => ?_) (fun he => ?_)
  · have hne' : l ≠ [] := fun e => hne (by rw [e]; rfl)
    cases hr : rightS sp l with
    | false =>
      rw [hr] at hmay
      rw [if_neg (by simp)]
      generalize mvRows l = X at *
      clear hl hne hne' hr
      repeat (any_goals first | simp (dsimp := false) (maxSteps := 4000000) (maxDischargeDepth := 8) (implicitDefEqProofs := false) [*, -Int.not_le, -Int.not_lt, amLt, f4c, f4m5, f4m7, f4r0, f4r1, f4r2, f4r3, f4r4, f4r5, f4r6, f4r7, f4r8, f4r9, f4m16, f4r10, f4r11, f4r12, f4r13, f4r14, f4r15, f4r16, f4r17, f4r18, f4r19, f4r20, f4r21, f4l5_b, f4l7_b, f4l16_b] | with_reducible refine ch_both (fun _ => ?_) (fun _ => ?_) | with_reducible refine ite_both (fun _ => ?_) (fun _ => ?_) | intro _)
    | true =>
      rw [hr] at hmay
      rw [if_pos rfl]
      obtain ⟨hI, hIn, _, _⟩ := right_inv hr
      have hcl := fun c => clone_ok [] l c (by omega) hne'
      simp only [List.length_nil, Nat.zero_add, List.nil_append] at hcl
      obtain ⟨G1, K1, ⟨x1, x2⟩, x3, x4, x5, x6⟩ := delfn_ok (R := 1) (cap := l.length) (ex := false) l l.length [.cells [], .cells (flatM l)] rfl (by omega) (Nat.le_refl _) (Nat.le_refl _)
      rw [List.take_length] at x5 x6
      have hrl : (restM l).length ≤ l.length := List.length_filter_le ..
      have hR : l.filter (fun m => !self m) = restM l := rfl
      rw [hR] at x5 x6 hI
      obtain ⟨G2, ov, E', y1, y2⟩ := moves_loop (sp := sp) (R := 1) (cap := l.length) (ex := false) (need (restM l)) K1 (restM l).length [] G1 (.is [] .nil) [] (by omega) (by omega) hrl (by have := need_le (restM l); simp; omega) (by rw [x5]; exact hI) (by rw [x5]; exact Nat.le_refl _) x3 (.inl ⟨rfl, rfl⟩)
      rw [x5] at y1
      have hre := out_reify y1
      have hM : moves sp (need (restM l)) (restM l) [] = movesA sp l := rfl
      rw [hM] at hre
      have hre2 : Areify G2 (.int .i64 0) = some (.int .i64 0) := Areify_int
      obtain ⟨ea, eb⟩ := E'
      dsimp only at y2
      generalize mvRows l = X at *
      generalize mvRows (movesA sp l) = MA at *
      generalize flatM l = FL at *
      clear hl hne hne' hr hI hIn hrl hR x1 x2 x3 x4 x5 y1 hM
      repeat (any_goals first | simp (dsimp := false) (maxSteps := 4000000) (maxDischargeDepth := 8) (implicitDefEqProofs := false) [*, -Int.not_le, -Int.not_lt, amLt, f4c, f4m5, f4m7, f4r0, f4r1, f4r2, f4r3, f4r4, f4r5, f4r6, f4r7, f4r8, f4r9, f4m16, f4r10, f4r11, f4r12, f4r13, f4r14, f4r15, f4r16, f4r17, f4r18, f4r19, f4r20, f4r21, f4l5_b, f4l7_b, f4l16_b] | with_reducible refine ch_both (fun _ => ?_) (fun _ => ?_) | with_reducible refine ite_both (fun _ => ?_) (fun _ => ?_) | intro _)
  · have hl0 : l = [] := by
      cases l with
      | nil => rfl
      | cons m r => cases he
    subst hl0
    have hm1 := fun h => hmay .nil h
    have hm2 := fun h => hmay .nn h
    have hX : mvRows [] = [] := rfl
    rw [hX] at hm1 hm2
    have hMA : mvRows (movesA sp []) = [] := rfl
    rw [hMA]
    cases hr : rightS sp [] with
    | false =>
      rw [hr] at hm1 hm2
      rw [if_neg (by simp)]
      refine ⟨.tup [.is [] .no, .int .i64 2], .tup [.is [] .no, .int .i64 2], ?_, ?_, rfl⟩
      · clear hmay hl he hr hm2 hX hMA
        repeat (any_goals first | simp (dsimp := false) (maxSteps := 4000000) (maxDischargeDepth := 8) (implicitDefEqProofs := false) [*, -Int.not_le, -Int.not_lt, amLt, f4c, f4m5, f4m7, f4r0, f4r1, f4r2, f4r3, f4r4, f4r5, f4r6, f4r7, f4r8, f4r9, f4m16, f4r10, f4r11, f4r12, f4r13, f4r14, f4r15, f4r16, f4r17, f4r18, f4r19, f4r20, f4r21, f4l5_b, f4l7_b, f4l16_b] | with_reducible refine ch_both (fun _ => ?_) (fun _ => ?_) | with_reducible refine ite_both (fun _ => ?_) (fun _ => ?_) | intro _)
      · clear hmay hl he hr hm1 hX hMA
        repeat (any_goals first | simp (dsimp := false) (maxSteps := 4000000) (maxDischargeDepth := 8) (implicitDefEqProofs := false) [*, -Int.not_le, -Int.not_lt, amLt, f4c, f4m5, f4m7, f4r0, f4r1, f4r2, f4r3, f4r4, f4r5, f4r6, f4r7, f4r8, f4r9, f4m16, f4r10, f4r11, f4r12, f4r13, f4r14, f4r15, f4r16, f4r17, f4r18, f4r19, f4r20, f4r21, f4l5_b, f4l7_b, f4l16_b] | with_reducible refine ch_both (fun _ => ?_) (fun _ => ?_) | with_reducible refine ite_both (fun _ => ?_) (fun _ => ?_) | intro _)
    | true =>
      rw [hr] at hm1 hm2
      rw [if_pos rfl]
      refine ⟨.tup [.is [] .no, .int .i64 0], .tup [.is [] .no, .int .i64 0], ?_, ?_, rfl⟩
      · have hc : Ccall tab 10 [.is [] .nil] [] = some (.is [] .nil, []) := Ccall_run (w := []) 60 (by kernel_rfl)
        have hd : Ccall tab 9 [.is [] .nil, .fn 11 [] []] [] = some (.is [] .no, []) := Ccall_run (w := []) 60 (by kernel_rfl)
        have lp : ∀ E, Brun tab 71 (.loop f4l5) (ofL ((1, .int .i64 sp) :: (6, .is [] .no) :: (7, .is [] .nil) :: E)) [] = some (.exit 0, ofL [(1, .int .i64 sp), (6, .is [] .no), (7, .is [] .nil), (21, .bool false)], []) := fun E => by
          rw [Brun_loop]
          clear hc hd hmay hl he hr hm1 hm2 hX hMA
          repeat (any_goals first | simp (dsimp := false) (maxSteps := 4000000) (maxDischargeDepth := 8) (implicitDefEqProofs := false) [*, -Int.not_le, -Int.not_lt, amLt, f4c, f4m5, f4m7, f4r0, f4r1, f4r2, f4r3, f4r4, f4r5, f4r6, f4r7, f4r8, f4r9, f4m16, f4r10, f4r11, f4r12, f4r13, f4r14, f4r15, f4r16, f4r17, f4r18, f4r19, f4r20, f4r21, f4l5_b, f4l7_b, f4l16_b] | with_reducible refine ch_both (fun _ => ?_) (fun _ => ?_) | with_reducible refine ite_both (fun _ => ?_) (fun _ => ?_) | intro _)
        clear hmay hl he hr hm2 hX hMA
        repeat (any_goals first | simp (dsimp := false) (maxSteps := 4000000) (maxDischargeDepth := 8) (implicitDefEqProofs := false) [*, -Int.not_le, -Int.not_lt, amLt, f4c, f4m5, f4m7, f4r0, f4r1, f4r2, f4r3, f4r4, f4r5, f4r6, f4r7, f4r8, f4r9, f4m16, f4r10, f4r11, f4r12, f4r13, f4r14, f4r15, f4r16, f4r17, f4r18, f4r19, f4r20, f4r21, f4l5_b, f4l7_b, f4l16_b] | with_reducible refine ch_both (fun _ => ?_) (fun _ => ?_) | with_reducible refine ite_both (fun _ => ?_) (fun _ => ?_) | intro _)
      · have hc : Ccall tab 10 [.is [] .nn] [] = some (.ms 0 0 0 2 0 true, [.cells [], .free]) := Ccall_run (w := []) 60 (by kernel_rfl)
        have hd : Ccall tab 9 [.ms 0 0 0 2 0 true, .fn 11 [] []] [.cells [], .free] = some (.ms 0 0 0 2 0 true, [.cells [], .free]) := Ccall_run (w := []) 60 (by kernel_rfl)
        have lp : ∀ E, Brun tab 71 (.loop f4l5) (ofL ((1, .int .i64 sp) :: (6, .ms 0 0 0 2 0 true) :: (7, .is [] .nil) :: E)) [.cells [], .free] = some (.exit 0, ofL [(1, .int .i64 sp), (6, .ms 0 0 0 2 0 true), (7, .is [] .nil), (21, .bool false)], [.cells [], .free]) := fun E => by
          rw [Brun_loop]
          clear hc hd hmay hl he hr hm1 hm2 hX hMA
          repeat (any_goals first | simp (dsimp := false) (maxSteps := 4000000) (maxDischargeDepth := 8) (implicitDefEqProofs := false) [*, -Int.not_le, -Int.not_lt, amLt, f4c, f4m5, f4m7, f4r0, f4r1, f4r2, f4r3, f4r4, f4r5, f4r6, f4r7, f4r8, f4r9, f4m16, f4r10, f4r11, f4r12, f4r13, f4r14, f4r15, f4r16, f4r17, f4r18, f4r19, f4r20, f4r21, f4l5_b, f4l7_b, f4l16_b] | with_reducible refine ch_both (fun _ => ?_) (fun _ => ?_) | with_reducible refine ite_both (fun _ => ?_) (fun _ => ?_) | intro _)
        clear hmay hl he hr hm1 hX hMA
        repeat (any_goals first | simp (dsimp := false) (maxSteps := 4000000) (maxDischargeDepth := 8) (implicitDefEqProofs := false) [*, -Int.not_le, -Int.not_lt, amLt, f4c, f4m5, f4m7, f4r0, f4r1, f4r2, f4r3, f4r4, f4r5, f4r6, f4r7, f4r8, f4r9, f4m16, f4r10, f4r11, f4r12, f4r13, f4r14, f4r15, f4r16, f4r17, f4r18, f4r19, f4r20, f4r21, f4l5_b, f4l7_b, f4l16_b] | with_reducible refine ch_both (fun _ => ?_) (fun _ => ?_) | with_reducible refine ite_both (fun _ => ?_) (fun _ => ?_) | intro _)

end Go.Proofs.Ytfhijkapcdmdnaa
