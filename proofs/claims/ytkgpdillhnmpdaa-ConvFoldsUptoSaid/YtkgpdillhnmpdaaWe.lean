/- Chapter 7: what is folded, and the kinds: the two laws. -/
import Derived.Test.YtkgpdillhnmpdaaWd
import Derived.Test.YtkgpdillhnmpdaaWa
import Derived.Test.YtkgpdillhnmpdaaAmW
namespace Go.Proofs.Ytkgpdillhnmpdaa
open Go.AM
set_option maxRecDepth 20000
attribute [local congr] andF_cg onF_cg bthen_cg bkeep_cg bcond_cg guardV_cg ite_cg stepsF_cg
attribute [local simp] Brun_skip Brun_exit Brun_ret Brun_seq Brun_cond Brun_block Brun_region bthen_normal bthen_ret bthen_exit bthen_ite bcond_bool bblock_normal bblock_ret bblock_exit bblock_ite bkeep_some bkeep_ite andF_some andF_ite onF_some onF_none onF_ite
  guardF_none guardF_some guardV_bool guardV_tup putF_some putF_none stepsF_nil stepsF_cons upd_apply ofL_cons ofL_nil bown_ite bown_normal bown_ret banswer_ite banswer_normal banswer_ret aresults ares List.replicate
  stepF_call stepF_callD stepF_move stepF_pick stepF_alloc stepF_allocV stepF_box stepF_boxV stepF_build stepF_buildSlice stepF_buildSliceV stepF_load stepF_store stepF_nilCheck stepF_bin stepF_eq stepF_un stepF_conv stepF_strId stepF_toStr stepF_toBytes stepF_fn stepF_mkSlice stepF_slice stepF_strSlice stepF_fieldAddr stepF_field stepF_idxAddr stepF_idxArr stepF_index stepF_strIndex stepF_extract stepF_len0 stepF_len1 stepF_min stepF_max stepF_append stepF_appendV stepF_mkMap stepF_mkIface stepF_lookup stepF_mapUpdate
  cellsF newF abin_add abin_sub abin_mul abin_quo abin_rem abin_eql abin_neq abin_lss abin_leq abin_gtr abin_geq abin_and abin_or abin_xor abin_shl abin_shr abin_seql abin_sneq aun_not aun_neg aeq_bool aeq_agg eqCells_nil eqCells_int eqCells_bool eqCells_str
  cellsOf_agg cellsOf_int cellsOf_bool cellsOf_str cellsOf_is cellsOf_ms cellsOf_fn cellsOf_nilp cellsOf_mp cellsOf_mm cellsOf_nilm cellsOf_nili cellsOf_ifc cellsOf_ip cget_one cget_agg ev_t ev_c fillp_nil fillp_cons isSc_int isSc_bool isSc_str isSc_is isSc_ms isSc_fn isSc_mm isSc_mp isSc_ip isSc_nilp isSc_nilm isSc_nili isSc_nilf isSc_ifc
  splice strip strip.stripL imm imm.immL Areify_int Areify_bool Areify_str Areify_is Areify_nilp Areify_tup Areify_agg AreifyL
theorem bin_one {v : Int} (h : U v) : bin 1 v 0 = (v, true) := by
  have := wrap_U h
  simp [bin, this]
theorem fold_again {k op a b : Int} (ha : U a) (hb : U b) (h : (fold k op a b).2 = 0) : fold k 1 (fold k op a b).1 0 = ((fold k op a b).1, 0) := by
  have hU := bin_U (op := op) ha hb
  unfold fold at h ⊢
  by_cases h1 : integerK k = true
  · by_cases h2 : named op = true
    · by_cases h3 : (bin op a b).2 = true
      · have hv := cv_U k hU
        have e := bin_one hv
        have n1 : named 1 = true := by decide
        simp only [h1, h2, h3, n1, and_self, if_true, e, cv_again]
      · simp [h1, h2, h3] at h
    · simp [h1, h2] at h
  · simp [h1] at h
theorem heads_in (h : Heap) : Ccall tab 8 [] h = some (.bool true, h) := heads_ok h
theorem folds_ok (h : Heap) (k op a b : Int) (ha : U a) (hb : U b) : Ccall tab 3 [.int .i64 k, .int .i64 op, .int .u32 a, .int .u32 b] h = some (.bool true, h) := by
  have hU := bin_U (op := op) ha hb
  have h1 := fun h => fold_ok h k op a b ha hb
  have h2 := fun h => bin_ok h op a b ha hb
  have h3 := fun h => convert_ok h k _ hU
  have hF : U (fold k op a b).1 := by
    unfold fold
    by_cases p : integerK k = true ∧ named op = true
    · rw [if_pos p]; by_cases q : (bin op a b).2 = true
      · rw [if_pos q]; exact cv_U k hU
      · rw [if_neg q]; exact U_0
    · rw [if_neg p]; exact U_0
  have h4 := fun h => fold_ok h k 1 _ 0 hF U_0
  have h6 : (fold k op a b).2 = 0 → fold k 1 (fold k op a b).1 0 = ((fold k op a b).1, 0) := fold_again ha hb
  have h5 : fold k op a b = (cv k (bin op a b).1, 0) ∧ (bin op a b).2 = true ∨ fold k op a b = (0, 71) ∧ (bin op a b).2 = false ∨ fold k op a b = (0, 70) := by
    unfold fold
    by_cases p : integerK k = true ∧ named op = true
    · rw [if_pos p]; by_cases q : (bin op a b).2 = true
      · rw [if_pos q]; exact .inl ⟨rfl, q⟩
      · rw [if_neg q]; exact .inr (.inl ⟨rfl, by simpa using q⟩)
    · rw [if_neg p]; exact .inr (.inr rfl)
  clear ha hb
  generalize fold k op a b = r at *
  generalize bin op a b = w at *
  obtain ⟨v, e⟩ := r
  obtain ⟨w, ok⟩ := w
  dsimp only at *
  refine Ccall_own rfl rfl rfl rfl ?_
  rcases h5 with ⟨q, q2⟩ | ⟨q, q2⟩ | q
  · cases q; subst q2
    have h6 := h6 rfl
    rw [h6] at h4
    dsimp only at h4
    clear h6
    have w0 := @heads_in
    generalize tab = A at *
    repeat (any_goals first | simp (maxDischargeDepth := 8) (implicitDefEqProofs := false) [*, -Int.not_le, -Int.not_lt, amLt, f3c, f3r0, f3r1, f3r2, f3r3, f3r4, f3r5, f3r6, f3r7] | with_reducible refine ite_both (fun _ => ?_) (fun _ => ?_) | intro _)
  · cases q; subst q2
    clear h6 h4
    have w0 := @heads_in
    generalize tab = A at *
    repeat (any_goals first | simp (maxDischargeDepth := 8) (implicitDefEqProofs := false) [*, -Int.not_le, -Int.not_lt, amLt, f3c, f3r0, f3r1, f3r2, f3r3, f3r4, f3r5, f3r6, f3r7] | with_reducible refine ite_both (fun _ => ?_) (fun _ => ?_) | intro _)
  · cases q
    clear h6 h4
    have w0 := @heads_in
    generalize tab = A at *
    repeat (any_goals first | simp (maxDischargeDepth := 8) (implicitDefEqProofs := false) [*, -Int.not_le, -Int.not_lt, amLt, f3c, f3r0, f3r1, f3r2, f3r3, f3r4, f3r5, f3r6, f3r7] | with_reducible refine ite_both (fun _ => ?_) (fun _ => ?_) | intro _)
theorem kinds_ok (h : Heap) (a b c op x y : Int) (hx : U x) (hy : U y) : Ccall tab 4 [.int .i64 a, .int .i64 b, .int .i64 c, .int .i64 op, .int .u32 x, .int .u32 y] h = some (.bool true, h) := by
  have h1 := fun h => fold_ok h a op x y hx hy
  have h2 := fun h => fold_ok' h a op x y hx hy
  clear hx hy
  refine Ccall_own rfl rfl rfl rfl ?_
  have w0 := @usual_ok
  have w1 := @usual_ok'
  have w2 := @promote_ok
  have w3 := @promote_ok'
  have w4 := @heads_in
  generalize tab = A at *
  repeat (any_goals first | simp (maxDischargeDepth := 8) (implicitDefEqProofs := false) [*, -Int.not_le, -Int.not_lt, amLt, f4c, f4r0, f4r1, f4r2, f4r3, f4r4, f4r5] | with_reducible refine ite_both (fun _ => ?_) (fun _ => ?_) | intro _)
theorem wf_U {n : Int} (h : (Lit.int .u32 n).wf = true) : U n := by
  have h1 : IntKind.u32.min ≤ n ∧ n ≤ IntKind.u32.max := by simpa [Lit.wf] using h
  exact h1
theorem folds_law : ∀ xs, ArgsL 1048576 f3s xs → ∃ h', Ccall tab 3 xs [] = some (.bool true, h') := by
  intro xs hxs
  unfold f3s at hxs
  simp only [ArgsL, Sh.Arg, Sh.Row] at hxs
  obtain ⟨x, r, rfl, ⟨k, _, hk⟩, y, r2, rfl, ⟨op, _, hop⟩, z, r3, rfl, ⟨a, ha, hza⟩, u, r4, rfl, ⟨b, hb, hub⟩, rfl⟩ := hxs
  cases hk
  cases hop
  cases hza
  cases hub
  exact ⟨_, folds_ok [] k op a b (wf_U ha) (wf_U hb)⟩
theorem kinds_law : ∀ xs, ArgsL 1048576 f4s xs → ∃ h', Ccall tab 4 xs [] = some (.bool true, h') := by
  intro xs hxs
  unfold f4s at hxs
  simp only [ArgsL, Sh.Arg, Sh.Row] at hxs
  obtain ⟨x, r, rfl, ⟨a, _, h1⟩, y, r2, rfl, ⟨b, _, h2⟩, z, r3, rfl, ⟨c, _, h3⟩, t, r4, rfl, ⟨op, _, h4⟩, u, r5, rfl, ⟨m, hm, h5⟩, v, r6, rfl, ⟨n, hn, h6⟩, rfl⟩ := hxs
  cases h1
  cases h2
  cases h3
  cases h4
  cases h5
  cases h6
  exact ⟨_, kinds_ok [] a b c op m n (wf_U hm) (wf_U hn)⟩

end Go.Proofs.Ytkgpdillhnmpdaa
