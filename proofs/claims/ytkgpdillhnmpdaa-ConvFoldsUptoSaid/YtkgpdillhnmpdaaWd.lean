/- Chapter 7: what folding comes to, in the program and in the reference. -/
import Derived.Test.YtkgpdillhnmpdaaWc
import Derived.Test.YtkgpdillhnmpdaaAmW
namespace Go.Proofs.Ytkgpdillhnmpdaa
open Go.AM
set_option maxRecDepth 20000
attribute [local congr] andF_cg onF_cg bthen_cg bkeep_cg bcond_cg guardV_cg ite_cg stepsF_cg
attribute [local simp] Brun_skip Brun_exit Brun_ret Brun_seq Brun_cond Brun_block Brun_region bthen_normal bthen_ret bthen_exit bthen_ite bcond_bool bblock_normal bblock_ret bblock_exit bblock_ite bkeep_some bkeep_ite andF_some andF_ite onF_some onF_none onF_ite
  guardF_none guardF_some guardV_bool guardV_tup putF_some putF_none stepsF_nil stepsF_cons upd_apply ofL_cons ofL_nil bown_ite bown_normal bown_ret banswer_ite banswer_normal banswer_ret aresults ares List.replicate
  stepF_call stepF_callD stepF_move stepF_pick stepF_alloc stepF_allocV stepF_box stepF_boxV stepF_build stepF_buildSlice stepF_buildSliceV stepF_load stepF_store stepF_nilCheck stepF_bin stepF_eq stepF_un stepF_conv stepF_strId stepF_toStr stepF_toBytes stepF_fn stepF_mkSlice stepF_slice stepF_strSlice stepF_fieldAddr stepF_field stepF_idxAddr stepF_idxArr stepF_index stepF_strIndex stepF_extract stepF_len0 stepF_len1 stepF_min stepF_max stepF_append stepF_appendV stepF_mkMap stepF_mkIface stepF_lookup stepF_mapUpdate
  cellsF newF abin_add abin_sub abin_mul abin_quo abin_rem abin_eql abin_neq abin_lss abin_leq abin_gtr abin_geq abin_and abin_or abin_xor abin_shl abin_shr abin_seql abin_sneq aun_not aun_neg aeq_bool aeq_agg eqCells_nil eqCells_int eqCells_bool eqCells_str
  cellsOf_agg cellsOf_int cellsOf_bool cellsOf_str cellsOf_is cellsOf_ms cellsOf_fn cellsOf_nilp cellsOf_mp cellsOf_mm cellsOf_nilm cellsOf_nili cellsOf_ifc cellsOf_ip cget_one cget_agg ev_t ev_c fillp_nil fillp_cons isSc_int isSc_bool isSc_str isSc_is isSc_ms isSc_fn isSc_mm isSc_mp isSc_ip isSc_nilp isSc_nilm isSc_nili isSc_nilf isSc_ifc
  splice strip strip.stripL imm imm.immL Areify_int Areify_bool Areify_str Areify_is Areify_nilp Areify_tup Areify_agg AreifyL
theorem andI_U (a b : Int) : U (andI .u32 a b) := by unfold U andI; rw [IntKind.wrap_u32]; omega
theorem orI_U (a b : Int) : U (orI .u32 a b) := by unfold U orI; rw [IntKind.wrap_u32]; omega
theorem xorI_U (a b : Int) : U (xorI .u32 a b) := by unfold U xorI; rw [IntKind.wrap_u32]; omega
theorem wrap_is_U (a : Int) : U (IntKind.u32.wrap a) := by unfold U; rw [IntKind.wrap_u32]; omega
theorem shr_U {a : Int} (ha : U a) (n : Nat) : U (a.fdiv (2 ^ n)) := by
  unfold U at *
  have hp : (0 : Int) < 2 ^ n := Int.pow_pos (by decide)
  rw [Int.fdiv_eq_ediv_of_nonneg _ (Int.le_of_lt hp)]
  exact ⟨Int.ediv_nonneg ha.1 (Int.le_of_lt hp), Int.le_trans (Int.ediv_le_self _ ha.1) ha.2⟩
theorem U_0 : U 0 := by unfold U; decide
theorem U_01 (p : Prop) [Decidable p] : U (if p then 1 else 0) := by unfold U; split <;> decide
theorem U_10 (p : Prop) [Decidable p] : U (if p then 0 else 1) := by unfold U; split <;> decide
theorem dvd_U {op a b : Int} (ha : U a) (hb : U b) : U (dvd op a b) := by
  unfold dvd
  repeat' split
  · exact tdiv_U ha hb
  · exact tmod_U ha hb
  · exact wrap_is_U _
  · exact wrap_is_U _
theorem U_ite {p : Prop} [Decidable p] {x y : Int × Bool} (hx : U x.1) (hy : U y.1) : U (if p then x else y).1 := by
  by_cases q : p
  · rw [if_pos q]; exact hx
  · rw [if_neg q]; exact hy
theorem bin_U {op a b : Int} (ha : U a) (hb : U b) : U (bin op a b).1 := by
  unfold bin
  repeat' (first | with_reducible refine U_ite ?_ ?_ | exact dvd_U ha hb | exact wrap_is_U _ | exact andI_U .. | exact orI_U .. | exact xorI_U .. | exact shr_U ha _ | exact U_01 _ | exact U_10 _ | exact U_0)
theorem low8_U (v : Int) (s : Bool) : U (low8 v s) := by unfold U low8; split <;> omega
theorem low16_U (v : Int) (s : Bool) : U (low16 v s) := by unfold U low16; split <;> omega
theorem cv_U (k : Int) {v : Int} (hv : U v) : U (cv k v) := by
  unfold cv
  repeat' split
  all_goals first | exact low8_U .. | exact low16_U .. | exact hv | (unfold U; decide)
theorem low8_again (v : Int) (s : Bool) : low8 (low8 v s) s = low8 v s := by
  cases s
  · simp [low8]
  · simp only [low8, true_and]; repeat' split
    all_goals omega
theorem low16_again (v : Int) (s : Bool) : low16 (low16 v s) s = low16 v s := by
  cases s
  · simp [low16]
  · simp only [low16, true_and]; repeat' split
    all_goals omega
theorem cv_again (k v : Int) : cv k (cv k v) = cv k v := by
  by_cases h : k = 2
  · by_cases q : v = 0 <;> simp [cv, h, q]
  · by_cases h1 : width k = 1
    · simp only [cv, if_neg h, if_pos h1, low8_again]
    · by_cases h2 : width k = 2
      · simp only [cv, if_neg h, if_neg h1, if_pos h2, low16_again]
      · simp only [cv, if_neg h, if_neg h1, if_neg h2]
def named (op : Int) : Bool := decide (1 ≤ op ∧ op ≤ 19)
theorem nm_named (op : Int) : nm op = [] ↔ named op = false := by rw [nm_empty]; simp [named]
def fold (k op a b : Int) : Int × Int :=
  if integerK k = true ∧ named op = true then (if (bin op a b).2 = true then (cv k (bin op a b).1, 0) else (0, 71)) else (0, 70)
theorem fold_ok (h : Heap) (k op a b : Int) (ha : U a) (hb : U b) : Ccall tab 6 [.int .i64 k, .int .i64 op, .int .u32 a, .int .u32 b] h = some (.tup [.int .u32 (fold k op a b).1, .int .i64 (fold k op a b).2], h) := by
  have h1 := bin_U (op := op) ha hb
  have h2 := fun h => bin_ok h op a b ha hb
  have h3 := fun h => convert_ok h k _ h1
  unfold fold
  generalize bin op a b = r at *
  obtain ⟨w, ok⟩ := r
  dsimp only at *
  refine Ccall_own rfl rfl rfl rfl ?_
  repeat (any_goals first | simp (maxDischargeDepth := 8) (implicitDefEqProofs := false) [*, -Int.not_le, -Int.not_lt, amLt, f6c, f6r0, f6r1, f6r2, f6r3, f6r4, f6r5, f6r6, f6r7, integer_ok, name_ok, nm_named] | with_reducible refine ite_both (fun _ => ?_) (fun _ => ?_) | intro _)
theorem fold_ok' (h : Heap) (k op a b : Int) (ha : U a) (hb : U b) : Ccall tab 12 [.int .i64 k, .int .i64 op, .int .u32 a, .int .u32 b] h = some (.tup [.int .u32 (fold k op a b).1, .int .i64 (fold k op a b).2], h) := by
  have h1 := bin_U (op := op) ha hb
  have h2 := fun h => bin_ok' h op a b ha hb
  have h3 := fun h => convert_ok' h k _ h1
  unfold fold
  generalize bin op a b = r at *
  obtain ⟨w, ok⟩ := r
  dsimp only at *
  refine Ccall_own rfl rfl rfl rfl ?_
  repeat (any_goals first | simp (maxDischargeDepth := 8) (implicitDefEqProofs := false) [*, -Int.not_le, -Int.not_lt, amLt, f12c, f12r0, f12r1, f12r2, f12r3, f12r4, f12r5, f12r6, integer_ok', name_ok', nm_named] | with_reducible refine ite_both (fun _ => ?_) (fun _ => ?_) | intro _)
theorem usual_ok' (h : Heap) (a b : Int) : Ccall tab 11 [.int .i64 a, .int .i64 b] h = some (.tup [.int .i64 (usual a b).1, .int .i64 (usual a b).2], h) := by
  refine Ccall_own rfl rfl rfl rfl ?_
  unfold usual
  generalize ha : integerK a = p
  generalize hb : integerK b = q
  generalize hx : promote a (-1) = x
  generalize hy : promote b (-1) = y
  repeat (any_goals first | simp (maxDischargeDepth := 8) (implicitDefEqProofs := false) [*, -Int.not_le, -Int.not_lt, amLt, f11c, f11r0, f11r1, f11r2, f11r3, f11r4, f11r5, f11r6, f11r7, f11r8, f11r9, f11r10, f11r11, f11r12, f11r13, integer_ok', promote_ok'] | with_reducible refine ite_both (fun _ => ?_) (fun _ => ?_) | intro _)
  all_goals omega

end Go.Proofs.Ytkgpdillhnmpdaa
