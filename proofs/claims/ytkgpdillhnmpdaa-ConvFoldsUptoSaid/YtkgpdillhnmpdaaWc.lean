/- Chapter 7: conversions, promotion, the usual kind, and the operations' names, in the program and in the reference. -/
import Derived.Test.YtkgpdillhnmpdaaWb
import Derived.Test.YtkgpdillhnmpdaaAmW
namespace Go.Proofs.Ytkgpdillhnmpdaa
open Go.AM
set_option maxRecDepth 20000
attribute [local congr] andF_cg onF_cg bthen_cg bkeep_cg bcond_cg guardV_cg ite_cg stepsF_cg
attribute [local simp] Brun_skip Brun_exit Brun_ret Brun_seq Brun_cond Brun_block Brun_region bthen_normal bthen_ret bthen_exit bthen_ite bcond_bool bblock_normal bblock_ret bblock_exit bblock_ite bkeep_some bkeep_ite andF_some andF_ite onF_some onF_none onF_ite
  guardF_none guardF_some guardV_bool guardV_tup putF_some putF_none stepsF_nil stepsF_cons upd_apply ofL_cons ofL_nil bown_ite bown_normal bown_ret banswer_ite banswer_normal banswer_ret aresults ares List.replicate
  stepF_call stepF_callD stepF_move stepF_pick stepF_alloc stepF_allocV stepF_box stepF_boxV stepF_build stepF_buildSlice stepF_buildSliceV stepF_load stepF_store stepF_nilCheck stepF_bin stepF_eq stepF_un stepF_conv stepF_strId stepF_toStr stepF_toBytes stepF_fn stepF_mkSlice stepF_slice stepF_strSlice stepF_fieldAddr stepF_field stepF_idxAddr stepF_idxArr stepF_index stepF_strIndex stepF_extract stepF_len0 stepF_len1 stepF_min stepF_max stepF_append stepF_appendV stepF_mkMap stepF_mkIface stepF_lookup stepF_mapUpdate
  cellsF newF abin_add abin_sub abin_mul abin_quo abin_rem abin_eql abin_neq abin_lss abin_leq abin_gtr abin_geq abin_and abin_or abin_xor abin_shl abin_shr abin_seql abin_sneq aun_not aun_neg aeq_bool aeq_agg eqCells_nil eqCells_int eqCells_bool eqCells_str
  cellsOf_agg cellsOf_int cellsOf_bool cellsOf_str cellsOf_is cellsOf_ms cellsOf_fn cellsOf_nilp cellsOf_mp cellsOf_mm cellsOf_nilm cellsOf_nili cellsOf_ifc cellsOf_ip cget_one cget_agg ev_t ev_c fillp_nil fillp_cons isSc_int isSc_bool isSc_str isSc_is isSc_ms isSc_fn isSc_mm isSc_mp isSc_ip isSc_nilp isSc_nilm isSc_nili isSc_nilf isSc_ifc
  splice strip strip.stripL imm imm.immL Areify_int Areify_bool Areify_str Areify_is Areify_nilp Areify_tup Areify_agg AreifyL
def integerK (k : Int) : Bool := decide (2 ≤ k) && decide (k ≤ 12)
theorem integer_ok (h : Heap) (k : Int) : Ccall tab 16 [.int .i64 k] h = some (.bool (integerK k), h) := by
  refine Ccall_own rfl rfl rfl rfl ?_
  repeat (any_goals first | simp (maxDischargeDepth := 8) (implicitDefEqProofs := false) [*, -Int.not_le, -Int.not_lt, amLt, f16c, f16r0, f16r1, integerK] | with_reducible refine ite_both (fun _ => ?_) (fun _ => ?_) | intro _)
theorem integer_ok' (h : Heap) (k : Int) : Ccall tab 31 [.int .i64 k] h = some (.bool (integerK k), h) := by
  refine Ccall_own rfl rfl rfl rfl ?_
  repeat (any_goals first | simp (maxDischargeDepth := 8) (implicitDefEqProofs := false) [*, -Int.not_le, -Int.not_lt, amLt, f31c, f31r0, f31r1, integerK] | with_reducible refine ite_both (fun _ => ?_) (fun _ => ?_) | intro _)
def promote (k b : Int) : Int := if integerK k = true then (if (0 ≤ b ∧ b ≤ 31) ∨ k ≤ 7 ∨ k = 12 then 8 else k) else k
theorem promote_ok (h : Heap) (k b : Int) : Ccall tab 13 [.int .i64 k, .int .i64 b] h = some (.int .i64 (promote k b), h) := by
  refine Ccall_own rfl rfl rfl rfl ?_
  repeat (any_goals first | simp (maxDischargeDepth := 8) (implicitDefEqProofs := false) [*, -Int.not_le, -Int.not_lt, amLt, f13c, f13r0, f13r1, f13r2, f13r3, f13r4, f13r5, f13r6, integer_ok, promote] | with_reducible refine ite_both (fun _ => ?_) (fun _ => ?_) | intro _)
theorem width_small (k : Int) (h : integerK k = true) : 4 ≤ width k ↔ ¬ k ≤ 7 := by
  simp only [integerK, Bool.and_eq_true, decide_eq_true_eq] at h
  unfold width
  repeat' split
  all_goals omega
theorem promote_ok' (h : Heap) (k b : Int) : Ccall tab 14 [.int .i64 k, .int .i64 b] h = some (.int .i64 (promote k b), h) := by
  refine Ccall_own rfl rfl rfl rfl ?_
  by_cases q : integerK k = true
  · repeat (any_goals first | simp (maxDischargeDepth := 8) (implicitDefEqProofs := false) [*, -Int.not_le, -Int.not_lt, amLt, f14c, f14r0, f14r1, f14r2, f14r3, f14r4, f14r5, integer_ok', promote, width_ok', width_small k q] | with_reducible refine ite_both (fun _ => ?_) (fun _ => ?_) | intro _)
  · repeat (any_goals first | simp (maxDischargeDepth := 8) (implicitDefEqProofs := false) [*, -Int.not_le, -Int.not_lt, amLt, f14c, f14r0, f14r1, f14r2, f14r3, f14r4, f14r5, integer_ok', promote] | with_reducible refine ite_both (fun _ => ?_) (fun _ => ?_) | intro _)
def cv (k v : Int) : Int := if k = 2 then (if v = 0 then 0 else 1) else if width k = 1 then low8 v (signed k) else if width k = 2 then low16 v (signed k) else v
theorem convert_ok (h : Heap) (k v : Int) (hv : U v) : Ccall tab 9 [.int .i64 k, .int .u32 v] h = some (.int .u32 (cv k v), h) := by
  refine Ccall_own rfl rfl rfl rfl ?_
  repeat (any_goals first | simp (maxDischargeDepth := 8) (implicitDefEqProofs := false) [*, -Int.not_le, -Int.not_lt, amLt, f9c, f9r0, f9r1, f9r2, f9r3, f9r4, f9r5, f9r6, width_ok, signed_ok, flag_ok, cv, low8_ok, low16_ok, u64_is, IntKind.wrap_i64] | with_reducible refine ite_both (fun _ => ?_) (fun _ => ?_) | intro _)
theorem convert_ok' (h : Heap) (k v : Int) (hv : U v) : Ccall tab 34 [.int .i64 k, .int .u32 v] h = some (.int .u32 (cv k v), h) := by
  refine Ccall_own rfl rfl rfl rfl ?_
  by_cases h1 : width k = 1
  · repeat (any_goals first | simp (maxDischargeDepth := 8) (implicitDefEqProofs := false) [*, -Int.not_le, -Int.not_lt, amLt, f34c, f34r0, f34r1, f34r2, f34r3, f34r4, f34r5, width_ok', signed_ok', flag_ok, cv, ext8_ok] | with_reducible refine ite_both (fun _ => ?_) (fun _ => ?_) | intro _)
  · by_cases h2 : width k = 2
    · repeat (any_goals first | simp (maxDischargeDepth := 8) (implicitDefEqProofs := false) [*, -Int.not_le, -Int.not_lt, amLt, f34c, f34r0, f34r1, f34r2, f34r3, f34r4, f34r5, width_ok', signed_ok', flag_ok, cv, ext16_ok] | with_reducible refine ite_both (fun _ => ?_) (fun _ => ?_) | intro _)
    · repeat (any_goals first | simp (maxDischargeDepth := 8) (implicitDefEqProofs := false) [*, -Int.not_le, -Int.not_lt, amLt, f34c, f34r0, f34r1, f34r2, f34r3, f34r4, f34r5, width_ok', signed_ok', flag_ok, cv, ext_ok] | with_reducible refine ite_both (fun _ => ?_) (fun _ => ?_) | intro _)
theorem is_ok (k a b : Int) : Ccall tab 30 [.int .i64 k, .mp 0 0, .mp 1 0] [.cells [.int .i64 a], .cells [.int .i64 b]] = some (.bool (decide (a = k) || decide (b = k)), [.cells [.int .i64 a], .cells [.int .i64 b]]) := by
  refine Ccall_over rfl rfl rfl rfl ?_
  repeat (any_goals first | simp (maxDischargeDepth := 8) (implicitDefEqProofs := false) [*, -Int.not_le, -Int.not_lt, amLt, f30c, f30r0, f30r1] | with_reducible refine ite_both (fun _ => ?_) (fun _ => ?_) | intro _)
def usual (a b : Int) : Int × Int :=
  if integerK a = true ∧ integerK b = true then
    (let x := promote a (-1); let y := promote b (-1)
     (if x = 11 ∨ y = 11 then 11 else if (x = 10 ∧ y = 9) ∨ (x = 9 ∧ y = 10) then 11 else if x = 10 ∨ y = 10 then 10 else if x = 9 ∨ y = 9 then 9 else 8, 0))
  else (0, 70)
theorem usual_ok (h : Heap) (a b : Int) : Ccall tab 10 [.int .i64 a, .int .i64 b] h = some (.tup [.int .i64 (usual a b).1, .int .i64 (usual a b).2], h) := by
  refine Ccall_own rfl rfl rfl rfl ?_
  unfold usual
  generalize ha : integerK a = p
  generalize hb : integerK b = q
  generalize hx : promote a (-1) = x
  generalize hy : promote b (-1) = y
  repeat (any_goals first | simp (maxDischargeDepth := 8) (implicitDefEqProofs := false) [*, -Int.not_le, -Int.not_lt, amLt, f10c, f10q3, f10r0, f10r1, f10r2, f10r4, f10r5, f10r6, f10r7, f10r8, f10r9, f13_p, f10r10, f10r11, f10r12, f10r3_u, f10r3_w, integer_ok, promote_ok, is_ok] | with_reducible refine ite_both (fun _ => ?_) (fun _ => ?_) | intro _)
  all_goals omega
def names : List (List UInt8) := [[97, 100, 100], [115, 117, 98], [109, 117, 108], [100, 105, 118, 115], [100, 105, 118, 117], [114, 101, 109, 115], [114, 101, 109, 117], [97, 110, 100], [111, 114], [120, 111, 114], [115, 104, 108], [115, 104, 114, 115], [115, 104, 114, 117], [101, 113], [110, 101], [108, 116, 115], [108, 116, 117], [108, 101, 115], [108, 101, 117]]
def nm (op : Int) : List UInt8 := if 1 ≤ op ∧ op ≤ 19 then names.getD (op - 1).toNat [] else []
theorem nm_cases {op : Int} (h : 1 ≤ op ∧ op ≤ 19) : op = 1 ∨ op = 2 ∨ op = 3 ∨ op = 4 ∨ op = 5 ∨ op = 6 ∨ op = 7 ∨ op = 8 ∨ op = 9 ∨ op = 10 ∨ op = 11 ∨ op = 12 ∨ op = 13 ∨ op = 14 ∨ op = 15 ∨ op = 16 ∨ op = 17 ∨ op = 18 ∨ op = 19 := by omega
theorem nm_empty (op : Int) : nm op = [] ↔ ¬ (1 ≤ op ∧ op ≤ 19) := by
  by_cases h : 1 ≤ op ∧ op ≤ 19
  · rcases nm_cases h with rfl | rfl | rfl | rfl | rfl | rfl | rfl | rfl | rfl | rfl | rfl | rfl | rfl | rfl | rfl | rfl | rfl | rfl | rfl <;> simp [nm, names]
  · simp [nm, h]
theorem name_in {op : Int} (h : 1 ≤ op ∧ op ≤ 19) (hp : Heap) : Ccall tab 17 [.int .i64 op] hp = some (.str (nm op), hp) := by
  rcases nm_cases h with rfl | rfl | rfl | rfl | rfl | rfl | rfl | rfl | rfl | rfl | rfl | rfl | rfl | rfl | rfl | rfl | rfl | rfl | rfl <;> exact Ccall_run (w := []) 100 (by kernel_rfl)
theorem name_in' {op : Int} (h : 1 ≤ op ∧ op ≤ 19) (hp : Heap) : Ccall tab 32 [.int .i64 op] hp = some (.str (nm op), hp) := by
  rcases nm_cases h with rfl | rfl | rfl | rfl | rfl | rfl | rfl | rfl | rfl | rfl | rfl | rfl | rfl | rfl | rfl | rfl | rfl | rfl | rfl <;> exact Ccall_run (w := []) 100 (by kernel_rfl)
theorem name_ok (hp : Heap) (op : Int) : Ccall tab 17 [.int .i64 op] hp = some (.str (nm op), hp) := by
  by_cases h : 1 ≤ op ∧ op ≤ 19
  · exact name_in h hp
  · refine Ccall_own rfl rfl rfl rfl ?_
    repeat (any_goals first | simp (maxDischargeDepth := 8) (implicitDefEqProofs := false) [*, -Int.not_le, -Int.not_lt, amLt, f17c, f17r0, f17r1, f17r2, f17r3, f17r4, nm] | with_reducible refine ite_both (fun _ => ?_) (fun _ => ?_) | intro _)
    all_goals omega
theorem name_ok' (hp : Heap) (op : Int) : Ccall tab 32 [.int .i64 op] hp = some (.str (nm op), hp) := by
  by_cases h : 1 ≤ op ∧ op ≤ 19
  · exact name_in' h hp
  · refine Ccall_own rfl rfl rfl rfl ?_
    repeat (any_goals first | simp (maxDischargeDepth := 8) (implicitDefEqProofs := false) [*, -Int.not_le, -Int.not_lt, amLt, f32c, f32r0, f32r1, f32r2, f32r3, nm] | with_reducible refine ite_both (fun _ => ?_) (fun _ => ?_) | intro _)
    all_goals omega

end Go.Proofs.Ytkgpdillhnmpdaa
