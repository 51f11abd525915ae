/- Chapter 23: small functions of the seat, by the machine: rounding up, a slot that fits, the closure that takes room. -/
import Derived.Test.YtlmgkbdcpaojlaaFns
namespace Go.Proofs.Ytlmgkbdcpaojlaa
open Go.AM
set_option maxRecDepth 10000
attribute [local congr] RunP_congr
attribute [local simp] stepsF wanted put thenP
  stepF_call stepF_move stepF_pick stepF_alloc stepF_box stepF_build stepF_buildSlice stepF_load stepF_store stepF_nilCheck stepF_bin stepF_eq stepF_un stepF_conv stepF_strId stepF_toStr stepF_toBytes stepF_fn stepF_mkSlice stepF_slice stepF_strSlice stepF_fieldAddr stepF_field stepF_idxAddr stepF_idxArr stepF_strIndex stepF_extract stepF_len0 stepF_len1 stepF_min stepF_max stepF_append
  cellsF newF abin_add abin_sub abin_mul abin_quo abin_rem abin_eql abin_neq abin_lss abin_leq abin_gtr abin_geq abin_and abin_or abin_xor abin_shl abin_shr abin_seql abin_sneq aun_not aun_neg
  cellsOf_agg cellsOf_int cellsOf_bool cellsOf_str cellsOf_nils cellsOf_is cellsOf_ms cellsOf_fn cellsOf_nilp cellsOf_mp cget_one cget_agg ev_t ev_c fillp_nil fillp_cons isSc_int isSc_bool isSc_str isSc_nils isSc_is isSc_ms isSc_fn
  upd_apply ofL_cons ofL_nil nextP blockP answerP aresults ares splice List.replicate Areify_int Areify_bool Areify_str Areify_nils Areify_is Areify_tup Areify_agg AreifyL
/-- The machine's rounding up. -/
def upI (n o : Int) : Int := (IntKind.i64).wrap ((IntKind.i64).wrap (((IntKind.i64).wrap ((IntKind.i64).wrap (n + o) - 1)).tdiv o) * o)
theorem up_ok (h : Heap) (n o : Int) (ho : o ≠ 0) : Acall tab 16 [.int .i64 n, .int .i64 o] h = some (.int .i64 (upI n o), h, []) := by
  refine Acall_own rfl rfl rfl rfl (RunP_seq (RunP_ops ?_))
  simp [f16r0]
  refine RunP_seq (RunP_ops ?_)
  simp [f16r1, ho]
  exact RunP_ret (by simp [upI])
theorem take_steps (n size align : Int) (ha : align ≠ 0) (b0 b1 b2 : Blk) (H : Heap) :
   Acall tab 15 [.int .i64 size, .int .i64 align, .mp 3 0] (b0 :: b1 :: b2 :: .cells [.int .i64 n] :: H) =
    some (.int .i64 (upI n align), b0 :: b1 :: b2 :: .cells [.int .i64 (IntKind.i64.wrap (upI n align + size))] :: H, [3]) := by
  have hb : Abody tab f15 [.int .i64 size, .int .i64 align, .mp 3 0] (b0 :: b1 :: b2 :: .cells [.int .i64 n] :: H) = some (.int .i64 (upI n align), b0 :: b1 :: b2 :: .cells [.int .i64 (IntKind.i64.wrap (upI n align + size))] :: H, [3]) := by
    unfold Abody
    simp only [args_env]
    simp [f15, f15c, Arun_seq, Arun_region, Arun_ret, aregion, asteps, astep, stepRun, aop, HC.run, HC.rds, HC.wrs, HC.ofOpt, f15r0, f15r1, f15r2, f15r3, andNext, prune_ofL, Blk.isFree, up_ok _ _ _ ha, isPure, tab, f16, logOf, addLog, Rec.log]
  have := Acall_over (A := tab) (g := 15) (f := f15) rfl rfl rfl rfl hb
  simpa using this

theorem fits_ok (h : Heap) (s a : Int) : Acall tab 17 [.agg [.int .i64 s, .int .i64 a]] h = some (.bool (decide (1 ≤ s) && decide (s ≤ 16384) && (decide (a = 1) || decide (a = 2) || decide (a = 4))), h, []) := by
  refine Acall_own rfl rfl rfl rfl (RunP_seq (RunP_ops ?_))
  simp [f17r0]
  refine RunP_seq (RunP_told [.bool (decide (1 ≤ s) && decide (s ≤ 16384) && (decide (a = 1) || decide (a = 2) || decide (a = 4)))] [.cells [.int .i64 s, .int .i64 a]] ?_ ?_)
  · by_cases h1 : 1 ≤ s <;> by_cases h2 : s ≤ 16384 <;> by_cases h3 : a = 1 <;> by_cases h4 : a = 2 <;> by_cases h5 : a = 4 <;> simp [f17r1, h1, h2, h3, h4, h5]
  · simp
    exact RunP_ret (by simp)
theorem heads_ok (h : Heap) : Acall tab 11 [] h = some (.bool true, h, []) := by
  refine Acall_iff.2 ⟨100, ?_⟩
  kernel_rfl
end Go.Proofs.Ytlmgkbdcpaojlaa
