/- Chapter 23: FrameLays's functions walked. -/
import Derived.Test.YtlmgkbdcpaojlaaVe
import Derived.Test.YtlmgkbdcpaojlaaAmW
namespace Go.Proofs.Ytlmgkbdcpaojlaa
open Go.AM
set_option maxRecDepth 20000
set_option maxHeartbeats 4000000
set_option linter.unusedSimpArgs false
set_option linter.unusedVariables false
attribute [local congr] andF_cg onF_cg bthen_cg bkeep_cg bcond_cg guardV_cg putF_cg guardF_cg ite_cg stepsF_cg
attribute [local simp] Brun_skip Brun_exit Brun_ret Brun_seq Brun_cond Brun_block Brun_region bthen_normal bthen_ret bthen_exit bblock_normal bblock_ret bblock_exit bkeep_some andF_some onF_some onF_none guardF_none guardF_some guardV_tup putF_some putF_none stepsF_nil stepsF_cons upd_apply ofL_cons ofL_nil bown_normal bown_ret banswer_normal banswer_ret aresults ares List.replicate stepF_call stepF_callD stepF_move stepF_pick stepF_alloc stepF_allocV stepF_box stepF_boxV stepF_build stepF_buildSlice stepF_buildSliceV stepF_load stepF_store stepF_nilCheck stepF_bin stepF_eq stepF_un stepF_conv stepF_strId stepF_toStr stepF_toBytes stepF_fn stepF_mkSlice stepF_slice stepF_strSlice stepF_fieldAddr stepF_field stepF_idxAddr stepF_idxArr stepF_index stepF_strIndex stepF_extract stepF_len0 stepF_len1 stepF_min stepF_max stepF_append stepF_appendF appF_none appF_row stepF_mkMap stepF_mkIface stepF_lookup stepF_mapUpdate cellsF newF abin_add abin_sub abin_mul abin_quo abin_rem abin_eql abin_neq abin_lss abin_leq abin_gtr abin_geq abin_and abin_or abin_xor abin_shl abin_shr abin_seql abin_sneq aun_not aun_neg aeq_bool aeq_agg eqCells_nil eqCells_int eqCells_bool eqCells_str cellsOf_agg cellsOf_int cellsOf_bool cellsOf_str cellsOf_is cellsOf_ms cellsOf_fn cellsOf_nilp cellsOf_mp cellsOf_mm cellsOf_nilm cellsOf_nili cellsOf_ifc cellsOf_ip cget_one cget_agg ev_t ev_c fillp_nil fillp_cons isSc_int isSc_bool isSc_str isSc_is isSc_ms isSc_fn isSc_mm isSc_mp isSc_ip isSc_nilp isSc_nilm isSc_nili isSc_nilf isSc_ifc splice chunk strip strip.stripL imm imm.immL Areify_int Areify_bool Areify_str Areify_is Areify_nilp Areify_tup Areify_agg AreifyL andF_chi andF_ch onF_chi onF_ch bthen_ch bthen_chi bblock_ch bblock_chi bkeep_ch bkeep_chi bown_ch bown_chi banswer_ch banswer_chi isSome_ch bcond_ch guardV_ch1 guardV_ch0 chF_true chF_false chF_not
attribute [local simp ↓] andF_some andF_chi andF_ch onF_some onF_none onF_chi onF_ch bthen_normal bthen_ret bthen_exit bthen_ch bthen_chi bblock_normal bblock_ret bblock_exit bblock_ch bblock_chi bkeep_some bkeep_ch bkeep_chi bown_normal bown_ret bown_ch bown_chi banswer_normal banswer_ret banswer_ch banswer_chi bcond_ch guardV_ch1 guardV_ch0 guardV_tup guardF_none guardF_some putF_some putF_none stepsF_nil stepsF_cons chF_true chF_false Brun_seq Brun_cond Brun_block Brun_region Brun_skip Brun_ret Brun_exit stepF_call stepF_callD stepF_move stepF_pick stepF_alloc stepF_allocV stepF_box stepF_boxV stepF_build stepF_buildSlice stepF_buildSliceV stepF_load stepF_store stepF_nilCheck stepF_bin stepF_eq stepF_un stepF_conv stepF_strId stepF_toStr stepF_toBytes stepF_fn stepF_mkSlice stepF_slice stepF_strSlice stepF_fieldAddr stepF_field stepF_idxAddr stepF_idxArr stepF_index stepF_strIndex stepF_extract stepF_len0 stepF_len1 stepF_min stepF_max stepF_append stepF_appendF stepF_mkMap stepF_mkIface stepF_lookup stepF_mapUpdate
def IsArg (r : List AV) : Prop := ∃ a v, r = [.int .i64 a, .int .u32 v]
def insRow (a0 a1 a2 a3 a4 a5 a6 a7 a8 a9 : Int) (b : Bool) (args : List (List AV)) : List AV :=
  [.int .i64 a0, .int .i64 a1, .int .i64 a2, .int .i64 a3, .int .u32 a4, .int .i64 a5, .int .u32 a6, .int .i64 a7, .int .i64 a8, .int .i64 a9, .bool b, .is args .no]
def IsIns (r : List AV) : Prop := ∃ a0 a1 a2 a3 a4 a5 a6 a7 a8 a9 b args, r = insRow a0 a1 a2 a3 a4 a5 a6 a7 a8 a9 b args ∧ (∀ q ∈ args, IsArg q) ∧ args.length ≤ 1048576
theorem same29_ok (h : Heap) (a0 a1 a2 a3 a4 a5 a6 a7 a8 a9 : Int) (b : Bool) (args : List (List AV)) :
    Ccall tab 29 [.agg (insRow a0 a1 a2 a3 a4 a5 a6 a7 a8 a9 b args), .agg (insRow a0 a1 a2 a3 a4 a5 a6 a7 a8 a9 b args)] h = some (.bool true, h) := by
  refine Ccall_own rfl rfl rfl rfl ?_
  repeat (any_goals first | simp (dsimp := false) (maxSteps := 4000000) (maxDischargeDepth := 8) (implicitDefEqProofs := false) [*, -Int.not_le, -Int.not_lt, amLt, f29c, f29r0, f29r1, insRow] | with_reducible refine ch_both (fun _ => ?_) (fun _ => ?_) | with_reducible refine ite_both (fun _ => ?_) (fun _ => ?_) | intro _)
theorem args_loop (a0 a1 a2 a3 a4 a5 a6 a7 a8 a9 b : AV) (h : Heap) (args : List (List AV)) (ha : ∀ q ∈ args, IsArg q) (hs : args.length ≤ 1048576) : ∀ (n i : Nat), i + n = args.length →
    Brun tab 37 (.loop f20l4) (ofL [(2, .ip [a0, a1, a2, a3, a4, a5, a6, a7, a8, a9, b, .is args .no] 0), (3, .ip [a0, a1, a2, a3, a4, a5, a6, a7, a8, a9, b, .is args .no] 0), (5, .int .i64 i)]) h =
      some (.exit 0, ofL [(2, .ip [a0, a1, a2, a3, a4, a5, a6, a7, a8, a9, b, .is args .no] 0), (3, .ip [a0, a1, a2, a3, a4, a5, a6, a7, a8, a9, b, .is args .no] 0), (5, .int .i64 args.length), (23, .bool false)], h) := by
  intro n
  induction n with
  | zero =>
    intro i hi
    rw [Brun_loop]
    have e3 : (args.length : Int) = i := by omega
    clear hi hs ha
    repeat (any_goals first | simp (dsimp := false) (maxSteps := 4000000) (maxDischargeDepth := 8) (implicitDefEqProofs := false) [*, -Int.not_le, -Int.not_lt, amLt, f20c, f20m4, f20q5, f20r0, f20r1, f20r2, f20r3, f20r4, f20r6, f20r7, f20r8, f20l4_b, f20r5_u, f20r5_w] | with_reducible refine ch_both (fun _ => ?_) (fun _ => ?_) | with_reducible refine ite_both (fun _ => ?_) (fun _ => ?_) | intro _)
  | succ n ih =>
    intro i hi
    rw [Brun_loop]
    have hi1 : i < args.length := by omega
    obtain ⟨x, y, hx⟩ := ha args[i] (List.getElem_mem hi1)
    have e3 : ¬ (args.length : Int) ≤ i := by omega
    have hw := w64 i (by omega)
    have ih2 := ih (i + 1) (by omega)
    push_cast at ih2
    clear hi hs ha ih
    repeat (any_goals first | simp (dsimp := false) (maxSteps := 4000000) (maxDischargeDepth := 8) (implicitDefEqProofs := false) [*, -Int.not_le, -Int.not_lt, amLt, f20c, f20m4, f20q5, f20r0, f20r1, f20r2, f20r3, f20r4, f20r6, f20r7, f20r8, f20l4_b, f20r5_u, f20r5_w] | with_reducible refine ch_both (fun _ => ?_) (fun _ => ?_) | with_reducible refine ite_both (fun _ => ?_) (fun _ => ?_) | intro _)
theorem same20_ok (h : Heap) (r : List AV) (hr : IsIns r) : Ccall tab 20 [.agg r, .agg r] h = some (.bool true, h) := by
  obtain ⟨a0, a1, a2, a3, a4, a5, a6, a7, a8, a9, b, args, rfl, hq, hl⟩ := hr
  have hs := fun h => same29_ok h a0 a1 a2 a3 a4 a5 a6 a7 a8 a9 b args
  have lp := fun h => args_loop (.int .i64 a0) (.int .i64 a1) (.int .i64 a2) (.int .i64 a3) (.int .u32 a4) (.int .i64 a5) (.int .u32 a6) (.int .i64 a7) (.int .i64 a8) (.int .i64 a9) (.bool b) h args hq hl args.length 0 (by omega)
  simp only [Int.natCast_zero] at lp
  unfold insRow at *
  refine Ccall_own rfl rfl rfl rfl ?_
  clear hq hl
  repeat (any_goals first | simp (dsimp := false) (maxSteps := 4000000) (maxDischargeDepth := 8) (implicitDefEqProofs := false) [*, -Int.not_le, -Int.not_lt, amLt, f20c, f20m4, f20q5, f20r0, f20r1, f20r2, f20r3, f20r4, f20r6, f20r7, f20r8, f20l4_b, f20r5_u, f20r5_w] | with_reducible refine ch_both (fun _ => ?_) (fun _ => ?_) | with_reducible refine ite_both (fun _ => ?_) (fun _ => ?_) | intro _)
theorem slots_loop (a0 a1 a2 a3 a5 : AV) (h : Heap) (sl : List (Int × Int)) (hs : sl.length ≤ 1048576) : ∀ (n i : Nat), i + n = sl.length →
    Brun tab 88 (.loop f10l4) (ofL [(2, .ip [a0, a1, a2, a3, .is (pairs sl) .no, a5] 0), (3, .ip [a0, a1, a2, a3, .is (pairs sl) .no, a5] 0), (5, .int .i64 i)]) h =
      some (.exit 0, ofL [(2, .ip [a0, a1, a2, a3, .is (pairs sl) .no, a5] 0), (3, .ip [a0, a1, a2, a3, .is (pairs sl) .no, a5] 0), (5, .int .i64 sl.length), (55, .bool false)], h) := by
  intro n
  induction n with
  | zero =>
    intro i hi
    rw [Brun_loop]
    have e3 : (sl.length : Int) = i := by omega
    clear hi hs
    repeat (any_goals first | simp (dsimp := false) (maxSteps := 4000000) (maxDischargeDepth := 8) (implicitDefEqProofs := false) [*, -Int.not_le, -Int.not_lt, amLt, f10c, f10m4, f10m9, f10q5, f10r0, f10r1, f10r2, f10r3, f10r4, f10r6, f10r7, f10r8, f10r9, f20_p, f10q10, f10r11, f10r12, f10r13, f10l4_b, f10l9_b, f10r5_u, f10r5_w, f10r10_u, f10r10_w, pairs_len] | with_reducible refine ch_both (fun _ => ?_) (fun _ => ?_) | with_reducible refine ite_both (fun _ => ?_) (fun _ => ?_) | intro _)
  | succ n ih =>
    intro i hi
    rw [Brun_loop]
    have hi1 : i < sl.length := by omega
    have e3 : ¬ (sl.length : Int) ≤ i := by omega
    have hw := w64 i (by omega)
    have ih2 := ih (i + 1) (by omega)
    push_cast at ih2
    clear hi hs ih
    repeat (any_goals first | simp (dsimp := false) (maxSteps := 4000000) (maxDischargeDepth := 8) (implicitDefEqProofs := false) [*, -Int.not_le, -Int.not_lt, amLt, f10c, f10m4, f10m9, f10q5, f10r0, f10r1, f10r2, f10r3, f10r4, f10r6, f10r7, f10r8, f10r9, f20_p, f10q10, f10r11, f10r12, f10r13, f10l4_b, f10l9_b, f10r5_u, f10r5_w, f10r10_u, f10r10_w, pairs_len, pairs_at] | with_reducible refine ch_both (fun _ => ?_) (fun _ => ?_) | with_reducible refine ite_both (fun _ => ?_) (fun _ => ?_) | intro _)
theorem code_loop (a0 a1 a2 a3 a4 : AV) (h : Heap) (code : List (List AV)) (hc : ∀ q ∈ code, IsIns q) (hs : code.length ≤ 1048576) : ∀ (n i : Nat), i + n = code.length →
    Brun tab 88 (.loop f10l9) (ofL [(2, .ip [a0, a1, a2, a3, a4, .is code .no] 0), (3, .ip [a0, a1, a2, a3, a4, .is code .no] 0), (6, .int .i64 i)]) h =
      some (.exit 2, ofL [(2, .ip [a0, a1, a2, a3, a4, .is code .no] 0), (3, .ip [a0, a1, a2, a3, a4, .is code .no] 0), (6, .int .i64 code.length), (73, .bool false)], h) := by
  intro n
  induction n with
  | zero =>
    intro i hi
    rw [Brun_loop]
    have e3 : (code.length : Int) = i := by omega
    clear hi hs hc
    repeat (any_goals first | simp (dsimp := false) (maxSteps := 4000000) (maxDischargeDepth := 8) (implicitDefEqProofs := false) [*, -Int.not_le, -Int.not_lt, amLt, f10c, f10m4, f10m9, f10q5, f10r0, f10r1, f10r2, f10r3, f10r4, f10r6, f10r7, f10r8, f10r9, f20_p, f10q10, f10r11, f10r12, f10r13, f10l4_b, f10l9_b, f10r5_u, f10r5_w, f10r10_u, f10r10_w] | with_reducible refine ch_both (fun _ => ?_) (fun _ => ?_) | with_reducible refine ite_both (fun _ => ?_) (fun _ => ?_) | intro _)
  | succ n ih =>
    intro i hi
    rw [Brun_loop]
    have hi1 : i < code.length := by omega
    have hx := hc code[i] (List.getElem_mem hi1)
    have hsm := fun h => same20_ok h _ hx
    obtain ⟨x0, x1, x2, x3, x4, x5, x6, x7, x8, x9, b, args, hx, _, _⟩ := hx
    rw [hx] at hsm
    unfold insRow at *
    have e3 : ¬ (code.length : Int) ≤ i := by omega
    have hw := w64 i (by omega)
    have ih2 := ih (i + 1) (by omega)
    push_cast at ih2
    clear hi hs ih hc
    repeat (any_goals first | simp (dsimp := false) (maxSteps := 4000000) (maxDischargeDepth := 8) (implicitDefEqProofs := false) [*, -Int.not_le, -Int.not_lt, amLt, f10c, f10m4, f10m9, f10q5, f10r0, f10r1, f10r2, f10r3, f10r4, f10r6, f10r7, f10r8, f10r9, f20_p, f10q10, f10r11, f10r12, f10r13, f10l4_b, f10l9_b, f10r5_u, f10r5_w, f10r10_u, f10r10_w] | with_reducible refine ch_both (fun _ => ?_) (fun _ => ?_) | with_reducible refine ite_both (fun _ => ?_) (fun _ => ?_) | intro _)
theorem func_ok (h : Heap) (nm : List UInt8) (pr temps : Int) (gv : Bool) (sl : List (Int × Int)) (code : List (List AV)) (hsl : sl.length ≤ 1048576) (hc : ∀ q ∈ code, IsIns q) (hs : code.length ≤ 1048576) :
    Ccall tab 10 [.agg [.str nm, .int .i64 pr, .int .i64 temps, .bool gv, .is (pairs sl) .no, .is code .no], .agg [.str nm, .int .i64 pr, .int .i64 temps, .bool gv, .is (pairs sl) .no, .is code .no]] h = some (.bool true, h) := by
  have l1 := fun h => slots_loop (.str nm) (.int .i64 pr) (.int .i64 temps) (.bool gv) (.is code .no) h sl hsl sl.length 0 (by omega)
  have l2 := fun h => code_loop (.str nm) (.int .i64 pr) (.int .i64 temps) (.bool gv) (.is (pairs sl) .no) h code hc hs code.length 0 (by omega)
  simp only [Int.natCast_zero] at l1 l2
  refine Ccall_own rfl rfl rfl rfl ?_
  clear hsl hc hs
  repeat (any_goals first | simp (dsimp := false) (maxSteps := 4000000) (maxDischargeDepth := 8) (implicitDefEqProofs := false) [*, -Int.not_le, -Int.not_lt, amLt, f10c, f10m4, f10m9, f10q5, f10r0, f10r1, f10r2, f10r3, f10r4, f10r6, f10r7, f10r8, f10r9, f20_p, f10q10, f10r11, f10r12, f10r13, f10l4_b, f10l9_b, f10r5_u, f10r5_w, f10r10_u, f10r10_w, pairs_len] | with_reducible refine ch_both (fun _ => ?_) (fun _ => ?_) | with_reducible refine ite_both (fun _ => ?_) (fun _ => ?_) | intro _)
theorem frame_same (h : Heap) (l : List Int) (a b c : Int) (hl : l.length < 4611686018427387904) : Ccall tab 9 [.agg [.is (ints l) .no, .int .i64 a, .int .i64 b, .int .i64 c], .agg [.is (ints l) .no, .int .i64 a, .int .i64 b, .int .i64 c]] h = some (.bool true, h) := by
  have hi := fun h => ints_ok h l l .no .no hl rfl rfl
  refine Ccall_own rfl rfl rfl rfl ?_
  clear hl
  repeat (any_goals first | simp (dsimp := false) (maxSteps := 4000000) (maxDischargeDepth := 8) (implicitDefEqProofs := false) [*, -Int.not_le, -Int.not_lt, amLt, f9c, f9r0, f9r1] | with_reducible refine ch_both (fun _ => ?_) (fun _ => ?_) | with_reducible refine ite_both (fun _ => ?_) (fun _ => ?_) | intro _)

end Go.Proofs.Ytlmgkbdcpaojlaa
