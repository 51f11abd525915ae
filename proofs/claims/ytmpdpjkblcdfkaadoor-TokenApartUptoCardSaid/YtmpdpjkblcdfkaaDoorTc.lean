/- The reference. -/
import Derived.Test.YtmpdpjkblcdfkaaDoorTb
import Derived.Test.YtmpdpjkblcdfkaaDoorAmW
namespace Go.Proofs.YtmpdpjkblcdfkaaDoor
open Go.AM
set_option maxRecDepth 20000
set_option maxHeartbeats 4000000
set_option linter.unusedSimpArgs false
set_option linter.unusedVariables false
attribute [local congr] andF_cg onF_cg bthen_cg bkeep_cg bcond_cg guardV_cg putF_cg guardF_cg ite_cg stepsF_cg
attribute [local simp] Brun_skip Brun_exit Brun_ret Brun_seq Brun_cond Brun_block Brun_region bthen_normal bthen_ret bthen_exit bblock_normal bblock_ret bblock_exit bkeep_some andF_some onF_some onF_none guardF_none guardF_some guardV_tup putF_some putF_none stepsF_nil stepsF_cons upd_apply ofL_cons ofL_nil bown_normal bown_ret banswer_normal banswer_ret aresults ares List.replicate stepF_call stepF_callD stepF_move stepF_pick stepF_alloc stepF_allocV stepF_box stepF_boxV stepF_build stepF_buildSlice stepF_buildSliceV stepF_load stepF_store stepF_nilCheck stepF_bin stepF_eq stepF_un stepF_conv stepF_strId stepF_toStr stepF_toBytes stepF_fn stepF_mkSlice stepF_slice stepF_strSlice stepF_fieldAddr stepF_field stepF_idxAddr stepF_idxArr stepF_index stepF_strIndex stepF_extract stepF_len0 stepF_len1 stepF_min stepF_max stepF_append stepF_appendF appF_none appF_row stepF_mkMap stepF_mkIface stepF_lookup stepF_mapUpdate stepF_ext aext_idx aext_count aext_same cellsF newF abin_add abin_sub abin_mul abin_quo abin_rem abin_eql abin_neq abin_lss abin_leq abin_gtr abin_geq abin_and abin_or abin_xor abin_shl abin_shr abin_seql abin_sneq aun_not aun_neg aeq_bool aeq_agg eqCells_nil eqCells_int eqCells_bool eqCells_str cellsOf_agg cellsOf_int cellsOf_bool cellsOf_str cellsOf_is cellsOf_ms cellsOf_fn cellsOf_nilp cellsOf_mp cellsOf_mm cellsOf_nilm cellsOf_nili cellsOf_ifc cellsOf_ip cget_one cget_agg ev_t ev_c fillp_nil fillp_cons isSc_int isSc_bool isSc_str isSc_is isSc_ms isSc_fn isSc_mm isSc_mp isSc_ip isSc_nilp isSc_nilm isSc_nili isSc_nilf isSc_ifc splice chunk strip strip.stripL imm imm.immL Areify_int Areify_bool Areify_str Areify_is Areify_nilp Areify_tup Areify_agg AreifyL andF_chi andF_ch onF_chi onF_ch bthen_ch bthen_chi bblock_ch bblock_chi bkeep_ch bkeep_chi bown_ch bown_chi banswer_ch banswer_chi isSome_ch bcond_ch guardV_ch1 guardV_ch0 chF_true chF_false chF_not
attribute [local simp ↓] andF_some andF_chi andF_ch onF_some onF_none onF_chi onF_ch bthen_normal bthen_ret bthen_exit bthen_ch bthen_chi bblock_normal bblock_ret bblock_exit bblock_ch bblock_chi bkeep_some bkeep_ch bkeep_chi bown_normal bown_ret bown_ch bown_chi banswer_normal banswer_ret banswer_ch banswer_chi bcond_ch guardV_ch1 guardV_ch0 guardV_tup guardF_none guardF_some putF_some putF_none stepsF_nil stepsF_cons chF_true chF_false Brun_seq Brun_cond Brun_block Brun_region Brun_skip Brun_ret Brun_exit stepF_call stepF_callD stepF_move stepF_pick stepF_alloc stepF_allocV stepF_box stepF_boxV stepF_build stepF_buildSlice stepF_buildSliceV stepF_load stepF_store stepF_nilCheck stepF_bin stepF_eq stepF_un stepF_conv stepF_strId stepF_toStr stepF_toBytes stepF_fn stepF_mkSlice stepF_slice stepF_strSlice stepF_fieldAddr stepF_field stepF_idxAddr stepF_idxArr stepF_index stepF_strIndex stepF_extract stepF_len0 stepF_len1 stepF_min stepF_max stepF_append stepF_appendF stepF_mkMap stepF_mkIface stepF_lookup stepF_mapUpdate stepF_ext
theorem lastIx_succ (s : List UInt8) (c : UInt8) (n : Nat) : lastIx s c (n + 1) = if s[n]? = some c then (n : Int) else lastIx s c n := rfl
theorem count_succ (s : List UInt8) (n : Nat) (b : UInt8) (hb : s[n]? = some b) : ((s.take (n + 1)).count 10) = (s.take n).count 10 + if b = 10 then 1 else 0 := by
  rw [List.take_add_one, hb]
  by_cases q : b = 10 <;> simp [q]
theorem rat_loop (s : List UInt8) (hs : s.length ≤ 4194304) (off : Int) (B : Blk) (n : Nat) (hn : n ≤ s.length) : ∀ (m i : Nat), i + m = n →
    Brun tab 33 (.loop f10l4) (ofL [(0, .str s), (1, .int .i64 n), (4, .mp 0 0), (5, .mp 1 0), (6, .int .i64 i)]) [B, .cells [.int .i64 (lineAt s i), .int .i64 (colAt s i), .int .i64 off]] =
      some (.exit 0, ofL [(0, .str s), (1, .int .i64 n), (4, .mp 0 0), (5, .mp 1 0), (6, .int .i64 n), (16, .bool false)], [B, .cells [.int .i64 (lineAt s n), .int .i64 (colAt s n), .int .i64 off]]) := by
  intro m
  induction m with
  | zero =>
    intro i hi
    have hi' : i = n := by omega
    subst hi'
    rw [Brun_loop]
    clear hn hs
    repeat (any_goals first | simp (dsimp := false) (maxSteps := 4000000) (maxDischargeDepth := 8) (implicitDefEqProofs := false) [*, -Int.not_le, -Int.not_lt, amLt, f10c, f10m4, f10r0, f10r1, f10r2, f10r3, f10r4, f10r5, f10r6, f10r7, f10r8, f10r9, f10r10, f10l4_b] | with_reducible refine ch_both (fun _ => ?_) (fun _ => ?_) | with_reducible refine ite_both (fun _ => ?_) (fun _ => ?_) | intro _)
  | succ m ih =>
    intro i hi
    have hlt : i < s.length := by omega
    have hb : s[i]? = some s[i] := List.getElem?_eq_getElem hlt
    generalize s[i] = b at hb
    have e3 : ¬ (n : Int) ≤ i := by omega
    have hw := w64 i (by omega)
    have hlb := lastIx_lt s 10 i
    have hcb : (s.take i).count 10 ≤ s.length := Nat.le_trans List.count_le_length (by simp; omega)
    have ih2 := ih (i + 1) (by omega)
    have w1 : IntKind.i64.wrap (colAt s i + 1) = colAt s i + 1 := IntWalk.i64_in _ (by unfold colAt; omega)
    have w2 : IntKind.i64.wrap (lineAt s i + 1) = lineAt s i + 1 := IntWalk.i64_in _ (by unfold lineAt; omega)
    have hcs := count_succ s i b hb
    have hls := lastIx_succ s 10 i
    rw [hb] at hls
    rw [Brun_loop]
    by_cases q : b = 10
    · subst q
      have l1 : lineAt s (i + 1) = lineAt s i + 1 := by unfold lineAt; rw [hcs]; simp; omega
      have l2 : colAt s (i + 1) = 1 := by unfold colAt; rw [hls]; simp; omega
      rw [l1, l2] at ih2
      push_cast at ih2
      have q2 : (((10 : UInt8).toNat : Nat) : Int) = 10 := rfl
      clear ih hn hs hlt hlb hcb hcs hls l1 l2
      repeat (any_goals first | simp (dsimp := false) (maxSteps := 4000000) (maxDischargeDepth := 8) (implicitDefEqProofs := false) [*, -Int.not_le, -Int.not_lt, amLt, f10c, f10m4, f10r0, f10r1, f10r2, f10r3, f10r4, f10r5, f10r6, f10r7, f10r8, f10r9, f10r10, f10l4_b] | with_reducible refine ch_both (fun _ => ?_) (fun _ => ?_) | with_reducible refine ite_both (fun _ => ?_) (fun _ => ?_) | intro _)
    · have l1 : lineAt s (i + 1) = lineAt s i := by unfold lineAt; rw [hcs]; simp [q]
      have l2 : colAt s (i + 1) = colAt s i + 1 := by unfold colAt; rw [hls]; simp [q]; omega
      rw [l1, l2] at ih2
      push_cast at ih2
      have q2 : ¬ ((b.toNat : Int) = 10) := fun e => q (UInt8.toNat_inj.1 (by have : b.toNat = 10 := by omega
                                                                              rw [this]; rfl))
      clear ih hn hs hlt hlb hcb hcs hls l1 l2 q
      repeat (any_goals first | simp (dsimp := false) (maxSteps := 4000000) (maxDischargeDepth := 8) (implicitDefEqProofs := false) [*, -Int.not_le, -Int.not_lt, amLt, f10c, f10m4, f10r0, f10r1, f10r2, f10r3, f10r4, f10r5, f10r6, f10r7, f10r8, f10r9, f10r10, f10l4_b] | with_reducible refine ch_both (fun _ => ?_) (fun _ => ?_) | with_reducible refine ite_both (fun _ => ?_) (fun _ => ?_) | intro _)
theorem rat_ok (h : Heap) (s : List UInt8) (off : Int) (hs : s.length ≤ 1048576) : Ccall tab 10 [.str s, .int .i64 off] h = some (atV s (offAt s off), h) := by
  have hl := offAt_le s off
  have e1 : (if (if off ≤ (s.length : Int) then off else (s.length : Int)) ≤ 0 then 0 else (if off ≤ (s.length : Int) then off else (s.length : Int))) = (offAt s off : Int) := by unfold offAt; split <;> split <;> omega
  generalize hn : offAt s off = n at hl e1
  have lp := rat_loop s (by omega) n (.cells [.int .i64 0, .int .i64 0, .int .i64 0]) n hl n 0 (by omega)
  have l0 : lineAt s 0 = 1 := rfl
  have c0 : colAt s 0 = 1 := rfl
  rw [l0, c0] at lp
  simp only [Int.natCast_zero] at lp
  refine Ccall_own rfl rfl rfl rfl ?_
  clear hs hl hn l0 c0
  repeat (any_goals first | simp (dsimp := false) (maxSteps := 4000000) (maxDischargeDepth := 8) (implicitDefEqProofs := false) [*, -Int.not_le, -Int.not_lt, amLt, f10c, f10m4, f10r0, f10r1, f10r2, f10r3, f10r4, f10r5, f10r6, f10r7, f10r8, f10r9, f10r10, f10l4_b, atV] | with_reducible refine ch_both (fun _ => ?_) (fun _ => ?_) | with_reducible refine ite_both (fun _ => ?_) (fun _ => ?_) | intro _)
def strs (l : List (List UInt8)) : List (List AV) := l.map fun k => [.str k]
theorem strs_len (l : List (List UInt8)) : (strs l).length = l.length := by simp [strs]
theorem strs_get {l : List (List UInt8)} {i : Nat} {k : List UInt8} (h : l[i]? = some k) : (strs l)[i]? = some [.str k] := by simp [strs, h]
theorem kws_ok (h : Heap) : Ccall tab 39 [] h = some (.is (strs kws) .no, h) := by
  refine Ccall_run (w := []) 100 ?_
  kernel_rfl
theorem mem_drop {l : List (List UInt8)} {i : Nat} {k s : List UInt8} (h : l[i]? = some k) : s ∈ l.drop i ↔ s = k ∨ s ∈ l.drop (i + 1) := by
  obtain ⟨h1, h2⟩ := List.getElem?_eq_some_iff.1 h
  rw [List.drop_eq_getElem_cons h1, h2, List.mem_cons]
theorem rkw_loop (s : List UInt8) (l : List (List UInt8)) (hs : l.length ≤ 1000) (h : Heap) : ∀ (m i : Nat), i + m = l.length →
    Brun tab 18 (.loop f27l3) (ofL [(0, .str s), (3, .is (strs l) .no), (4, .int .i64 i)]) h =
      if s ∈ l.drop i then some (.ret, ofL [(2, .bool true)], h) else some (.exit 0, ofL [(0, .str s), (3, .is (strs l) .no), (4, .int .i64 l.length), (9, .bool false)], h) := by
  intro m
  induction m with
  | zero =>
    intro i hi
    have e1 : ¬ s ∈ l.drop i := by rw [List.drop_of_length_le (by omega)]; exact List.not_mem_nil
    have e2 : (l.length : Int) = i := by omega
    rw [Brun_loop, if_neg e1]
    clear hs e1 hi
    repeat (any_goals first | simp (dsimp := false) (maxSteps := 4000000) (maxDischargeDepth := 8) (implicitDefEqProofs := false) [*, -Int.not_le, -Int.not_lt, amLt, f27c, f27m3, f27r0, f27r1, f27r2, f27r3, f27r4, f27r5, f27r6, f27r7, f27l3_b, strs_len] | with_reducible refine ch_both (fun _ => ?_) (fun _ => ?_) | with_reducible refine ite_both (fun _ => ?_) (fun _ => ?_) | intro _)
  | succ m ih =>
    intro i hi
    have hlt : i < l.length := by omega
    have hb : l[i]? = some l[i] := List.getElem?_eq_getElem hlt
    generalize l[i] = k at hb
    have e3 : ¬ (l.length : Int) ≤ i := by omega
    have hw := w64 i (by omega)
    have hm := mem_drop (s := s) hb
    have hg := strs_get hb
    have ih2 := ih (i + 1) (by omega)
    push_cast at ih2
    rw [Brun_loop]
    by_cases q : s = k
    · subst q
      rw [if_pos (hm.2 (.inl rfl))]
      clear ih ih2 hs hlt hb hm hi
      repeat (any_goals first | simp (dsimp := false) (maxSteps := 4000000) (maxDischargeDepth := 8) (implicitDefEqProofs := false) [*, -Int.not_le, -Int.not_lt, amLt, f27c, f27m3, f27r0, f27r1, f27r2, f27r3, f27r4, f27r5, f27r6, f27r7, f27l3_b, strs_len] | with_reducible refine ch_both (fun _ => ?_) (fun _ => ?_) | with_reducible refine ite_both (fun _ => ?_) (fun _ => ?_) | intro _)
    · have q' : ¬ k = s := fun e => q e.symm
      simp only [hm, q, false_or]
      clear ih hs hlt hb hm hi
      repeat (any_goals first | simp (dsimp := false) (maxSteps := 4000000) (maxDischargeDepth := 8) (implicitDefEqProofs := false) [*, -Int.not_le, -Int.not_lt, amLt, f27c, f27m3, f27r0, f27r1, f27r2, f27r3, f27r4, f27r5, f27r6, f27r7, f27l3_b, strs_len] | with_reducible refine ch_both (fun _ => ?_) (fun _ => ?_) | with_reducible refine ite_both (fun _ => ?_) (fun _ => ?_) | intro _)
theorem rkw_ok (h : Heap) (s : List UInt8) : Ccall tab 27 [.str s] h = some (.bool (isKw s), h) := by
  have lp := rkw_loop s kws (by decide) [] 23 0 rfl
  simp only [Int.natCast_zero, List.drop_zero] at lp
  refine Ccall_own rfl rfl rfl rfl ?_
  by_cases q : s ∈ kws
  · have e : isKw s = true := by simpa [isKw] using q
    rw [if_pos q] at lp
    repeat (any_goals first | simp (dsimp := false) (maxSteps := 4000000) (maxDischargeDepth := 8) (implicitDefEqProofs := false) [*, -Int.not_le, -Int.not_lt, amLt, f27c, f27m3, f27r0, f27r1, f27r2, f27r3, f27r4, f27r5, f27r6, f27r7, f27l3_b, kws_ok] | with_reducible refine ch_both (fun _ => ?_) (fun _ => ?_) | with_reducible refine ite_both (fun _ => ?_) (fun _ => ?_) | intro _)
  · have e : isKw s = false := by simpa [isKw] using q
    rw [if_neg q] at lp
    repeat (any_goals first | simp (dsimp := false) (maxSteps := 4000000) (maxDischargeDepth := 8) (implicitDefEqProofs := false) [*, -Int.not_le, -Int.not_lt, amLt, f27c, f27m3, f27r0, f27r1, f27r2, f27r3, f27r4, f27r5, f27r6, f27r7, f27l3_b, kws_ok] | with_reducible refine ch_both (fun _ => ?_) (fun _ => ?_) | with_reducible refine ite_both (fun _ => ?_) (fun _ => ?_) | intro _)
theorem rword_ok (h : Heap) (s : List UInt8) : Ccall tab 14 [.str s] h = some (.bool (isKw s), h) := by
  refine Ccall_own rfl rfl rfl rfl ?_
  repeat (any_goals first | simp (dsimp := false) (maxSteps := 4000000) (maxDischargeDepth := 8) (implicitDefEqProofs := false) [*, -Int.not_le, -Int.not_lt, amLt, f14c, f14r0, f14r1, rkw_ok] | with_reducible refine ch_both (fun _ => ?_) (fun _ => ?_) | with_reducible refine ite_both (fun _ => ?_) (fun _ => ?_) | intro _)

end Go.Proofs.YtmpdpjkblcdfkaaDoor
