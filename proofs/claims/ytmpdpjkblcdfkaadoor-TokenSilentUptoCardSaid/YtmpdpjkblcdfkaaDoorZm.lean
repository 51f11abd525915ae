/- What is joined is cut again. -/
import Derived.Test.YtmpdpjkblcdfkaaDoorZl
import Derived.Test.YtmpdpjkblcdfkaaDoorHd
import Derived.Test.YtmpdpjkblcdfkaaDoorAmW
namespace Go.Proofs.YtmpdpjkblcdfkaaDoor
open Go.AM
set_option maxRecDepth 20000
set_option maxHeartbeats 4000000
set_option linter.unusedSimpArgs false
set_option linter.unusedVariables false
attribute [local congr] andF_cg onF_cg bthen_cg bkeep_cg bcond_cg guardV_cg putF_cg guardF_cg ite_cg stepsF_cg
attribute [local simp] Brun_skip Brun_exit Brun_ret Brun_seq Brun_cond Brun_block Brun_region bthen_normal bthen_ret bthen_exit bblock_normal bblock_ret bblock_exit bkeep_some andF_some onF_some onF_none guardF_none guardF_some guardV_tup putF_some putF_none stepsF_nil stepsF_cons upd_apply ofL_cons ofL_nil bown_normal bown_ret banswer_normal banswer_ret aresults ares List.replicate stepF_call stepF_callD stepF_move stepF_pick stepF_alloc stepF_allocV stepF_box stepF_boxV stepF_build stepF_buildSlice stepF_buildSliceV stepF_load stepF_store stepF_nilCheck stepF_bin stepF_eq stepF_un stepF_conv stepF_strId stepF_toStr stepF_toBytes stepF_fn stepF_mkSlice stepF_slice stepF_strSlice stepF_fieldAddr stepF_field stepF_idxAddr stepF_idxArr stepF_index stepF_strIndex stepF_extract stepF_len0 stepF_len1 stepF_min stepF_max stepF_append stepF_appendF appF_none appF_row stepF_mkMap stepF_mkIface stepF_lookup stepF_mapUpdate stepF_ext aext_idx aext_count aext_same cellsF newF abin_add abin_sub abin_mul abin_quo abin_rem abin_eql abin_neq abin_lss abin_leq abin_gtr abin_geq abin_and abin_or abin_xor abin_shl abin_shr abin_seql abin_sneq aun_not aun_neg aeq_bool aeq_agg eqCells_nil eqCells_int eqCells_bool eqCells_str cellsOf_agg cellsOf_int cellsOf_bool cellsOf_str cellsOf_is cellsOf_ms cellsOf_fn cellsOf_nilp cellsOf_mp cellsOf_mm cellsOf_nilm cellsOf_nili cellsOf_ifc cellsOf_ip cget_one cget_agg ev_t ev_c fillp_nil fillp_cons isSc_int isSc_bool isSc_str isSc_is isSc_ms isSc_fn isSc_mm isSc_mp isSc_ip isSc_nilp isSc_nilm isSc_nili isSc_nilf isSc_ifc splice chunk strip strip.stripL imm imm.immL Areify_int Areify_bool Areify_str Areify_is Areify_nilp Areify_tup Areify_agg AreifyL andF_chi andF_ch onF_chi onF_ch bthen_ch bthen_chi bblock_ch bblock_chi bkeep_ch bkeep_chi bown_ch bown_chi banswer_ch banswer_chi isSome_ch bcond_ch guardV_ch1 guardV_ch0 chF_true chF_false chF_not
attribute [local simp ↓] andF_some andF_chi andF_ch onF_some onF_none onF_chi onF_ch bthen_normal bthen_ret bthen_exit bthen_ch bthen_chi bblock_normal bblock_ret bblock_exit bblock_ch bblock_chi bkeep_some bkeep_ch bkeep_chi bown_normal bown_ret bown_ch bown_chi banswer_normal banswer_ret banswer_ch banswer_chi bcond_ch guardV_ch1 guardV_ch0 guardV_tup guardF_none guardF_some putF_some putF_none stepsF_nil stepsF_cons chF_true chF_false Brun_seq Brun_cond Brun_block Brun_region Brun_skip Brun_ret Brun_exit stepF_call stepF_callD stepF_move stepF_pick stepF_alloc stepF_allocV stepF_box stepF_boxV stepF_build stepF_buildSlice stepF_buildSliceV stepF_load stepF_store stepF_nilCheck stepF_bin stepF_eq stepF_un stepF_conv stepF_strId stepF_toStr stepF_toBytes stepF_fn stepF_mkSlice stepF_slice stepF_strSlice stepF_fieldAddr stepF_field stepF_idxAddr stepF_idxArr stepF_index stepF_strIndex stepF_extract stepF_len0 stepF_len1 stepF_min stepF_max stepF_append stepF_appendF stepF_mkMap stepF_mkIface stepF_lookup stepF_mapUpdate stepF_ext
set_option maxHeartbeats 2000000
theorem num17 (h : Heap) (n : Int) : Ccall tab 17 [.int .i64 n] h = some (.int .i64 n, h) := by
  refine Ccall_own rfl rfl rfl rfl ?_
  repeat (any_goals first | simp (dsimp := false) (maxSteps := 4000000) (maxDischargeDepth := 8) (implicitDefEqProofs := false) [*, -Int.not_le, -Int.not_lt, amLt, f17c, f17r0, f17r1] | with_reducible refine ch_both (fun _ => ?_) (fun _ => ?_) | with_reducible refine ite_both (fun _ => ?_) (fun _ => ?_) | intro _)
theorem back_none (h : Heap) (l : List Y6) (hl : l.length ≤ 1048576) (hy : ∀ y ∈ l, y.2.1.length ≤ 1048576) (hO : outsY l = none) : Ccall tab 4 [.is (rows6 l) .no] h = some (.bool true, h) := by
  have hj := fun h => join_ok h l .no hl hy
  simp only [hO, Option.map_none, outV] at hj
  refine Ccall_own rfl rfl rfl rfl ?_
  generalize rows6 l = R at *
  clear hl hy hO
  repeat (any_goals first | simp (dsimp := false) (maxSteps := 4000000) (maxDischargeDepth := 8) (implicitDefEqProofs := false) [*, -Int.not_le, -Int.not_lt, amLt, f4c, f4r0, f4r1, f4r2, f4r3, f4r4, f4r5, f4r6, f4r7, f4r8, f4r9, f4r10, num17, heads_ok] | with_reducible refine ch_both (fun _ => ?_) (fun _ => ?_) | with_reducible refine ite_both (fun _ => ?_) (fun _ => ?_) | intro _)
theorem back_long (h : Heap) (l : List Y6) (hl : l.length ≤ 1048576) (hy : ∀ y ∈ l, y.2.1.length ≤ 1048576) (ws : List (List UInt8)) (hO : outsY l = some ws) (hb : 65536 < (joinB ws).length) : Ccall tab 4 [.is (rows6 l) .no] h = some (.bool true, h) := by
  have hj := fun h => join_ok h l .no hl hy
  simp only [hO, Option.map_some, outV] at hj
  have hjl := joinB_len ws (outs_small hy hO)
  have hwl := outs_len hO
  have hs := fun h => scan_long h (joinB ws) (by omega) hb
  have hb' : 65536 < ((joinB ws).length : Int) := by omega
  refine Ccall_own rfl rfl rfl rfl ?_
  generalize rows6 l = R at *
  generalize joinB ws = s at *
  clear hl hy hO hb hjl hwl
  repeat (any_goals first | simp (dsimp := false) (maxSteps := 4000000) (maxDischargeDepth := 8) (implicitDefEqProofs := false) [*, -Int.not_le, -Int.not_lt, amLt, f4c, f4r0, f4r1, f4r2, f4r3, f4r4, f4r5, f4r6, f4r7, f4r8, f4r9, f4r10, num17, heads_ok] | with_reducible refine ch_both (fun _ => ?_) (fun _ => ?_) | with_reducible refine ite_both (fun _ => ?_) (fun _ => ?_) | intro _)
theorem back_many (h : Heap) (l : List Y6) (hl : l.length ≤ 1048576) (hy : ∀ y ∈ l, y.2.1.length ≤ 1048576) (ws : List (List UInt8)) (hO : outsY l = some ws) (hb : (joinB ws).length ≤ 65536) (hm : 16384 < l.length) (k : Nat) (hS : scanS (joinB ws) = .error (23, k)) : Ccall tab 4 [.is (rows6 l) .no] h = some (.bool true, h) := by
  have hj := fun h => join_ok h l .no hl hy
  simp only [hO, Option.map_some, outV] at hj
  have hs := fun h => scan_ok h (joinB ws) (by omega)
  unfold scanV faultV at hs
  simp only [if_neg (show ¬ 65536 < (joinB ws).length by omega), hS] at hs
  have hl6 := rows6_len l
  have hm' : 16384 < (l.length : Int) := by omega
  refine Ccall_own rfl rfl rfl rfl ?_
  generalize spotOf (joinB ws) k = sp at *
  generalize rows6 l = R at *
  generalize joinB ws = s at *
  clear hl hy hO hb hm hS
  repeat (any_goals first | simp (dsimp := false) (maxSteps := 4000000) (maxDischargeDepth := 8) (implicitDefEqProofs := false) [*, -Int.not_le, -Int.not_lt, amLt, f4c, f4r0, f4r1, f4r2, f4r3, f4r4, f4r5, f4r6, f4r7, f4r8, f4r9, f4r10, num17, heads_ok] | with_reducible refine ch_both (fun _ => ?_) (fun _ => ?_) | with_reducible refine ite_both (fun _ => ?_) (fun _ => ?_) | intro _)
def endR : List AV := [.int .i64 0, .str [], .int .i64 0, .int .i64 0, .int .i64 0, .int .i64 0]
theorem back_more (h : Heap) (l M : List Y6) (s : List UInt8) (hl : l.length ≤ 1048576) (hMl : M.length ≤ 1048576) (hj : ∀ h, Ccall tab 16 [.is (rows6 l) .no] h = some (.tup [.str s, .int .i64 0], h))
    (hs : ∀ h, Ccall tab 18 [.str s] h = some (.tup [.is (rows6 M) .no, .agg [.int .i64 0, .int .i64 0, .int .i64 0, .int .i64 0]], h)) (hw : rows6 (M.map plainY) = rows6 (l.map plainY) ++ [endR])
    (hk : l = [] ∨ ∃ l0 y, l = l0 ++ [y] ∧ y.1 ≠ 0) : Ccall tab 4 [.is (rows6 l) .no] h = some (.bool true, h) := by
  obtain ⟨cap1, x1, hc1, p1⟩ := plain_ok [.cells [.int .i64 0, .int .i64 0, .int .i64 0, .int .i64 0]] l .no (by omega)
  obtain ⟨cap2, x2, _, p2⟩ := plain_ok (.cells [.int .i64 0, .int .i64 0, .int .i64 0, .int .i64 0] :: (spendAt 1 cap1 x1 ++ [.tok])) M .no (by omega)
  have hsame := fun h => same_ok h (M.map plainY) cap2 (.tok (x1.length + 1) 6) (by simp; omega)
  rw [hw] at p2 hsame
  have hr1 := hc1.room (p := [.cells [.int .i64 0, .int .i64 0, .int .i64 0, .int .i64 0]]) rfl
  have hs1 := hc1.spend (p := [.cells [.int .i64 0, .int .i64 0, .int .i64 0, .int .i64 0]]) rfl
  have hsl1 := spendAt_len 1 cap1 x1
  have hroom : roomy ((rows6 (l.map plainY)).length + 1) 56 = true := roomy_small (by rw [rows6_len, List.length_map]; omega) (by decide)
  simp only [List.cons_append, List.nil_append] at hr1 hs1 p1 p2
  unfold endR at *
  rcases hk with rfl | ⟨l0, y, rfl, hy0⟩
  · have e0 : rows6 [] = [] := rfl
    simp only [List.map_nil, e0, List.nil_append, List.length_nil, Nat.zero_add] at hj p1 p2 hsame hr1 hroom
    rw [e0]
    refine Ccall_own rfl rfl rfl rfl ?_
    generalize rows6 M = RM at *
    clear hl hMl hw hc1 e0
    repeat (any_goals first | simp (dsimp := false) (maxSteps := 4000000) (maxDischargeDepth := 8) (implicitDefEqProofs := false) [*, -Int.not_le, -Int.not_lt, amLt, f4c, f4r0, f4r1, f4r2, f4r3, f4r4, f4r5, f4r6, f4r7, f4r8, f4r9, f4r10, num17, heads_ok, app_get, app_get0, app_set, app_set0] | with_reducible refine ch_both (fun _ => ?_) (fun _ => ?_) | with_reducible refine ite_both (fun _ => ?_) (fun _ => ?_) | intro _)
  · have hlen : (rows6 ((l0 ++ [y]).map plainY)).length = l0.length + 1 := by simp [rows6]
    have hget : ∀ hh : l0.length < (rows6 ((l0 ++ [y]).map plainY)).length, (rows6 ((l0 ++ [y]).map plainY))[l0.length]'hh = [.int .i64 y.1, .str y.2.1, .int .i64 y.2.2.1, .int .i64 0, .int .i64 0, .int .i64 0] := by intro hh; simp [rows6, row6, plainY]
    have hwr : IntKind.i64.wrap (l0.length : Int) = (l0.length : Int) := by
      simp only [List.length_append, List.length_singleton] at hl
      exact IntWalk.i64_in _ (by omega)
    have hne : ¬ ((l0.length + 1 : Nat) : Int) = 0 := by omega
    rw [hlen] at hroom
    refine Ccall_own rfl rfl rfl rfl ?_
    push_cast at hne
    have hne2 : ¬ (rows6 ((l0 ++ [y]).map plainY)) = [] := fun q => by rw [q] at hlen; simp at hlen
    have hii : l0.length < l0.length + 1 := by omega
    generalize rows6 M = RM at *
    generalize rows6 ((l0 ++ [y]).map plainY) = R1 at *
    generalize rows6 (l0 ++ [y]) = R0 at *
    generalize l0.length = n0 at *
    clear hl hMl hw hc1
    repeat (any_goals first | simp (dsimp := false) (maxSteps := 4000000) (maxDischargeDepth := 8) (implicitDefEqProofs := false) [*, -Int.not_le, -Int.not_lt, amLt, f4c, f4r0, f4r1, f4r2, f4r3, f4r4, f4r5, f4r6, f4r7, f4r8, f4r9, f4r10, num17, heads_ok, app_get, app_get0, app_set, app_set0] | with_reducible refine ch_both (fun _ => ?_) (fun _ => ?_) | with_reducible refine ite_both (fun _ => ?_) (fun _ => ?_) | intro _)
theorem back_end (h : Heap) (l0 M : List Y6) (y : Y6) (s : List UInt8) (hl : (l0 ++ [y]).length ≤ 1048576) (hMl : M.length ≤ 1048576) (hj : ∀ h, Ccall tab 16 [.is (rows6 (l0 ++ [y])) .no] h = some (.tup [.str s, .int .i64 0], h))
    (hs : ∀ h, Ccall tab 18 [.str s] h = some (.tup [.is (rows6 M) .no, .agg [.int .i64 0, .int .i64 0, .int .i64 0, .int .i64 0]], h)) (hw : rows6 (M.map plainY) = rows6 ((l0 ++ [y]).map plainY))
    (hy0 : y.1 = 0) : Ccall tab 4 [.is (rows6 (l0 ++ [y])) .no] h = some (.bool true, h) := by
  obtain ⟨cap1, x1, hc1, p1⟩ := plain_ok [.cells [.int .i64 0, .int .i64 0, .int .i64 0, .int .i64 0]] (l0 ++ [y]) .no (by omega)
  obtain ⟨cap2, x2, _, p2⟩ := plain_ok (.cells [.int .i64 0, .int .i64 0, .int .i64 0, .int .i64 0] :: x1) M .no (by omega)
  have hsame := fun h => same_ok h (M.map plainY) cap2 cap1 (by simp; omega)
  rw [hw] at p2 hsame
  simp only [List.cons_append, List.nil_append] at p1 p2
  have hlen : (rows6 ((l0 ++ [y]).map plainY)).length = l0.length + 1 := by simp [rows6]
  have hget : ∀ hh : l0.length < (rows6 ((l0 ++ [y]).map plainY)).length, (rows6 ((l0 ++ [y]).map plainY))[l0.length]'hh = [.int .i64 y.1, .str y.2.1, .int .i64 y.2.2.1, .int .i64 0, .int .i64 0, .int .i64 0] := by intro hh; simp [rows6, row6, plainY]
  have hwr : IntKind.i64.wrap (l0.length : Int) = (l0.length : Int) := by
    simp only [List.length_append, List.length_singleton] at hl
    exact IntWalk.i64_in _ (by omega)
  simp only [hy0] at hget
  have hne : ¬ ((l0.length + 1 : Nat) : Int) = 0 := by omega
  refine Ccall_own rfl rfl rfl rfl ?_
  push_cast at hne
  have hne2 : ¬ (rows6 ((l0 ++ [y]).map plainY)) = [] := fun q => by rw [q] at hlen; simp at hlen
  have hii : l0.length < l0.length + 1 := by omega
  generalize rows6 M = RM at *
  generalize rows6 ((l0 ++ [y]).map plainY) = R1 at *
  generalize rows6 (l0 ++ [y]) = R0 at *
  generalize l0.length = n0 at *
  clear hl hMl hw hc1 hy0
  repeat (any_goals first | simp (dsimp := false) (maxSteps := 4000000) (maxDischargeDepth := 8) (implicitDefEqProofs := false) [*, -Int.not_le, -Int.not_lt, amLt, f4c, f4r0, f4r1, f4r2, f4r3, f4r4, f4r5, f4r6, f4r7, f4r8, f4r9, f4r10, num17, heads_ok, app_get, app_get0, app_set, app_set0] | with_reducible refine ch_both (fun _ => ?_) (fun _ => ?_) | with_reducible refine ite_both (fun _ => ?_) (fun _ => ?_) | intro _)
theorem back_ok (h : Heap) (l : List Y6) (hl : l.length ≤ 1048576) (hy : ∀ y ∈ l, y.2.1.length ≤ 1048576) : Ccall tab 4 [.is (rows6 l) .no] h = some (.bool true, h) := by
  cases hO : outsY l with
  | none => exact back_none h l hl hy hO
  | some ws =>
    by_cases hb : 65536 < (joinB ws).length
    · exact back_long h l hl hy ws hO hb
    · rcases back_scan hO (by omega) with ⟨hm, k, hS⟩ | ⟨L, hS, hL⟩
      · exact back_many h l hl hy ws hO (by omega) hm k hS
      · have hj := fun h => join_ok h l .no hl hy
        simp only [hO, Option.map_some, outV] at hj
        have hs := fun h => scan_ok h (joinB ws) (by omega)
        unfold scanV at hs
        simp only [if_neg hb, hS] at hs
        simp only [toks_rows] at hs
        have hLl := scan_rows_le (Nat.zero_le _) hS
        have hMl : (toks6 (joinB ws) L).length ≤ 1048576 := by simp only [toks6, List.length_map]; omega
        rcases want_last hO with ⟨h1, h2⟩ | ⟨l0, y, h1, h2, h3⟩ | ⟨l0, y, h1, h2, h3⟩
        · refine back_more h l _ _ hl hMl hj hs ?_ (.inl h1)
          rw [hL, h2, h1]; rfl
        · refine back_more h l _ _ hl hMl hj hs ?_ (.inr ⟨l0, y, h1, h2⟩)
          rw [hL, h3]; simp [rows6, row6, endR]
        · subst h1
          refine back_end h l0 _ y _ hl hMl hj hs ?_ h2
          rw [hL, h3]
/-- Rows of a law's tokens. -/
theorem y6_of (B : Nat) (row : List AV) (h : (Sh.st [(.int .i64), .str, (.int .i64), (.st [(.int .i64), (.int .i64), (.int .i64)])]).Row B row) : ∃ y : Y6, row = row6 y ∧ y.2.1.length ≤ B := by
  simp only [Sh.Row, RowL] at h
  obtain ⟨a1, b1, rfl, ⟨k, _, rfl⟩, a2, b2, rfl, ⟨t, ht, rfl⟩, a3, b3, rfl, ⟨n, _, rfl⟩, a4, b4, rfl, h4, rfl⟩ := h
  obtain ⟨a5, b5, rfl, ⟨x, _, rfl⟩, a6, b6, rfl, ⟨y, _, rfl⟩, a7, b7, rfl, ⟨z, _, rfl⟩, rfl⟩ := h4
  exact ⟨(k, t, n, x, y, z), rfl, ht⟩
theorem y6s_of (B : Nat) : ∀ (rows : List (List AV)), (∀ row ∈ rows, (Sh.st [(.int .i64), .str, (.int .i64), (.st [(.int .i64), (.int .i64), (.int .i64)])]).Row B row) → ∃ l : List Y6, rows = rows6 l ∧ ∀ y ∈ l, y.2.1.length ≤ B := by
  intro rows
  induction rows with
  | nil => intro _; exact ⟨[], rfl, fun y hy => by cases hy⟩
  | cons r t ih =>
    intro h
    obtain ⟨y, rfl, hy⟩ := y6_of B r (h r (by simp))
    obtain ⟨l, rfl, hl⟩ := ih fun q hq => h q (by simp [hq])
    refine ⟨y :: l, rfl, fun z hz => ?_⟩
    rcases List.mem_cons.1 hz with rfl | hz
    · exact hy
    · exact hl z hz
theorem back_law : ∀ xs, ArgsL 1048576 f4s xs → ∃ h', Ccall tab 4 xs [] = some (.bool true, h') := by
  intro xs hxs
  unfold f4s at hxs
  simp only [ArgsL, Sh.Arg] at hxs
  obtain ⟨x, r, rfl, hsl, rfl⟩ := hxs
  rw [Sh.Row] at hsl
  obtain ⟨rows, h1, hlen, hrows⟩ := hsl
  cases h1
  obtain ⟨l, rfl, hyl⟩ := y6s_of _ rows hrows
  exact ⟨_, back_ok [] l (by rwa [rows6_len] at hlen) hyl⟩

end Go.Proofs.YtmpdpjkblcdfkaaDoor
