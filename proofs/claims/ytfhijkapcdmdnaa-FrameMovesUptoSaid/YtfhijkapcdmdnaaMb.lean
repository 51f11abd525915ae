/- The reference: which moves may be asked for. -/
import Derived.Test.YtfhijkapcdmdnaaMa
import Derived.Test.YtfhijkapcdmdnaaAmW
namespace Go.Proofs.Ytfhijkapcdmdnaa
open Go.AM
set_option maxRecDepth 20000
set_option maxHeartbeats 4000000
set_option linter.unusedSimpArgs false
set_option linter.unusedVariables false
attribute [local congr] andF_cg onF_cg bthen_cg bkeep_cg bcond_cg guardV_cg putF_cg guardF_cg ite_cg stepsF_cg
attribute [local simp] Brun_skip Brun_exit Brun_ret Brun_seq Brun_cond Brun_block Brun_region bthen_normal bthen_ret bthen_exit bblock_normal bblock_ret bblock_exit bkeep_some andF_some onF_some onF_none guardF_none guardF_some guardV_tup putF_some putF_none stepsF_nil stepsF_cons upd_apply ofL_cons ofL_nil bown_normal bown_ret banswer_normal banswer_ret aresults ares List.replicate stepF_call stepF_callD stepF_move stepF_pick stepF_alloc stepF_allocV stepF_box stepF_boxV stepF_build stepF_buildSlice stepF_buildSliceV stepF_load stepF_store stepF_nilCheck stepF_bin stepF_eq stepF_un stepF_conv stepF_strId strIdV_str strIdV_int stepF_toStr stepF_toBytes stepF_fn stepF_mkSlice stepF_slice stepF_strSlice stepF_fieldAddr stepF_field stepF_idxAddr stepF_idxArr stepF_index stepF_strIndex stepF_extract stepF_len0 stepF_len1 stepF_min stepF_max stepF_append stepF_appendF appF_none appF_row stepF_mkMap stepF_mkIface stepF_lookup stepF_mapUpdate stepF_ext aext_idx aext_count aext_same cellsF newF abin_add abin_sub abin_mul abin_quo abin_rem abin_eql abin_neq abin_lss abin_leq abin_gtr abin_geq abin_and abin_or abin_xor abin_shl abin_shr abin_seql abin_sneq aun_not aun_neg aeq_bool aeq_agg eqCells_nil eqCells_int eqCells_bool eqCells_str cellsOf_agg cellsOf_int cellsOf_bool cellsOf_str cellsOf_is cellsOf_ms cellsOf_fn cellsOf_nilp cellsOf_mp cellsOf_mm cellsOf_nilm cellsOf_nili cellsOf_ifc cellsOf_ip cget_one cget_agg ev_t ev_c fillp_nil fillp_cons isSc_int isSc_bool isSc_str isSc_is isSc_ms isSc_fn isSc_mm isSc_mp isSc_ip isSc_nilp isSc_nilm isSc_nili isSc_nilf isSc_ifc splice chunk strip strip.stripL imm imm.immL Areify_int Areify_bool Areify_str Areify_is Areify_nilp Areify_tup Areify_agg AreifyL andF_chi andF_ch onF_chi onF_ch bthen_ch bthen_chi bblock_ch bblock_chi bkeep_ch bkeep_chi bown_ch bown_chi banswer_ch banswer_chi isSome_ch bcond_ch guardV_ch1 guardV_ch0 chF_true chF_false chF_not
attribute [local simp ↓] andF_some andF_chi andF_ch onF_some onF_none onF_chi onF_ch bthen_normal bthen_ret bthen_exit bthen_ch bthen_chi bblock_normal bblock_ret bblock_exit bblock_ch bblock_chi bkeep_some bkeep_ch bkeep_chi bown_normal bown_ret bown_ch bown_chi banswer_normal banswer_ret banswer_ch banswer_chi bcond_ch guardV_ch1 guardV_ch0 guardV_tup guardF_none guardF_some putF_some putF_none stepsF_nil stepsF_cons chF_true chF_false Brun_seq Brun_cond Brun_block Brun_region Brun_skip Brun_ret Brun_exit stepF_call stepF_callD stepF_move stepF_pick stepF_alloc stepF_allocV stepF_box stepF_boxV stepF_build stepF_buildSlice stepF_buildSliceV stepF_load stepF_store stepF_nilCheck stepF_bin stepF_eq stepF_un stepF_conv stepF_strId stepF_toStr stepF_toBytes stepF_fn stepF_mkSlice stepF_slice stepF_strSlice stepF_fieldAddr stepF_field stepF_idxAddr stepF_idxArr stepF_index stepF_strIndex stepF_extract stepF_len0 stepF_len1 stepF_min stepF_max stepF_append stepF_appendF stepF_mkMap stepF_mkIface stepF_lookup stepF_mapUpdate stepF_ext
set_option maxHeartbeats 4000000
/-! The reference: which moves may be asked for. -/
section
variable {sp : Int} {l : List Mv} {c0 : Cap}
theorem right_inner (i : Nat) (m : Mv) (h : Heap) (hl : l.length ≤ 16777216) (hi : l[i]? = some m) : ∀ (n k : Nat), k + n = i →
    ∃ E', (((l.take i).drop k).any (fun x => decide (x.1 = m.1)) = false → Brun tab 66 (.loop f5l8) (ofL [(0, .is (mvRows l) c0), (1, .int .i64 sp), (5, .int .i64 i), (6, .int .i64 k)]) h = some (.exit 2, ofL ((0, .is (mvRows l) c0) :: (1, .int .i64 sp) :: (5, .int .i64 i) :: E'), h)) ∧
      (((l.take i).drop k).any (fun x => decide (x.1 = m.1)) = true → Brun tab 66 (.loop f5l8) (ofL [(0, .is (mvRows l) c0), (1, .int .i64 sp), (5, .int .i64 i), (6, .int .i64 k)]) h = some (.ret, ofL [(4, .bool false)], h)) := by
  have hil := (List.getElem?_eq_some_iff.1 hi).1
  have hrow := mvRows_get hi
  have hrow2 : ∀ hh : i < (mvRows l).length, (mvRows l)[i] = mvRow m := fun hh => (List.getElem?_eq_some_iff.1 hrow).2
  have hml := mvRows_len l
  have h1 : (i : Int) < l.length := by omega
  intro n
  induction n with
  | zero =>
    intro k hk
    have e : (l.take i).drop k = [] := List.drop_eq_nil_of_le (by rw [List.length_take]; omega)
    have e2 : k = i := by omega
    subst e2
    refine ⟨[(6, .int .i64 k), (52, .bool false)], fun _ => ?_, fun q => by rw [e] at q; cases q⟩
    rw [Brun_loop]
    clear hl hi hrow hrow2 hml e hil
    repeat (any_goals first | simp (dsimp := false) (maxSteps := 4000000) (maxDischargeDepth := 8) (implicitDefEqProofs := false) [*, -Int.not_le, -Int.not_lt, amLt, f5c, f5m4, f5m8, f5q9, f5r0, f5r1, f5r2, f5r3, f5r4, f5r5, f5r6, f5r7, f5r8, f5r10, f5r11, f5r12, f5r13, f5l4_b, f5l8_b, f5r9_u, f5r9_w] | with_reducible refine ch_both (fun _ => ?_) (fun _ => ?_) | with_reducible refine ite_both (fun _ => ?_) (fun _ => ?_) | intro _)
  | succ n ih =>
    intro k hk
    have hkl : k < l.length := by omega
    have e : (l.take i).drop k = l[k] :: (l.take i).drop (k + 1) := by
      rw [List.drop_eq_getElem_cons (by rw [List.length_take]; omega), List.getElem_take]
    obtain ⟨E', i1, i2⟩ := ih (k + 1) (by omega)
    have hrk := mvRows_get (List.getElem?_eq_getElem hkl)
    have hrk2 : ∀ hh : k < (mvRows l).length, (mvRows l)[k] = mvRow l[k] := fun hh => (List.getElem?_eq_some_iff.1 hrk).2
    have h1k : (k : Int) < l.length := by omega
    have e3 : ¬ (i : Int) ≤ k := by omega
    have e4 : (k : Int) < i := by omega
    have hw := cw64 k (by omega)
    rw [e, List.any_cons]
    push_cast at i1 i2
    refine ⟨E', fun q => ?_, fun q => ?_⟩
    · simp only [Bool.or_eq_false_iff, decide_eq_false_iff_not] at q
      replace i1 := i1 q.2
      have q1 := q.1
      rw [Brun_loop]
      unfold mvRow at *
      generalize l[k] = w at *
      generalize mvRows l = X at *
      clear i2 ih q hl hi e hkl
      repeat (any_goals first | simp (dsimp := false) (maxSteps := 4000000) (maxDischargeDepth := 8) (implicitDefEqProofs := false) [*, -Int.not_le, -Int.not_lt, amLt, f5c, f5m4, f5m8, f5q9, f5r0, f5r1, f5r2, f5r3, f5r4, f5r5, f5r6, f5r7, f5r8, f5r10, f5r11, f5r12, f5r13, f5l4_b, f5l8_b, f5r9_u, f5r9_w] | with_reducible refine ch_both (fun _ => ?_) (fun _ => ?_) | with_reducible refine ite_both (fun _ => ?_) (fun _ => ?_) | intro _)
    · rw [Brun_loop]
      unfold mvRow at *
      generalize l[k] = w at *
      by_cases c : w.1 = m.1
      · generalize mvRows l = X at *
        clear i1 i2 ih q hl hi e hkl
        repeat (any_goals first | simp (dsimp := false) (maxSteps := 4000000) (maxDischargeDepth := 8) (implicitDefEqProofs := false) [*, -Int.not_le, -Int.not_lt, amLt, f5c, f5m4, f5m8, f5q9, f5r0, f5r1, f5r2, f5r3, f5r4, f5r5, f5r6, f5r7, f5r8, f5r10, f5r11, f5r12, f5r13, f5l4_b, f5l8_b, f5r9_u, f5r9_w] | with_reducible refine ch_both (fun _ => ?_) (fun _ => ?_) | with_reducible refine ite_both (fun _ => ?_) (fun _ => ?_) | intro _)
      · replace i2 := i2 (by simpa [c] using q)
        generalize mvRows l = X at *
        clear i1 ih q hl hi e hkl
        repeat (any_goals first | simp (dsimp := false) (maxSteps := 4000000) (maxDischargeDepth := 8) (implicitDefEqProofs := false) [*, -Int.not_le, -Int.not_lt, amLt, f5c, f5m4, f5m8, f5q9, f5r0, f5r1, f5r2, f5r3, f5r4, f5r5, f5r6, f5r7, f5r8, f5r10, f5r11, f5r12, f5r13, f5l4_b, f5l8_b, f5r9_u, f5r9_w] | with_reducible refine ch_both (fun _ => ?_) (fun _ => ?_) | with_reducible refine ite_both (fun _ => ?_) (fun _ => ?_) | intro _)
theorem right_loop (h : Heap) (hl : l.length ≤ 16777216) : ∀ (r : List Mv) (i : Nat), l.drop i = r → i ≤ l.length →
    ∃ E', (rightL sp (l.take i) r = true → ∀ E, Brun tab 66 (.loop f5l4) (ofL ((0, .is (mvRows l) c0) :: (1, .int .i64 sp) :: (5, .int .i64 i) :: E)) h = some (.exit 0, ofL E', h)) ∧
      (rightL sp (l.take i) r = false → ∀ E, Brun tab 66 (.loop f5l4) (ofL ((0, .is (mvRows l) c0) :: (1, .int .i64 sp) :: (5, .int .i64 i) :: E)) h = some (.ret, ofL [(4, .bool false)], h)) := by
  intro r
  induction r with
  | nil =>
    intro i hr hi
    have hlen := congrArg List.length hr
    simp only [List.length_drop, List.length_nil] at hlen
    have e2 : (l.length : Int) = i := by omega
    have hml := mvRows_len l
    refine ⟨[(0, .is (mvRows l) c0), (1, .int .i64 sp), (5, .int .i64 i), (13, .bool false)], fun _ E => ?_, fun q => by cases q⟩
    rw [Brun_loop]
    clear hl hr hi hlen
    repeat (any_goals first | simp (dsimp := false) (maxSteps := 4000000) (maxDischargeDepth := 8) (implicitDefEqProofs := false) [*, -Int.not_le, -Int.not_lt, amLt, f5c, f5m4, f5m8, f5q9, f5r0, f5r1, f5r2, f5r3, f5r4, f5r5, f5r6, f5r7, f5r8, f5r10, f5r11, f5r12, f5r13, f5l4_b, f5l8_b, f5r9_u, f5r9_w] | with_reducible refine ch_both (fun _ => ?_) (fun _ => ?_) | with_reducible refine ite_both (fun _ => ?_) (fun _ => ?_) | intro _)
  | cons m r ih =>
    intro i hr hi
    have hlen := congrArg List.length hr
    simp only [List.length_drop, List.length_cons] at hlen
    have hg : l[i]? = some m := by
      have := congrArg (·[0]?) hr
      simpa using this
    have htl : l.drop (i + 1) = r := by
      have := congrArg List.tail hr
      simpa using this
    have htk : l.take (i + 1) = l.take i ++ [m] := by rw [List.take_add_one, hg]; rfl
    have hR : rightL sp (l.take i) (m :: r) = ((okM sp m && !hadT (l.take i) m.1) && rightL sp (l.take (i + 1)) r) := by rw [htk]; rfl
    have hrow := mvRows_get hg
    have hrow2 : ∀ hh : i < (mvRows l).length, (mvRows l)[i] = mvRow m := fun hh => (List.getElem?_eq_some_iff.1 hrow).2
    have hml := mvRows_len l
    have h1 : (i : Int) < l.length := by omega
    have e3 : ¬ (l.length : Int) ≤ i := by omega
    have hw := cw64 i (by omega)
    have hr1 := fun h => reg15_ok h m.1
    have hr2 := fun h => reg15_ok h m.2
    obtain ⟨E2, j1, j2⟩ := right_inner (sp := sp) (c0 := c0) i m h hl hg i 0 (by omega)
    rw [List.drop_zero] at j1 j2
    obtain ⟨E', i1, i2⟩ := ih (i + 1) htl (by omega)
    rw [hR]
    unfold okM
    unfold hadT
    push_cast at i1 i2
    simp only [Int.natCast_zero] at j1 j2
    generalize ((l.take i).any fun x => decide (x.1 = m.1)) = d at *
    generalize rightL sp (l.take (i + 1)) r = z at *
    unfold mvRow at *
    clear ih hl hr hi hlen hg htl htk hR
    refine ⟨E', fun q E => ?_, fun q E => ?_⟩
    · simp only [Bool.and_eq_true, Bool.not_eq_true', decide_eq_false_iff_not] at q
      obtain ⟨⟨⟨⟨⟨q1, q2⟩, q3⟩, q4⟩, q5⟩, q6⟩ := q
      subst q5 q6
      replace i1 := i1 rfl
      replace j1 := j1 rfl
      rw [q1] at hr1
      rw [q2] at hr2
      rw [Brun_loop]
      generalize mvRows l = X at *
      clear i2 j2 q1 q2
      repeat (any_goals first | simp (dsimp := false) (maxSteps := 4000000) (maxDischargeDepth := 8) (implicitDefEqProofs := false) [*, -Int.not_le, -Int.not_lt, amLt, f5c, f5m4, f5m8, f5q9, f5r0, f5r1, f5r2, f5r3, f5r4, f5r5, f5r6, f5r7, f5r8, f5r10, f5r11, f5r12, f5r13, f5l4_b, f5l8_b, f5r9_u, f5r9_w] | with_reducible refine ch_both (fun _ => ?_) (fun _ => ?_) | with_reducible refine ite_both (fun _ => ?_) (fun _ => ?_) | intro _)
    · rw [Brun_loop]
      generalize mvRows l = X at *
      cases q1 : regB m.1 with
      | false =>
        rw [q1] at hr1
        clear i1 i2 j1 j2 hr2 q
        repeat (any_goals first | simp (dsimp := false) (maxSteps := 4000000) (maxDischargeDepth := 8) (implicitDefEqProofs := false) [*, -Int.not_le, -Int.not_lt, amLt, f5c, f5m4, f5m8, f5q9, f5r0, f5r1, f5r2, f5r3, f5r4, f5r5, f5r6, f5r7, f5r8, f5r10, f5r11, f5r12, f5r13, f5l4_b, f5l8_b, f5r9_u, f5r9_w] | with_reducible refine ch_both (fun _ => ?_) (fun _ => ?_) | with_reducible refine ite_both (fun _ => ?_) (fun _ => ?_) | intro _)
      | true =>
        rw [q1] at hr1 q
        cases q2 : regB m.2 with
        | false =>
          rw [q2] at hr2
          clear i1 i2 j1 j2 q
          repeat (any_goals first | simp (dsimp := false) (maxSteps := 4000000) (maxDischargeDepth := 8) (implicitDefEqProofs := false) [*, -Int.not_le, -Int.not_lt, amLt, f5c, f5m4, f5m8, f5q9, f5r0, f5r1, f5r2, f5r3, f5r4, f5r5, f5r6, f5r7, f5r8, f5r10, f5r11, f5r12, f5r13, f5l4_b, f5l8_b, f5r9_u, f5r9_w] | with_reducible refine ch_both (fun _ => ?_) (fun _ => ?_) | with_reducible refine ite_both (fun _ => ?_) (fun _ => ?_) | intro _)
        | true =>
          rw [q2] at hr2 q
          clear q1 q2
          by_cases c1 : m.1 = sp
          · clear q
            subst c1
            clear i1 i2 j1 j2
            repeat (any_goals first | simp (dsimp := false) (maxSteps := 4000000) (maxDischargeDepth := 8) (implicitDefEqProofs := false) [*, -Int.not_le, -Int.not_lt, amLt, f5c, f5m4, f5m8, f5q9, f5r0, f5r1, f5r2, f5r3, f5r4, f5r5, f5r6, f5r7, f5r8, f5r10, f5r11, f5r12, f5r13, f5l4_b, f5l8_b, f5r9_u, f5r9_w] | with_reducible refine ch_both (fun _ => ?_) (fun _ => ?_) | with_reducible refine ite_both (fun _ => ?_) (fun _ => ?_) | intro _)
          · by_cases c2 : m.2 = sp
            · clear q
              subst c2
              clear i1 i2 j1 j2
              repeat (any_goals first | simp (dsimp := false) (maxSteps := 4000000) (maxDischargeDepth := 8) (implicitDefEqProofs := false) [*, -Int.not_le, -Int.not_lt, amLt, f5c, f5m4, f5m8, f5q9, f5r0, f5r1, f5r2, f5r3, f5r4, f5r5, f5r6, f5r7, f5r8, f5r10, f5r11, f5r12, f5r13, f5l4_b, f5l8_b, f5r9_u, f5r9_w] | with_reducible refine ch_both (fun _ => ?_) (fun _ => ?_) | with_reducible refine ite_both (fun _ => ?_) (fun _ => ?_) | intro _)
            · cases d with
              | true =>
                replace j2 := j2 rfl
                clear i1 i2 j1 q
                repeat (any_goals first | simp (dsimp := false) (maxSteps := 4000000) (maxDischargeDepth := 8) (implicitDefEqProofs := false) [*, -Int.not_le, -Int.not_lt, amLt, f5c, f5m4, f5m8, f5q9, f5r0, f5r1, f5r2, f5r3, f5r4, f5r5, f5r6, f5r7, f5r8, f5r10, f5r11, f5r12, f5r13, f5l4_b, f5l8_b, f5r9_u, f5r9_w] | with_reducible refine ch_both (fun _ => ?_) (fun _ => ?_) | with_reducible refine ite_both (fun _ => ?_) (fun _ => ?_) | intro _)
              | false =>
                replace j1 := j1 rfl
                replace i2 := i2 (by simpa [c1, c2] using q)
                clear i1 j2 q
                repeat (any_goals first | simp (dsimp := false) (maxSteps := 4000000) (maxDischargeDepth := 8) (implicitDefEqProofs := false) [*, -Int.not_le, -Int.not_lt, amLt, f5c, f5m4, f5m8, f5q9, f5r0, f5r1, f5r2, f5r3, f5r4, f5r5, f5r6, f5r7, f5r8, f5r10, f5r11, f5r12, f5r13, f5l4_b, f5l8_b, f5r9_u, f5r9_w] | with_reducible refine ch_both (fun _ => ?_) (fun _ => ?_) | with_reducible refine ite_both (fun _ => ?_) (fun _ => ?_) | intro _)
theorem right_ok (h : Heap) (hl : l.length ≤ 16777216) : Ccall tab 5 [.is (mvRows l) c0, .int .i64 sp] h = some (.bool (rightS sp l), h) := by
  have hr := fun h => reg15_ok h sp
  obtain ⟨E', i1, i2⟩ := right_loop (sp := sp) (c0 := .no) [] hl l 0 rfl (by omega)
  rw [List.take_zero] at i1 i2
  have hml := mvRows_len l
  unfold rightS
  refine Ccall_own rfl rfl rfl rfl ?_
  simp only [Int.natCast_zero] at i1 i2
  generalize mvRows l = X at *
  cases hs : regB sp with
  | false =>
    rw [hs] at hr
    clear i1 i2 hl
    repeat (any_goals first | simp (dsimp := false) (maxSteps := 4000000) (maxDischargeDepth := 8) (implicitDefEqProofs := false) [*, -Int.not_le, -Int.not_lt, amLt, f5c, f5m4, f5m8, f5q9, f5r0, f5r1, f5r2, f5r3, f5r4, f5r5, f5r6, f5r7, f5r8, f5r10, f5r11, f5r12, f5r13, f5l4_b, f5l8_b, f5r9_u, f5r9_w] | with_reducible refine ch_both (fun _ => ?_) (fun _ => ?_) | with_reducible refine ite_both (fun _ => ?_) (fun _ => ?_) | intro _)
  | true =>
    rw [hs] at hr
    cases hq : rightL sp [] l with
    | true =>
      replace i1 := i1 hq
      clear i2 hl
      repeat (any_goals first | simp (dsimp := false) (maxSteps := 4000000) (maxDischargeDepth := 8) (implicitDefEqProofs := false) [*, -Int.not_le, -Int.not_lt, amLt, f5c, f5m4, f5m8, f5q9, f5r0, f5r1, f5r2, f5r3, f5r4, f5r5, f5r6, f5r7, f5r8, f5r10, f5r11, f5r12, f5r13, f5l4_b, f5l8_b, f5r9_u, f5r9_w] | with_reducible refine ch_both (fun _ => ?_) (fun _ => ?_) | with_reducible refine ite_both (fun _ => ?_) (fun _ => ?_) | intro _)
    | false =>
      replace i2 := i2 hq
      clear i1 hl
      repeat (any_goals first | simp (dsimp := false) (maxSteps := 4000000) (maxDischargeDepth := 8) (implicitDefEqProofs := false) [*, -Int.not_le, -Int.not_lt, amLt, f5c, f5m4, f5m8, f5q9, f5r0, f5r1, f5r2, f5r3, f5r4, f5r5, f5r6, f5r7, f5r8, f5r10, f5r11, f5r12, f5r13, f5l4_b, f5l8_b, f5r9_u, f5r9_w] | with_reducible refine ch_both (fun _ => ?_) (fun _ => ?_) | with_reducible refine ite_both (fun _ => ?_) (fun _ => ?_) | intro _)
end

end Go.Proofs.Ytfhijkapcdmdnaa
