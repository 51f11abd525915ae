/- Which moves may be asked for. -/
import Derived.Test.YtfhijkapcdmdnaaM0
import Derived.Test.YtfhijkapcdmdnaaAmW
namespace Go.Proofs.Ytfhijkapcdmdnaa
open Go.AM
set_option maxRecDepth 20000
set_option maxHeartbeats 4000000
set_option linter.unusedSimpArgs false
set_option linter.unusedVariables false
attribute [local congr] andF_cg onF_cg bthen_cg bkeep_cg bcond_cg guardV_cg putF_cg guardF_cg ite_cg stepsF_cg
attribute [local simp] Brun_skip Brun_exit Brun_ret Brun_seq Brun_cond Brun_block Brun_region bthen_normal bthen_ret bthen_exit bblock_normal bblock_ret bblock_exit bkeep_some andF_some onF_some onF_none guardF_none guardF_some guardV_tup putF_some putF_none stepsF_nil stepsF_cons upd_apply ofL_cons ofL_nil bown_normal bown_ret banswer_normal banswer_ret aresults ares List.replicate stepF_call stepF_callD stepF_move stepF_pick stepF_alloc stepF_allocV stepF_box stepF_boxV stepF_build stepF_buildSlice stepF_buildSliceV stepF_load stepF_store stepF_nilCheck stepF_bin stepF_eq stepF_un stepF_conv stepF_strId strIdV_str strIdV_int stepF_toStr stepF_toBytes stepF_fn stepF_mkSlice stepF_slice stepF_strSlice stepF_fieldAddr stepF_field stepF_idxAddr stepF_idxArr stepF_index stepF_strIndex stepF_extract stepF_len0 stepF_len1 stepF_min stepF_max stepF_append stepF_appendF appF_none appF_row stepF_mkMap stepF_mkIface stepF_lookup stepF_mapUpdate stepF_ext aext_idx aext_count aext_same cellsF newF abin_add abin_sub abin_mul abin_quo abin_rem abin_eql abin_neq abin_lss abin_leq abin_gtr abin_geq abin_and abin_or abin_xor abin_shl abin_shr abin_seql abin_sneq aun_not aun_neg aeq_bool aeq_agg eqCells_nil eqCells_int eqCells_bool eqCells_str cellsOf_agg cellsOf_int cellsOf_bool cellsOf_str cellsOf_is cellsOf_ms cellsOf_fn cellsOf_nilp cellsOf_mp cellsOf_mm cellsOf_nilm cellsOf_nili cellsOf_ifc cellsOf_ip cget_one cget_agg ev_t ev_c fillp_nil fillp_cons isSc_int isSc_bool isSc_str isSc_is isSc_ms isSc_fn isSc_mm isSc_mp isSc_ip isSc_nilp isSc_nilm isSc_nili isSc_nilf isSc_ifc splice chunk strip strip.stripL imm imm.immL Areify_int Areify_bool Areify_str Areify_is Areify_nilp Areify_tup Areify_agg AreifyL andF_chi andF_ch onF_chi onF_ch bthen_ch bthen_chi bblock_ch bblock_chi bkeep_ch bkeep_chi bown_ch bown_chi banswer_ch banswer_chi isSome_ch bcond_ch guardV_ch1 guardV_ch0 chF_true chF_false chF_not
attribute [local simp ↓] andF_some andF_chi andF_ch onF_some onF_none onF_chi onF_ch bthen_normal bthen_ret bthen_exit bthen_ch bthen_chi bblock_normal bblock_ret bblock_exit bblock_ch bblock_chi bkeep_some bkeep_ch bkeep_chi bown_normal bown_ret bown_ch bown_chi banswer_normal banswer_ret banswer_ch banswer_chi bcond_ch guardV_ch1 guardV_ch0 guardV_tup guardF_none guardF_some putF_some putF_none stepsF_nil stepsF_cons chF_true chF_false Brun_seq Brun_cond Brun_block Brun_region Brun_skip Brun_ret Brun_exit stepF_call stepF_callD stepF_move stepF_pick stepF_alloc stepF_allocV stepF_box stepF_boxV stepF_build stepF_buildSlice stepF_buildSliceV stepF_load stepF_store stepF_nilCheck stepF_bin stepF_eq stepF_un stepF_conv stepF_strId stepF_toStr stepF_toBytes stepF_fn stepF_mkSlice stepF_slice stepF_strSlice stepF_fieldAddr stepF_field stepF_idxAddr stepF_idxArr stepF_index stepF_strIndex stepF_extract stepF_len0 stepF_len1 stepF_min stepF_max stepF_append stepF_appendF stepF_mkMap stepF_mkIface stepF_lookup stepF_mapUpdate stepF_ext
set_option maxHeartbeats 4000000
theorem cw64 (n : Nat) (h : n < 4611686018427387904) : IntKind.i64.wrap (n + 1) = (n : Int) + 1 := IntWalk.i64_in _ (by omega)
theorem rapp {H : Heap} {T : Nat} {b : Blk} (h : H[T]? = some b) (X : Heap) : (H ++ X)[T]? = some b := by
  rw [List.getElem?_append_left (List.getElem?_eq_some_iff.1 h).1]; exact h
def mvRow (m : Mv) : List AV := [.int .i64 m.1, .int .i64 m.2]
def mvRows (l : List Mv) : List (List AV) := l.map mvRow
theorem mvRows_len (l : List Mv) : (mvRows l).length = l.length := List.length_map ..
theorem mvRows_get {l : List Mv} {i : Nat} {m : Mv} (h : l[i]? = some m) : (mvRows l)[i]? = some (mvRow m) := by unfold mvRows; rw [List.getElem?_map, h]; rfl
def regB (n : Int) : Bool := decide (0 ≤ n ∧ n ≤ 15)
theorem reg15_ok (h : Heap) (n : Int) : Ccall tab 15 [.int .i64 n] h = some (.bool (regB n), h) := by
  unfold regB
  refine Ccall_own rfl rfl rfl rfl ?_
  by_cases h0 : 0 ≤ n
  · repeat (any_goals first | simp (dsimp := false) (maxSteps := 4000000) (maxDischargeDepth := 8) (implicitDefEqProofs := false) [*, -Int.not_le, -Int.not_lt, amLt, f15c, f15r0, f15r1] | with_reducible refine ch_both (fun _ => ?_) (fun _ => ?_) | with_reducible refine ite_both (fun _ => ?_) (fun _ => ?_) | intro _)
  · repeat (any_goals first | simp (dsimp := false) (maxSteps := 4000000) (maxDischargeDepth := 8) (implicitDefEqProofs := false) [*, -Int.not_le, -Int.not_lt, amLt, f15c, f15r0, f15r1] | with_reducible refine ch_both (fun _ => ?_) (fun _ => ?_) | with_reducible refine ite_both (fun _ => ?_) (fun _ => ?_) | intro _)
theorem reg18_ok (h : Heap) (n : Int) : Ccall tab 18 [.int .i64 n] h = some (.bool (regB n), h) := by
  unfold regB
  refine Ccall_own rfl rfl rfl rfl ?_
  by_cases h0 : 0 ≤ n
  · repeat (any_goals first | simp (dsimp := false) (maxSteps := 4000000) (maxDischargeDepth := 8) (implicitDefEqProofs := false) [*, -Int.not_le, -Int.not_lt, amLt, f18c, f18r0, f18r1] | with_reducible refine ch_both (fun _ => ?_) (fun _ => ?_) | with_reducible refine ite_both (fun _ => ?_) (fun _ => ?_) | intro _)
  · repeat (any_goals first | simp (dsimp := false) (maxSteps := 4000000) (maxDischargeDepth := 8) (implicitDefEqProofs := false) [*, -Int.not_le, -Int.not_lt, amLt, f18c, f18r0, f18r1] | with_reducible refine ch_both (fun _ => ?_) (fun _ => ?_) | with_reducible refine ite_both (fun _ => ?_) (fun _ => ?_) | intro _)
def hadT (pre : List Mv) (t : Int) : Bool := pre.any fun x => decide (x.1 = t)
def okM (sp : Int) (m : Mv) : Bool := regB m.1 && regB m.2 && !decide (m.1 = sp) && !decide (m.2 = sp)
def rightL (sp : Int) : List Mv → List Mv → Bool
  | _, [] => true
  | pre, m :: r => okM sp m && !hadT pre m.1 && rightL sp (pre ++ [m]) r
def rightS (sp : Int) (l : List Mv) : Bool := regB sp && rightL sp [] l
def toB (pre : List Mv) : List AV := (List.range 16).map fun i : Nat => .bool (hadT pre (i : Int))
theorem toB_len (pre : List Mv) : (toB pre).length = 16 := by simp [toB]
theorem toB_get {pre : List Mv} {t : Int} (h : regB t = true) : (toB pre)[t.toNat]? = some (.bool (hadT pre t)) := by
  unfold regB at h
  simp only [decide_eq_true_eq] at h
  unfold toB
  rw [List.getElem?_map, List.getElem?_range (by omega)]
  simp only [Option.map_some]
  rw [show ((t.toNat : Nat) : Int) = t by omega]
theorem toB_set {pre : List Mv} {m : Mv} (h : regB m.1 = true) : (toB pre).take m.1.toNat ++ .bool true :: (toB pre).drop (m.1.toNat + 1) = toB (pre ++ [m]) := by
  unfold regB at h
  simp only [decide_eq_true_eq] at h
  have : (toB pre).set m.1.toNat (.bool true) = toB (pre ++ [m]) := by
    apply List.ext_getElem?
    intro i
    rw [List.getElem?_set]
    unfold toB
    by_cases c : m.1.toNat = i
    · subst c
      rw [if_pos rfl, if_pos (by simp; omega), List.getElem?_map, List.getElem?_range (by omega)]
      simp only [Option.map_some, hadT, List.any_append, List.any_cons, List.any_nil, Bool.or_false]
      rw [show decide (m.1 = ((m.1.toNat : Nat) : Int)) = true by simp; omega]
      simp
    · rw [if_neg c, List.getElem?_map, List.getElem?_map]
      by_cases hi : i < 16
      · rw [List.getElem?_range hi]
        simp only [Option.map_some, hadT, List.any_append, List.any_cons, List.any_nil, Bool.or_false]
        rw [show decide (m.1 = ((i : Nat) : Int)) = false by simp; omega]
        simp
      · rw [List.getElem?_eq_none (by simp; omega)]; rfl
  rw [← this, List.set_eq_take_append_cons_drop, if_pos (by rw [toB_len]; omega)]
section
variable {sp : Int} {l : List Mv} {c0 : Cap}
theorem may_step (i : Nat) (m : Mv) (pre : List Mv) (G : Heap) (hl : l.length ≤ 16777216) (hi : l[i]? = some m) (hG : G[0]? = some (.cells (toB pre))) :
    (okM sp m && !hadT pre m.1) = true → Brun tab 49 f8l5 (ofL [(1, .int .i64 sp), (5, .mp 0 0), (11, .is (mvRows l) c0), (12, .int .i64 l.length), (13, .int .i64 i)]) G =
      some (.normal, ofL [(1, .int .i64 sp), (5, .mp 0 0), (11, .is (mvRows l) c0), (12, .int .i64 l.length), (13, .int .i64 (i + 1))], List.set (G ++ [Blk.cells (mvRow m)]) 0 (Blk.cells (toB (pre ++ [m])))) := by
  intro h
  have hil := (List.getElem?_eq_some_iff.1 hi).1
  have hrow := mvRows_get hi
  have hrow2 : ∀ hh : i < (mvRows l).length, (mvRows l)[i] = mvRow m := fun hh => (List.getElem?_eq_some_iff.1 hrow).2
  have hml := mvRows_len l
  have h1 : (i : Int) < l.length := by omega
  have e3 : ¬ (l.length : Int) ≤ i := by omega
  have hw := cw64 i (by omega)
  simp only [okM, Bool.and_eq_true] at h
  obtain ⟨⟨⟨⟨q1, q2⟩, q3⟩, q4⟩, q5⟩ := h
  have hset := toB_set (pre := pre) q1
  have hget := toB_get (pre := pre) q1
  have hr1 := fun h => reg18_ok h m.1
  have hr2 := fun h => reg18_ok h m.2
  rw [q1] at hr1
  rw [q2] at hr2
  have hG2 := fun x => rapp hG x
  have hG3 : ∀ x (hh : 0 < (G ++ x).length), (G ++ x)[0]'hh = .cells (toB pre) := fun x hh => (List.getElem?_eq_some_iff.1 (hG2 x)).2
  have hbl := toB_len pre
  have hb2 : ∀ hh : m.1.toNat < (toB pre).length, (toB pre)[m.1.toNat] = .bool (hadT pre m.1) := fun hh => (List.getElem?_eq_some_iff.1 hget).2
  have q6 : 0 ≤ m.1 ∧ m.1 ≤ 15 := by unfold regB at q1; simpa using q1
  obtain ⟨q7, q8⟩ := q6
  have q9 : m.1 < 16 := by omega
  have q10 : m.1.toNat + 1 ≤ 16 := by omega
  simp only [Bool.not_eq_true', decide_eq_false_iff_not] at q3 q4 q5
  rw [q5] at hget hb2
  unfold mvRow at *
  generalize mvRows l = X at *
  generalize toB (pre ++ [m]) = TB at *
  generalize toB pre = T0 at *
  clear hl hi hG q1 q2 hil
  repeat (any_goals first | simp (dsimp := false) (maxSteps := 4000000) (maxDischargeDepth := 8) (implicitDefEqProofs := false) [*, -Int.not_le, -Int.not_lt, amLt, f8c, f8m5, f8r0, f8r1, f8r2, f8r3, f8r4, f8r5, f8r6, f8r7, f8r8, f8r9, f8r10, f8r11, f8l5_b, app_get, app_get0, app_set, app_set0] | with_reducible refine ch_both (fun _ => ?_) (fun _ => ?_) | with_reducible refine ite_both (fun _ => ?_) (fun _ => ?_) | intro _)
theorem may_stop (i : Nat) (m : Mv) (pre : List Mv) (G : Heap) (hl : l.length ≤ 16777216) (hi : l[i]? = some m) (hG : G[0]? = some (.cells (toB pre))) :
    (okM sp m && !hadT pre m.1) = false → Brun tab 49 f8l5 (ofL [(1, .int .i64 sp), (5, .mp 0 0), (11, .is (mvRows l) c0), (12, .int .i64 l.length), (13, .int .i64 i)]) G =
      some (.ret, ofL [(4, .bool false)], G ++ [.cells (mvRow m)]) := by
  intro h
  have hil := (List.getElem?_eq_some_iff.1 hi).1
  have hrow := mvRows_get hi
  have hrow2 : ∀ hh : i < (mvRows l).length, (mvRows l)[i] = mvRow m := fun hh => (List.getElem?_eq_some_iff.1 hrow).2
  have hml := mvRows_len l
  have h1 : (i : Int) < l.length := by omega
  have e3 : ¬ (l.length : Int) ≤ i := by omega
  have hr1 := fun h => reg18_ok h m.1
  have hr2 := fun h => reg18_ok h m.2
  have hG2 := fun x => rapp hG x
  have hG3 : ∀ x (hh : 0 < (G ++ x).length), (G ++ x)[0]'hh = .cells (toB pre) := fun x hh => (List.getElem?_eq_some_iff.1 (hG2 x)).2
  unfold okM at h
  have hget := fun q => toB_get (pre := pre) (t := m.1) q
  have hbl := toB_len pre
  have hb2 : regB m.1 = true → ∀ hh : m.1.toNat < (toB pre).length, (toB pre)[m.1.toNat] = .bool (hadT pre m.1) := fun q hh => (List.getElem?_eq_some_iff.1 (hget q)).2
  have q6 : regB m.1 = true → 0 ≤ m.1 ∧ m.1 ≤ 15 := fun q => by unfold regB at q; simpa using q
  unfold mvRow at *
  generalize mvRows l = X at *
  generalize toB pre = T0 at *
  generalize hadT pre m.1 = d at *
  clear hl hi hG hil
  cases q1 : regB m.1 with
  | false =>
    rw [q1] at hr1
    clear hget hb2 q6 h hr2
    repeat (any_goals first | simp (dsimp := false) (maxSteps := 4000000) (maxDischargeDepth := 8) (implicitDefEqProofs := false) [*, -Int.not_le, -Int.not_lt, amLt, f8c, f8m5, f8r0, f8r1, f8r2, f8r3, f8r4, f8r5, f8r6, f8r7, f8r8, f8r9, f8r10, f8r11, f8l5_b, app_get, app_get0, app_set, app_set0] | with_reducible refine ch_both (fun _ => ?_) (fun _ => ?_) | with_reducible refine ite_both (fun _ => ?_) (fun _ => ?_) | intro _)
  | true =>
    rw [q1] at hr1 h
    have hget := hget q1
    have hb2 := hb2 q1
    obtain ⟨q7, q8⟩ := q6 q1
    have q9 : m.1 < 16 := by omega
    cases q2 : regB m.2 with
    | false =>
      rw [q2] at hr2
      clear hget hb2 q6 h
      repeat (any_goals first | simp (dsimp := false) (maxSteps := 4000000) (maxDischargeDepth := 8) (implicitDefEqProofs := false) [*, -Int.not_le, -Int.not_lt, amLt, f8c, f8m5, f8r0, f8r1, f8r2, f8r3, f8r4, f8r5, f8r6, f8r7, f8r8, f8r9, f8r10, f8r11, f8l5_b, app_get, app_get0, app_set, app_set0] | with_reducible refine ch_both (fun _ => ?_) (fun _ => ?_) | with_reducible refine ite_both (fun _ => ?_) (fun _ => ?_) | intro _)
    | true =>
      rw [q2] at hr2 h
      simp only [Bool.true_and] at h
      clear q1 q2 q6
      by_cases c1 : m.1 = sp
      · subst c1
        clear h
        repeat (any_goals first | simp (dsimp := false) (maxSteps := 4000000) (maxDischargeDepth := 8) (implicitDefEqProofs := false) [*, -Int.not_le, -Int.not_lt, amLt, f8c, f8m5, f8r0, f8r1, f8r2, f8r3, f8r4, f8r5, f8r6, f8r7, f8r8, f8r9, f8r10, f8r11, f8l5_b, app_get, app_get0, app_set, app_set0] | with_reducible refine ch_both (fun _ => ?_) (fun _ => ?_) | with_reducible refine ite_both (fun _ => ?_) (fun _ => ?_) | intro _)
      · by_cases c2 : m.2 = sp
        · subst c2
          clear h
          repeat (any_goals first | simp (dsimp := false) (maxSteps := 4000000) (maxDischargeDepth := 8) (implicitDefEqProofs := false) [*, -Int.not_le, -Int.not_lt, amLt, f8c, f8m5, f8r0, f8r1, f8r2, f8r3, f8r4, f8r5, f8r6, f8r7, f8r8, f8r9, f8r10, f8r11, f8l5_b, app_get, app_get0, app_set, app_set0] | with_reducible refine ch_both (fun _ => ?_) (fun _ => ?_) | with_reducible refine ite_both (fun _ => ?_) (fun _ => ?_) | intro _)
        · have hd : d = true := by simpa [c1, c2] using h
          subst hd
          clear h
          repeat (any_goals first | simp (dsimp := false) (maxSteps := 4000000) (maxDischargeDepth := 8) (implicitDefEqProofs := false) [*, -Int.not_le, -Int.not_lt, amLt, f8c, f8m5, f8r0, f8r1, f8r2, f8r3, f8r4, f8r5, f8r6, f8r7, f8r8, f8r9, f8r10, f8r11, f8l5_b, app_get, app_get0, app_set, app_set0] | with_reducible refine ch_both (fun _ => ?_) (fun _ => ?_) | with_reducible refine ite_both (fun _ => ?_) (fun _ => ?_) | intro _)
theorem may_loop (hl : l.length ≤ 16777216) : ∀ (r : List Mv) (i : Nat) (pre : List Mv) (G : Heap), l.drop i = r → i ≤ l.length → G[0]? = some (.cells (toB pre)) →
    ∃ G' E', (rightL sp pre r = true → Brun tab 49 (.loop f8l5) (ofL [(1, .int .i64 sp), (5, .mp 0 0), (11, .is (mvRows l) c0), (12, .int .i64 l.length), (13, .int .i64 i)]) G = some (.exit 0, ofL E', G')) ∧
      (rightL sp pre r = false → Brun tab 49 (.loop f8l5) (ofL [(1, .int .i64 sp), (5, .mp 0 0), (11, .is (mvRows l) c0), (12, .int .i64 l.length), (13, .int .i64 i)]) G = some (.ret, ofL [(4, .bool false)], G')) := by
  intro r
  induction r with
  | nil =>
    intro i pre G hr hi hG
    have hlen := congrArg List.length hr
    simp only [List.length_drop, List.length_nil] at hlen
    have e2 : (l.length : Int) = i := by omega
    refine ⟨G, [(1, .int .i64 sp), (5, .mp 0 0), (11, .is (mvRows l) c0), (12, .int .i64 l.length), (13, .int .i64 i), (14, .bool false)], fun _ => ?_, fun q => by cases q⟩
    rw [Brun_loop]
    clear hl hr hi hlen hG
    repeat (any_goals first | simp (dsimp := false) (maxSteps := 4000000) (maxDischargeDepth := 8) (implicitDefEqProofs := false) [*, -Int.not_le, -Int.not_lt, amLt, f8c, f8m5, f8r0, f8r1, f8r2, f8r3, f8r4, f8r5, f8r6, f8r7, f8r8, f8r9, f8r10, f8r11, f8l5_b] | with_reducible refine ch_both (fun _ => ?_) (fun _ => ?_) | with_reducible refine ite_both (fun _ => ?_) (fun _ => ?_) | intro _)
  | cons m r ih =>
    intro i pre G hr hi hG
    have hlen := congrArg List.length hr
    simp only [List.length_drop, List.length_cons] at hlen
    have hg : l[i]? = some m := by
      have := congrArg (·[0]?) hr
      simpa using this
    have htl : l.drop (i + 1) = r := by
      have := congrArg List.tail hr
      simpa using this
    have lG := (List.getElem?_eq_some_iff.1 hG).1
    have hR : rightL sp pre (m :: r) = ((okM sp m && !hadT pre m.1) && rightL sp (pre ++ [m]) r) := rfl
    rw [hR]
    cases hc : (okM sp m && !hadT pre m.1) with
    | true =>
      have hb := may_step (c0 := c0) i m pre G hl hg hG hc
      obtain ⟨G', E', i1, i2⟩ := ih (i + 1) (pre ++ [m]) _ htl (by omega) (show (List.set (G ++ [Blk.cells (mvRow m)]) 0 (Blk.cells (toB (pre ++ [m]))))[0]? = _ by rw [List.getElem?_set, if_pos rfl, if_pos (by simp)])
      rw [Bool.true_and]
      push_cast at i1 i2
      refine ⟨G', E', fun q => ?_, fun q => ?_⟩
      · rw [Brun_loop, hb, bthen_normal]; exact i1 q
      · rw [Brun_loop, hb, bthen_normal]; exact i2 q
    | false =>
      have hb := may_stop (c0 := c0) i m pre G hl hg hG hc
      rw [Bool.false_and]
      refine ⟨G ++ [.cells (mvRow m)], [], fun q => (by cases q), fun _ => ?_⟩
      rw [Brun_loop, hb]
      rfl
theorem may_ok (h : Heap) (hl : l.length ≤ 16777216) : Ccall tab 8 [.is (mvRows l) c0, .int .i64 sp] h = some (.bool (rightS sp l), h) := by
  have hr := fun h => reg18_ok h sp
  have h0 : (toB []) = [.bool false, .bool false, .bool false, .bool false, .bool false, .bool false, .bool false, .bool false, .bool false, .bool false, .bool false, .bool false, .bool false, .bool false, .bool false, .bool false] := rfl
  obtain ⟨G', E', i1, i2⟩ := may_loop (sp := sp) (c0 := .no) hl l 0 [] [.cells (toB [])] rfl (by omega) rfl
  have hml := mvRows_len l
  unfold rightS
  refine Ccall_own rfl rfl rfl rfl ?_
  simp only [Int.natCast_zero] at i1 i2
  rw [h0] at i1 i2
  generalize mvRows l = X at *
  cases hs : regB sp with
  | false =>
    rw [hs] at hr
    clear i1 i2 hl h0
    repeat (any_goals first | simp (dsimp := false) (maxSteps := 4000000) (maxDischargeDepth := 8) (implicitDefEqProofs := false) [*, -Int.not_le, -Int.not_lt, amLt, f8c, f8m5, f8r0, f8r1, f8r2, f8r3, f8r4, f8r5, f8r6, f8r7, f8r8, f8r9, f8r10, f8r11, f8l5_b] | with_reducible refine ch_both (fun _ => ?_) (fun _ => ?_) | with_reducible refine ite_both (fun _ => ?_) (fun _ => ?_) | intro _)
  | true =>
    rw [hs] at hr
    cases hq : rightL sp [] l with
    | true =>
      replace i1 := i1 hq
      clear i2 hl h0
      repeat (any_goals first | simp (dsimp := false) (maxSteps := 4000000) (maxDischargeDepth := 8) (implicitDefEqProofs := false) [*, -Int.not_le, -Int.not_lt, amLt, f8c, f8m5, f8r0, f8r1, f8r2, f8r3, f8r4, f8r5, f8r6, f8r7, f8r8, f8r9, f8r10, f8r11, f8l5_b] | with_reducible refine ch_both (fun _ => ?_) (fun _ => ?_) | with_reducible refine ite_both (fun _ => ?_) (fun _ => ?_) | intro _)
    | false =>
      replace i2 := i2 hq
      clear i1 hl h0
      repeat (any_goals first | simp (dsimp := false) (maxSteps := 4000000) (maxDischargeDepth := 8) (implicitDefEqProofs := false) [*, -Int.not_le, -Int.not_lt, amLt, f8c, f8m5, f8r0, f8r1, f8r2, f8r3, f8r4, f8r5, f8r6, f8r7, f8r8, f8r9, f8r10, f8r11, f8l5_b] | with_reducible refine ch_both (fun _ => ?_) (fun _ => ?_) | with_reducible refine ite_both (fun _ => ?_) (fun _ => ?_) | intro _)
end

end Go.Proofs.Ytfhijkapcdmdnaa
