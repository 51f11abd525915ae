/- Cycles are counted. -/
import Derived.Test.YtfhijkapcdmdnaaMk
import Derived.Test.YtfhijkapcdmdnaaAmW
namespace Go.Proofs.Ytfhijkapcdmdnaa
open Go.AM
set_option maxRecDepth 20000
set_option maxHeartbeats 4000000
set_option linter.unusedSimpArgs false
set_option linter.unusedVariables false
attribute [local congr] andF_cg onF_cg bthen_cg bkeep_cg bcond_cg guardV_cg putF_cg guardF_cg ite_cg stepsF_cg
attribute [local simp] Brun_skip Brun_exit Brun_ret Brun_seq Brun_cond Brun_block Brun_region bthen_normal bthen_ret bthen_exit bblock_normal bblock_ret bblock_exit bkeep_some andF_some onF_some onF_none guardF_none guardF_some guardV_tup putF_some putF_none stepsF_nil stepsF_cons upd_apply ofL_cons ofL_nil bown_normal bown_ret banswer_normal banswer_ret aresults ares List.replicate stepF_call stepF_callD stepF_move stepF_pick stepF_alloc stepF_allocV stepF_box stepF_boxV stepF_build stepF_buildSlice stepF_buildSliceV stepF_load stepF_store stepF_nilCheck stepF_bin stepF_eq stepF_un stepF_conv stepF_strId strIdV_str strIdV_int stepF_toStr stepF_toBytes stepF_fn stepF_mkSlice stepF_slice stepF_strSlice stepF_fieldAddr stepF_field stepF_idxAddr stepF_idxArr stepF_index stepF_strIndex stepF_extract stepF_len0 stepF_len1 stepF_min stepF_max stepF_append stepF_appendF appF_none appF_row stepF_mkMap stepF_mkIface stepF_lookup stepF_mapUpdate stepF_ext aext_idx aext_count aext_same cellsF newF abin_add abin_sub abin_mul abin_quo abin_rem abin_eql abin_neq abin_lss abin_leq abin_gtr abin_geq abin_and abin_or abin_xor abin_shl abin_shr abin_seql abin_sneq aun_not aun_neg aeq_bool aeq_agg eqCells_nil eqCells_int eqCells_bool eqCells_str cellsOf_agg cellsOf_int cellsOf_bool cellsOf_str cellsOf_is cellsOf_ms cellsOf_fn cellsOf_nilp cellsOf_mp cellsOf_mm cellsOf_nilm cellsOf_nili cellsOf_ifc cellsOf_ip cget_one cget_agg ev_t ev_c fillp_nil fillp_cons isSc_int isSc_bool isSc_str isSc_is isSc_ms isSc_fn isSc_mm isSc_mp isSc_ip isSc_nilp isSc_nilm isSc_nili isSc_nilf isSc_ifc splice chunk strip strip.stripL imm imm.immL Areify_int Areify_bool Areify_str Areify_is Areify_nilp Areify_tup Areify_agg AreifyL andF_chi andF_ch onF_chi onF_ch bthen_ch bthen_chi bblock_ch bblock_chi bkeep_ch bkeep_chi bown_ch bown_chi banswer_ch banswer_chi isSome_ch bcond_ch guardV_ch1 guardV_ch0 chF_true chF_false chF_not
attribute [local simp ↓] andF_some andF_chi andF_ch onF_some onF_none onF_chi onF_ch bthen_normal bthen_ret bthen_exit bthen_ch bthen_chi bblock_normal bblock_ret bblock_exit bblock_ch bblock_chi bkeep_some bkeep_ch bkeep_chi bown_normal bown_ret bown_ch bown_chi banswer_normal banswer_ret banswer_ch banswer_chi bcond_ch guardV_ch1 guardV_ch0 guardV_tup guardF_none guardF_some putF_some putF_none stepsF_nil stepsF_cons chF_true chF_false Brun_seq Brun_cond Brun_block Brun_region Brun_skip Brun_ret Brun_exit stepF_call stepF_callD stepF_move stepF_pick stepF_alloc stepF_allocV stepF_box stepF_boxV stepF_build stepF_buildSlice stepF_buildSliceV stepF_load stepF_store stepF_nilCheck stepF_bin stepF_eq stepF_un stepF_conv stepF_strId stepF_toStr stepF_toBytes stepF_fn stepF_mkSlice stepF_slice stepF_strSlice stepF_fieldAddr stepF_field stepF_idxAddr stepF_idxArr stepF_index stepF_strIndex stepF_extract stepF_len0 stepF_len1 stepF_min stepF_max stepF_append stepF_appendF stepF_mkMap stepF_mkIface stepF_lookup stepF_mapUpdate stepF_ext
set_option maxHeartbeats 4000000
def arrF (f : Int → Int) : List AV := (List.range 16).map fun i : Nat => .int .i64 (f (i : Int))
theorem arrF_len (f : Int → Int) : (arrF f).length = 16 := by simp [arrF]
theorem arrF_get {f : Int → Int} {t : Int} (h : 0 ≤ t ∧ t ≤ 15) : (arrF f)[t.toNat]? = some (.int .i64 (f t)) := by
  unfold arrF
  rw [List.getElem?_map, List.getElem?_range (by omega)]
  simp only [Option.map_some]
  rw [show ((t.toNat : Nat) : Int) = t by omega]
theorem arrF_set {f : Int → Int} {t : Int} (x : Int) (h : 0 ≤ t ∧ t ≤ 15) : (arrF f).take t.toNat ++ .int .i64 x :: (arrF f).drop (t.toNat + 1) = arrF (fun i => if i = t then x else f i) := by
  have : (arrF f).set t.toNat (.int .i64 x) = arrF (fun i => if i = t then x else f i) := by
    apply List.ext_getElem?
    intro i
    rw [List.getElem?_set]
    unfold arrF
    by_cases c : t.toNat = i
    · subst c
      rw [if_pos rfl, if_pos (by simp; omega), List.getElem?_map, List.getElem?_range (by omega)]
      simp only [Option.map_some]
      rw [if_pos (by omega)]
    · rw [if_neg c, List.getElem?_map, List.getElem?_map]
      by_cases hi : i < 16
      · rw [List.getElem?_range hi]
        simp only [Option.map_some]
        rw [if_neg (by omega)]
      · rw [List.getElem?_eq_none (by simp; omega)]; rfl
  rw [← this, List.set_eq_take_append_cons_drop, if_pos (by rw [arrF_len]; omega)]
section
variable {l : List Mv} {c0 : Cap}
theorem cyc_fill : ∀ (c k : Nat) (f : Int → Int), k + c = 16 → Brun tab 90 (.loop f7l3) (ofL [(0, .is (mvRows l) c0), (3, .ms 0 0 16 1 16 true), (4, .int .i64 k)]) [.cells (arrF f)] =
    some (.exit 0, ofL [(0, .is (mvRows l) c0), (3, .ms 0 0 16 1 16 true), (4, .int .i64 16), (14, .bool false)], [.cells (arrF fun i => if (k : Int) ≤ i ∧ i < 16 then -1 else f i)]) := by
  intro c
  induction c with
  | zero =>
    intro k f hk
    have e : k = 16 := by omega
    subst e
    have e2 : (fun i => if ((16 : Nat) : Int) ≤ i ∧ i < 16 then -1 else f i) = f := by funext i; rw [if_neg (by omega)]
    rw [e2, Brun_loop]
    generalize arrF f = X at *
    repeat (any_goals first | simp (dsimp := false) (maxSteps := 4000000) (maxDischargeDepth := 8) (implicitDefEqProofs := false) [*, -Int.not_le, -Int.not_lt, amLt, f7c, f7m3, f7m7, f7q8, f7q9, f7r0, f7r1, f7r2, f7r3, f7r4, f7r5, f7r6, f7r7, f7m13, f7m18, f7r10, f7r11, f7r12, f7r13, f7r14, f7r15, f7r16, f7r17, f7r18, f7r19, f7r20, f7r21, f7r22, f7r23, f7r24, f7r25, f7r26, f7l3_b, f7l7_b, f7r8_u, f7r8_w, f7r9_u, f7r9_w, f7l13_b, f7l18_b] | with_reducible refine ch_both (fun _ => ?_) (fun _ => ?_) | with_reducible refine ite_both (fun _ => ?_) (fun _ => ?_) | intro _)
  | succ c ih =>
    intro k f hk
    have hs := arrF_set (f := f) (t := k) (-1) (by omega)
    have i1 := ih (k + 1) (fun i => if i = (k : Int) then -1 else f i) (by omega)
    have e2 : (fun i => if ((k + 1 : Nat) : Int) ≤ i ∧ i < 16 then -1 else (if i = (k : Int) then -1 else f i)) = fun i => if (k : Int) ≤ i ∧ i < 16 then -1 else f i := by
      funext i
      by_cases q : i = (k : Int)
      · rw [if_neg (by omega), if_pos q, if_pos (by omega)]
      · rw [if_neg q]
        by_cases q2 : ((k + 1 : Nat) : Int) ≤ i ∧ i < 16
        · rw [if_pos q2, if_pos (by omega)]
        · rw [if_neg q2, if_neg (by omega)]
    rw [e2] at i1
    push_cast at i1
    rw [Int.toNat_natCast] at hs
    have hl := arrF_len f
    have h1 : (k : Int) < 16 := by omega
    have e3 : ¬ (16 : Int) ≤ k := by omega
    have h4 : k + 1 ≤ 16 := by omega
    have hw := cw64 k (by omega)
    rw [Brun_loop]
    generalize arrF (fun i => if (k : Int) ≤ i ∧ i < 16 then -1 else f i) = F3 at *
    generalize arrF (fun i => if i = (k : Int) then -1 else f i) = F2 at *
    generalize arrF f = F1 at *
    clear ih hk e2
    repeat (any_goals first | simp (dsimp := false) (maxSteps := 4000000) (maxDischargeDepth := 8) (implicitDefEqProofs := false) [*, -Int.not_le, -Int.not_lt, amLt, f7c, f7m3, f7m7, f7q8, f7q9, f7r0, f7r1, f7r2, f7r3, f7r4, f7r5, f7r6, f7r7, f7m13, f7m18, f7r10, f7r11, f7r12, f7r13, f7r14, f7r15, f7r16, f7r17, f7r18, f7r19, f7r20, f7r21, f7r22, f7r23, f7r24, f7r25, f7r26, f7l3_b, f7l7_b, f7r8_u, f7r8_w, f7r9_u, f7r9_w, f7l13_b, f7l18_b] | with_reducible refine ch_both (fun _ => ?_) (fun _ => ?_) | with_reducible refine ite_both (fun _ => ?_) (fun _ => ?_) | intro _)
theorem cyc_read (hl : l.length ≤ 16777216) (hr : ∀ m ∈ l, (0 ≤ m.1 ∧ m.1 ≤ 15) ∧ (0 ≤ m.2 ∧ m.2 ≤ 15)) : ∀ (r : List Mv) (i : Nat) (f : Int → Int) (E : List (Nat × AV)), l.drop i = r → i ≤ l.length →
    ∃ E', Brun tab 90 (.loop f7l7) (ofL ((0, .is (mvRows l) c0) :: (3, .ms 0 0 16 1 16 true) :: (5, .int .i64 i) :: E)) [.cells (arrF f)] = some (.exit 2, ofL ((0, .is (mvRows l) c0) :: (3, .ms 0 0 16 1 16 true) :: E'), [.cells (arrF (frF f r))]) := by
  have hml := mvRows_len l
  intro r
  induction r with
  | nil =>
    intro i f E hd hi
    have hlen := congrArg List.length hd
    simp only [List.length_drop, List.length_nil] at hlen
    have e2 : (l.length : Int) = i := by omega
    refine ⟨[(5, .int .i64 i), (23, .bool false)], ?_⟩
    rw [Brun_loop]
    simp only [frF]
    clear hl hr hd hi hlen
    repeat (any_goals first | simp (dsimp := false) (maxSteps := 4000000) (maxDischargeDepth := 8) (implicitDefEqProofs := false) [*, -Int.not_le, -Int.not_lt, amLt, f7c, f7m3, f7m7, f7q8, f7q9, f7r0, f7r1, f7r2, f7r3, f7r4, f7r5, f7r6, f7r7, f7m13, f7m18, f7r10, f7r11, f7r12, f7r13, f7r14, f7r15, f7r16, f7r17, f7r18, f7r19, f7r20, f7r21, f7r22, f7r23, f7r24, f7r25, f7r26, f7l3_b, f7l7_b, f7r8_u, f7r8_w, f7r9_u, f7r9_w, f7l13_b, f7l18_b] | with_reducible refine ch_both (fun _ => ?_) (fun _ => ?_) | with_reducible refine ite_both (fun _ => ?_) (fun _ => ?_) | intro _)
  | cons m r ih =>
    intro i f E hd hi
    have hlen := congrArg List.length hd
    simp only [List.length_drop, List.length_cons] at hlen
    have hg : l[i]? = some m := by
      have := congrArg (·[0]?) hd
      simpa using this
    have htl : l.drop (i + 1) = r := by
      have := congrArg List.tail hd
      simpa using this
    obtain ⟨b1, b2⟩ := hr m (List.mem_of_getElem? hg)
    have hrow := mvRows_get hg
    have hrow2 : ∀ hh : i < (mvRows l).length, (mvRows l)[i] = mvRow m := fun hh => (List.getElem?_eq_some_iff.1 hrow).2
    have h1 : (i : Int) < l.length := by omega
    have e3 : ¬ (l.length : Int) ≤ i := by omega
    have hw := cw64 i (by omega)
    have hs := arrF_set (f := f) (t := m.1) m.2 b1
    have hfl := arrF_len f
    obtain ⟨b3, b4⟩ := b1
    have b5 : m.1 < 16 := by omega
    have b6 : m.1.toNat + 1 ≤ 16 := by omega
    simp only [frF]
    by_cases cs : m.1 = m.2
    · obtain ⟨E', i1⟩ := ih (i + 1) f [] htl (by omega)
      rw [if_pos (by simpa [self] using cs)]
      refine ⟨E', ?_⟩
      push_cast at i1
      rw [Brun_loop]
      unfold mvRow at *
      generalize arrF (frF f r) = F3 at *
      generalize arrF f = F1 at *
      generalize mvRows l = X at *
      clear ih hl hr hd hi hlen hg htl hs
      repeat (any_goals first | simp (dsimp := false) (maxSteps := 4000000) (maxDischargeDepth := 8) (implicitDefEqProofs := false) [*, -Int.not_le, -Int.not_lt, amLt, f7c, f7m3, f7m7, f7q8, f7q9, f7r0, f7r1, f7r2, f7r3, f7r4, f7r5, f7r6, f7r7, f7m13, f7m18, f7r10, f7r11, f7r12, f7r13, f7r14, f7r15, f7r16, f7r17, f7r18, f7r19, f7r20, f7r21, f7r22, f7r23, f7r24, f7r25, f7r26, f7l3_b, f7l7_b, f7r8_u, f7r8_w, f7r9_u, f7r9_w, f7l13_b, f7l18_b] | with_reducible refine ch_both (fun _ => ?_) (fun _ => ?_) | with_reducible refine ite_both (fun _ => ?_) (fun _ => ?_) | intro _)
    · obtain ⟨E', i1⟩ := ih (i + 1) (fun j => if j = m.1 then m.2 else f j) [] htl (by omega)
      rw [if_neg (by simpa [self] using cs)]
      refine ⟨E', ?_⟩
      push_cast at i1
      rw [Brun_loop]
      unfold mvRow at *
      generalize arrF (frF (fun j => if j = m.1 then m.2 else f j) r) = F3 at *
      generalize arrF (fun j => if j = m.1 then m.2 else f j) = F2 at *
      generalize arrF f = F1 at *
      generalize mvRows l = X at *
      clear ih hl hr hd hi hlen hg htl
      repeat (any_goals first | simp (dsimp := false) (maxSteps := 4000000) (maxDischargeDepth := 8) (implicitDefEqProofs := false) [*, -Int.not_le, -Int.not_lt, amLt, f7c, f7m3, f7m7, f7q8, f7q9, f7r0, f7r1, f7r2, f7r3, f7r4, f7r5, f7r6, f7r7, f7m13, f7m18, f7r10, f7r11, f7r12, f7r13, f7r14, f7r15, f7r16, f7r17, f7r18, f7r19, f7r20, f7r21, f7r22, f7r23, f7r24, f7r25, f7r26, f7l3_b, f7l7_b, f7r8_u, f7r8_w, f7r9_u, f7r9_w, f7l13_b, f7l18_b] | with_reducible refine ch_both (fun _ => ?_) (fun _ => ?_) | with_reducible refine ite_both (fun _ => ?_) (fun _ => ?_) | intro _)
/-- Going round from one place. -/
theorem cyc_chase (f : Int → Int) (hf : ∀ t, 0 ≤ t → t ≤ 15 → f t ≤ 15) (n i : Int) : ∀ (c k : Nat) (a : Int) (b lst : Bool), k + c = 16 → a ≤ 15 →
    ∃ a' k', Brun tab 90 (.loop f7l18) (ofL [(3, .ms 0 0 16 1 16 true), (6, .int .i64 n), (7, .int .i64 i), (8, .bool lst), (9, .int .i64 a), (10, .bool b), (11, .int .i64 k)]) [.cells (arrF f)] =
      some (.exit 6, ofL [(3, .ms 0 0 16 1 16 true), (6, .int .i64 n), (7, .int .i64 i), (8, .bool (chase f i c a b lst).2), (9, .int .i64 a'), (10, .bool (chase f i c a b lst).1), (11, .int .i64 k'), (63, .bool false)], [.cells (arrF f)]) := by
  intro c
  induction c with
  | zero =>
    intro k a b lst hk ha
    have e : (k : Int) = 16 := by omega
    refine ⟨a, k, ?_⟩
    rw [Brun_loop]
    simp only [chase]
    generalize arrF f = X at *
    clear hf hk ha
    rw [e]
    repeat (any_goals first | simp (dsimp := false) (maxSteps := 4000000) (maxDischargeDepth := 8) (implicitDefEqProofs := false) [*, -Int.not_le, -Int.not_lt, amLt, f7c, f7m3, f7m7, f7q8, f7q9, f7r0, f7r1, f7r2, f7r3, f7r4, f7r5, f7r6, f7r7, f7m13, f7m18, f7r10, f7r11, f7r12, f7r13, f7r14, f7r15, f7r16, f7r17, f7r18, f7r19, f7r20, f7r21, f7r22, f7r23, f7r24, f7r25, f7r26, f7l3_b, f7l7_b, f7r8_u, f7r8_w, f7r9_u, f7r9_w, f7l13_b, f7l18_b] | with_reducible refine ch_both (fun _ => ?_) (fun _ => ?_) | with_reducible refine ite_both (fun _ => ?_) (fun _ => ?_) | intro _)
  | succ c ih =>
    intro k a b lst hk ha
    have h1 : (k : Int) < 16 := by omega
    have e3 : ¬ (16 : Int) ≤ k := by omega
    have hw := cw64 k (by omega)
    by_cases h0 : 0 ≤ a
    · cases b with
      | true =>
        refine ⟨a, k, ?_⟩
        rw [Brun_loop]
        simp only [chase]
        rw [if_neg (by simp)]
        generalize arrF f = X at *
        clear ih hf hk ha
        repeat (any_goals first | simp (dsimp := false) (maxSteps := 4000000) (maxDischargeDepth := 8) (implicitDefEqProofs := false) [*, -Int.not_le, -Int.not_lt, amLt, f7c, f7m3, f7m7, f7q8, f7q9, f7r0, f7r1, f7r2, f7r3, f7r4, f7r5, f7r6, f7r7, f7m13, f7m18, f7r10, f7r11, f7r12, f7r13, f7r14, f7r15, f7r16, f7r17, f7r18, f7r19, f7r20, f7r21, f7r22, f7r23, f7r24, f7r25, f7r26, f7l3_b, f7l7_b, f7r8_u, f7r8_w, f7r9_u, f7r9_w, f7l13_b, f7l18_b] | with_reducible refine ch_both (fun _ => ?_) (fun _ => ?_) | with_reducible refine ite_both (fun _ => ?_) (fun _ => ?_) | intro _)
      | false =>
        have hg := arrF_get (f := f) (t := a) ⟨h0, ha⟩
        have hl := arrF_len f
        have hg2 : ∀ hh : a.toNat < (arrF f).length, (arrF f)[a.toNat] = .int .i64 (f a) := fun hh => (List.getElem?_eq_some_iff.1 hg).2
        obtain ⟨a', k', i1⟩ := ih (k + 1) (f a) (decide (f a = i)) (lst && (decide (f a < 0) || decide (i ≤ f a))) (by omega) (hf a h0 ha)
        have ha16 : a < 16 := by omega
        refine ⟨a', k', ?_⟩
        have hc : chase f i (c + 1) a false lst = chase f i c (f a) (decide (f a = i)) (lst && (decide (f a < 0) || decide (i ≤ f a))) := by rw [chase, if_pos ⟨h0, rfl⟩]
        rw [hc]
        push_cast at i1
        rw [Brun_loop]
        generalize chase f i c (f a) (decide (f a = i)) (lst && (decide (f a < 0) || decide (i ≤ f a))) = z at *
        generalize f a = y at *
        generalize arrF f = X at *
        clear ih hf hk ha hc
        by_cases q : y = i
        · subst q
          rw [show decide (y = y) = true by simp, show (lst && (decide (y < 0) || decide (y ≤ y))) = lst by simp] at i1
          cases lst
          · repeat (any_goals first | simp (dsimp := false) (maxSteps := 4000000) (maxDischargeDepth := 8) (implicitDefEqProofs := false) [*, -Int.not_le, -Int.not_lt, amLt, f7c, f7m3, f7m7, f7q8, f7q9, f7r0, f7r1, f7r2, f7r3, f7r4, f7r5, f7r6, f7r7, f7m13, f7m18, f7r10, f7r11, f7r12, f7r13, f7r14, f7r15, f7r16, f7r17, f7r18, f7r19, f7r20, f7r21, f7r22, f7r23, f7r24, f7r25, f7r26, f7l3_b, f7l7_b, f7r8_u, f7r8_w, f7r9_u, f7r9_w, f7l13_b, f7l18_b] | with_reducible refine ch_both (fun _ => ?_) (fun _ => ?_) | with_reducible refine ite_both (fun _ => ?_) (fun _ => ?_) | intro _)
          · by_cases q1 : y < 0
            · repeat (any_goals first | simp (dsimp := false) (maxSteps := 4000000) (maxDischargeDepth := 8) (implicitDefEqProofs := false) [*, -Int.not_le, -Int.not_lt, amLt, f7c, f7m3, f7m7, f7q8, f7q9, f7r0, f7r1, f7r2, f7r3, f7r4, f7r5, f7r6, f7r7, f7m13, f7m18, f7r10, f7r11, f7r12, f7r13, f7r14, f7r15, f7r16, f7r17, f7r18, f7r19, f7r20, f7r21, f7r22, f7r23, f7r24, f7r25, f7r26, f7l3_b, f7l7_b, f7r8_u, f7r8_w, f7r9_u, f7r9_w, f7l13_b, f7l18_b] | with_reducible refine ch_both (fun _ => ?_) (fun _ => ?_) | with_reducible refine ite_both (fun _ => ?_) (fun _ => ?_) | intro _)
            · repeat (any_goals first | simp (dsimp := false) (maxSteps := 4000000) (maxDischargeDepth := 8) (implicitDefEqProofs := false) [*, -Int.not_le, -Int.not_lt, amLt, f7c, f7m3, f7m7, f7q8, f7q9, f7r0, f7r1, f7r2, f7r3, f7r4, f7r5, f7r6, f7r7, f7m13, f7m18, f7r10, f7r11, f7r12, f7r13, f7r14, f7r15, f7r16, f7r17, f7r18, f7r19, f7r20, f7r21, f7r22, f7r23, f7r24, f7r25, f7r26, f7l3_b, f7l7_b, f7r8_u, f7r8_w, f7r9_u, f7r9_w, f7l13_b, f7l18_b] | with_reducible refine ch_both (fun _ => ?_) (fun _ => ?_) | with_reducible refine ite_both (fun _ => ?_) (fun _ => ?_) | intro _)
        · rw [show decide (y = i) = false by simpa using q] at i1
          cases lst
          · simp only [Bool.false_and] at i1
            repeat (any_goals first | simp (dsimp := false) (maxSteps := 4000000) (maxDischargeDepth := 8) (implicitDefEqProofs := false) [*, -Int.not_le, -Int.not_lt, amLt, f7c, f7m3, f7m7, f7q8, f7q9, f7r0, f7r1, f7r2, f7r3, f7r4, f7r5, f7r6, f7r7, f7m13, f7m18, f7r10, f7r11, f7r12, f7r13, f7r14, f7r15, f7r16, f7r17, f7r18, f7r19, f7r20, f7r21, f7r22, f7r23, f7r24, f7r25, f7r26, f7l3_b, f7l7_b, f7r8_u, f7r8_w, f7r9_u, f7r9_w, f7l13_b, f7l18_b] | with_reducible refine ch_both (fun _ => ?_) (fun _ => ?_) | with_reducible refine ite_both (fun _ => ?_) (fun _ => ?_) | intro _)
          · by_cases q1 : y < 0
            · rw [show (true && (decide (y < 0) || decide (i ≤ y))) = true by simp [q1]] at i1
              repeat (any_goals first | simp (dsimp := false) (maxSteps := 4000000) (maxDischargeDepth := 8) (implicitDefEqProofs := false) [*, -Int.not_le, -Int.not_lt, amLt, f7c, f7m3, f7m7, f7q8, f7q9, f7r0, f7r1, f7r2, f7r3, f7r4, f7r5, f7r6, f7r7, f7m13, f7m18, f7r10, f7r11, f7r12, f7r13, f7r14, f7r15, f7r16, f7r17, f7r18, f7r19, f7r20, f7r21, f7r22, f7r23, f7r24, f7r25, f7r26, f7l3_b, f7l7_b, f7r8_u, f7r8_w, f7r9_u, f7r9_w, f7l13_b, f7l18_b] | with_reducible refine ch_both (fun _ => ?_) (fun _ => ?_) | with_reducible refine ite_both (fun _ => ?_) (fun _ => ?_) | intro _)
            · by_cases q3 : i ≤ y
              · rw [show (true && (decide (y < 0) || decide (i ≤ y))) = true by simp [q3]] at i1
                repeat (any_goals first | simp (dsimp := false) (maxSteps := 4000000) (maxDischargeDepth := 8) (implicitDefEqProofs := false) [*, -Int.not_le, -Int.not_lt, amLt, f7c, f7m3, f7m7, f7q8, f7q9, f7r0, f7r1, f7r2, f7r3, f7r4, f7r5, f7r6, f7r7, f7m13, f7m18, f7r10, f7r11, f7r12, f7r13, f7r14, f7r15, f7r16, f7r17, f7r18, f7r19, f7r20, f7r21, f7r22, f7r23, f7r24, f7r25, f7r26, f7l3_b, f7l7_b, f7r8_u, f7r8_w, f7r9_u, f7r9_w, f7l13_b, f7l18_b] | with_reducible refine ch_both (fun _ => ?_) (fun _ => ?_) | with_reducible refine ite_both (fun _ => ?_) (fun _ => ?_) | intro _)
              · rw [show (true && (decide (y < 0) || decide (i ≤ y))) = false by simp [q1, q3]] at i1
                repeat (any_goals first | simp (dsimp := false) (maxSteps := 4000000) (maxDischargeDepth := 8) (implicitDefEqProofs := false) [*, -Int.not_le, -Int.not_lt, amLt, f7c, f7m3, f7m7, f7q8, f7q9, f7r0, f7r1, f7r2, f7r3, f7r4, f7r5, f7r6, f7r7, f7m13, f7m18, f7r10, f7r11, f7r12, f7r13, f7r14, f7r15, f7r16, f7r17, f7r18, f7r19, f7r20, f7r21, f7r22, f7r23, f7r24, f7r25, f7r26, f7l3_b, f7l7_b, f7r8_u, f7r8_w, f7r9_u, f7r9_w, f7l13_b, f7l18_b] | with_reducible refine ch_both (fun _ => ?_) (fun _ => ?_) | with_reducible refine ite_both (fun _ => ?_) (fun _ => ?_) | intro _)
    · refine ⟨a, k, ?_⟩
      rw [Brun_loop]
      simp only [chase]
      rw [if_neg (by omega)]
      generalize arrF f = X at *
      clear ih hf hk ha
      repeat (any_goals first | simp (dsimp := false) (maxSteps := 4000000) (maxDischargeDepth := 8) (implicitDefEqProofs := false) [*, -Int.not_le, -Int.not_lt, amLt, f7c, f7m3, f7m7, f7q8, f7q9, f7r0, f7r1, f7r2, f7r3, f7r4, f7r5, f7r6, f7r7, f7m13, f7m18, f7r10, f7r11, f7r12, f7r13, f7r14, f7r15, f7r16, f7r17, f7r18, f7r19, f7r20, f7r21, f7r22, f7r23, f7r24, f7r25, f7r26, f7l3_b, f7l7_b, f7r8_u, f7r8_w, f7r9_u, f7r9_w, f7l13_b, f7l18_b] | with_reducible refine ch_both (fun _ => ?_) (fun _ => ?_) | with_reducible refine ite_both (fun _ => ?_) (fun _ => ?_) | intro _)
theorem cyc_count (f : Int → Int) (hf : ∀ t, 0 ≤ t → t ≤ 15 → f t ≤ 15) : ∀ (c i n : Nat), i + c = 16 → n ≤ i → Brun tab 90 (.loop f7l13) (ofL [(3, .ms 0 0 16 1 16 true), (6, .int .i64 n), (7, .int .i64 i)]) [.cells (arrF f)] =
    some (.exit 4, ofL [(3, .ms 0 0 16 1 16 true), (6, .int .i64 ((n + ((List.range 16).drop i).countP (isCyc f) : Nat) : Int)), (7, .int .i64 16), (50, .bool false)], [.cells (arrF f)]) := by
  intro c
  induction c with
  | zero =>
    intro i n hi hn
    have e : i = 16 := by omega
    subst e
    have e2 : ((List.range 16).drop 16).countP (isCyc f) = 0 := rfl
    rw [e2, Nat.add_zero, Brun_loop]
    generalize arrF f = X at *
    clear hf
    repeat (any_goals first | simp (dsimp := false) (maxSteps := 4000000) (maxDischargeDepth := 8) (implicitDefEqProofs := false) [*, -Int.not_le, -Int.not_lt, amLt, f7c, f7m3, f7m7, f7q8, f7q9, f7r0, f7r1, f7r2, f7r3, f7r4, f7r5, f7r6, f7r7, f7m13, f7m18, f7r10, f7r11, f7r12, f7r13, f7r14, f7r15, f7r16, f7r17, f7r18, f7r19, f7r20, f7r21, f7r22, f7r23, f7r24, f7r25, f7r26, f7l3_b, f7l7_b, f7r8_u, f7r8_w, f7r9_u, f7r9_w, f7l13_b, f7l18_b] | with_reducible refine ch_both (fun _ => ?_) (fun _ => ?_) | with_reducible refine ite_both (fun _ => ?_) (fun _ => ?_) | intro _)
  | succ c ih =>
    intro i n hi hn
    have hd : (List.range 16).drop i = i :: (List.range 16).drop (i + 1) := by
      rw [List.drop_eq_getElem_cons (by simp; omega), List.getElem_range]
    rw [hd, List.countP_cons]
    obtain ⟨a', k', h1⟩ := cyc_chase f hf n i 16 0 i false true (by omega) (by omega)
    simp only [Int.natCast_zero] at h1
    have h2 : (i : Int) < 16 := by omega
    have e3 : ¬ (16 : Int) ≤ i := by omega
    have hw := cw64 i (by omega)
    have hwn := cw64 n (by omega)
    have j1 := ih (i + 1) (n + 1) (by omega) (by omega)
    have j2 := ih (i + 1) n (by omega) (by omega)
    push_cast at j1 j2
    rw [Brun_loop]
    have hz : isCyc f i = ((chase f i 16 i false true).1 && (chase f i 16 i false true).2) := rfl
    generalize (chase f i 16 i false true).1 = z1 at *
    generalize (chase f i 16 i false true).2 = z2 at *
    rw [hz]
    generalize ((List.range 16).drop (i + 1)).countP (isCyc f) = q at *
    generalize arrF f = X at *
    clear ih hf hd hz hi hn
    cases z1
    · rw [show ((n + (q + if (false && z2) = true then 1 else 0) : Nat) : Int) = (n : Int) + q by simp]
      clear j1
      repeat (any_goals first | simp (dsimp := false) (maxSteps := 4000000) (maxDischargeDepth := 8) (implicitDefEqProofs := false) [*, -Int.not_le, -Int.not_lt, amLt, f7c, f7m3, f7m7, f7q8, f7q9, f7r0, f7r1, f7r2, f7r3, f7r4, f7r5, f7r6, f7r7, f7m13, f7m18, f7r10, f7r11, f7r12, f7r13, f7r14, f7r15, f7r16, f7r17, f7r18, f7r19, f7r20, f7r21, f7r22, f7r23, f7r24, f7r25, f7r26, f7l3_b, f7l7_b, f7r8_u, f7r8_w, f7r9_u, f7r9_w, f7l13_b, f7l18_b] | with_reducible refine ch_both (fun _ => ?_) (fun _ => ?_) | with_reducible refine ite_both (fun _ => ?_) (fun _ => ?_) | intro _)
    · cases z2
      · rw [show ((n + (q + if (true && false) = true then 1 else 0) : Nat) : Int) = (n : Int) + q by simp]
        clear j1
        repeat (any_goals first | simp (dsimp := false) (maxSteps := 4000000) (maxDischargeDepth := 8) (implicitDefEqProofs := false) [*, -Int.not_le, -Int.not_lt, amLt, f7c, f7m3, f7m7, f7q8, f7q9, f7r0, f7r1, f7r2, f7r3, f7r4, f7r5, f7r6, f7r7, f7m13, f7m18, f7r10, f7r11, f7r12, f7r13, f7r14, f7r15, f7r16, f7r17, f7r18, f7r19, f7r20, f7r21, f7r22, f7r23, f7r24, f7r25, f7r26, f7l3_b, f7l7_b, f7r8_u, f7r8_w, f7r9_u, f7r9_w, f7l13_b, f7l18_b] | with_reducible refine ch_both (fun _ => ?_) (fun _ => ?_) | with_reducible refine ite_both (fun _ => ?_) (fun _ => ?_) | intro _)
      · rw [show ((n + (q + if (true && true) = true then 1 else 0) : Nat) : Int) = (n : Int) + 1 + q by simp; omega]
        clear j2
        repeat (any_goals first | simp (dsimp := false) (maxSteps := 4000000) (maxDischargeDepth := 8) (implicitDefEqProofs := false) [*, -Int.not_le, -Int.not_lt, amLt, f7c, f7m3, f7m7, f7q8, f7q9, f7r0, f7r1, f7r2, f7r3, f7r4, f7r5, f7r6, f7r7, f7m13, f7m18, f7r10, f7r11, f7r12, f7r13, f7r14, f7r15, f7r16, f7r17, f7r18, f7r19, f7r20, f7r21, f7r22, f7r23, f7r24, f7r25, f7r26, f7l3_b, f7l7_b, f7r8_u, f7r8_w, f7r9_u, f7r9_w, f7l13_b, f7l18_b] | with_reducible refine ch_both (fun _ => ?_) (fun _ => ?_) | with_reducible refine ite_both (fun _ => ?_) (fun _ => ?_) | intro _)
theorem cycles_ok (h : Heap) (hl : l.length ≤ 16777216) (hr : ∀ m ∈ l, (0 ≤ m.1 ∧ m.1 ≤ 15) ∧ (0 ≤ m.2 ∧ m.2 ≤ 15)) (hn : (tos l).Nodup) : ∃ n : Nat, Ccall tab 7 [.is (mvRows l) c0] h = some (.int .i64 n, h) ∧ cyc (restM l) ≤ n ∧ n ≤ 16 := by
  have h0 : repeatCells 16 [.int .i64 0] = arrF fun _ => 0 := rfl
  have hf1 := cyc_fill (l := l) (c0 := .no) 16 0 (fun _ => 0) rfl
  have e1 : arrF (fun i => if ((0 : Nat) : Int) ≤ i ∧ i < 16 then -1 else 0) = arrF fun _ => -1 := by
    unfold arrF
    apply List.map_congr_left
    intro i hi
    have := List.mem_range.1 hi
    dsimp only
    rw [if_pos (by omega)]
  rw [e1] at hf1
  obtain ⟨E', hf2⟩ := cyc_read (c0 := .no) hl hr l 0 (fun _ => -1) [] rfl (by omega)
  have hInR : InR (restM l) := fun m hm => hr m (List.mem_filter.1 hm).1
  have hfs : ∀ i, frF (fun _ => -1) l i = (src (restM l) i).getD (-1) := fun i => frF_src l _ i hn
  have hfe : frF (fun _ => -1) l = fun i => (src (restM l) i).getD (-1) := funext hfs
  rw [hfe] at hf2
  have hb : ∀ t, 0 ≤ t → t ≤ 15 → (src (restM l) t).getD (-1) ≤ 15 := fun t _ _ => by
    cases hs : src (restM l) t with
    | none => simp
    | some x => have := hInR _ (src_some hs); simpa using this.2.2
  have hf3 := cyc_count (fun i => (src (restM l) i).getD (-1)) hb 16 0 0 rfl (Nat.le_refl _)
  simp only [Nat.zero_add, List.drop_zero, Int.natCast_zero] at hf1 hf2 hf3
  refine ⟨(List.range 16).countP (isCyc fun i => (src (restM l) i).getD (-1)), ?_, cyc_le hInR, by have := List.countP_le_length (p := isCyc fun i => (src (restM l) i).getD (-1)) (l := List.range 16); simpa using this⟩
  have hroom : roomy 16 8 = true := rfl
  refine Ccall_own rfl rfl rfl rfl ?_
  generalize (List.range 16).countP (isCyc fun i => (src (restM l) i).getD (-1)) = q at *
  generalize arrF (fun i => (src (restM l) i).getD (-1)) = F3 at *
  generalize arrF (fun _ => -1) = F2 at *
  generalize arrF (fun _ => 0) = F1 at *
  generalize mvRows l = X at *
  clear hl hr hn e1 hInR hfs hfe hb
  repeat (any_goals first | simp (dsimp := false) (maxSteps := 4000000) (maxDischargeDepth := 8) (implicitDefEqProofs := false) [*, -Int.not_le, -Int.not_lt, amLt, f7c, f7m3, f7m7, f7q8, f7q9, f7r0, f7r1, f7r2, f7r3, f7r4, f7r5, f7r6, f7r7, f7m13, f7m18, f7r10, f7r11, f7r12, f7r13, f7r14, f7r15, f7r16, f7r17, f7r18, f7r19, f7r20, f7r21, f7r22, f7r23, f7r24, f7r25, f7r26, f7l3_b, f7l7_b, f7r8_u, f7r8_w, f7r9_u, f7r9_w, f7l13_b, f7l18_b] | with_reducible refine ch_both (fun _ => ?_) (fun _ => ?_) | with_reducible refine ite_both (fun _ => ?_) (fun _ => ?_) | intro _)
end

end Go.Proofs.Ytfhijkapcdmdnaa
