/- Moves: the loops of the law. -/
import Derived.Test.YtfhijkapcdmdnaaMl
import Derived.Test.YtfhijkapcdmdnaaAmW
namespace Go.Proofs.Ytfhijkapcdmdnaa
open Go.AM
set_option maxRecDepth 20000
set_option maxHeartbeats 4000000
set_option linter.unusedSimpArgs false
set_option linter.unusedVariables false
attribute [local congr] andF_cg onF_cg bthen_cg bkeep_cg bcond_cg guardV_cg putF_cg guardF_cg ite_cg stepsF_cg
attribute [local simp] Brun_skip Brun_exit Brun_ret Brun_seq Brun_cond Brun_block Brun_region bthen_normal bthen_ret bthen_exit bblock_normal bblock_ret bblock_exit bkeep_some andF_some onF_some onF_none guardF_none guardF_some guardV_tup putF_some putF_none stepsF_nil stepsF_cons upd_apply ofL_cons ofL_nil bown_normal bown_ret banswer_normal banswer_ret aresults ares List.replicate stepF_call stepF_callD stepF_move stepF_pick stepF_alloc stepF_allocV stepF_box stepF_boxV stepF_build stepF_buildSlice stepF_buildSliceV stepF_load stepF_store stepF_nilCheck stepF_bin stepF_eq stepF_un stepF_conv stepF_strId strIdV_str strIdV_int stepF_toStr stepF_toBytes stepF_fn stepF_mkSlice stepF_slice stepF_strSlice stepF_fieldAddr stepF_field stepF_idxAddr stepF_idxArr stepF_index stepF_strIndex stepF_extract stepF_len0 stepF_len1 stepF_min stepF_max stepF_append stepF_appendF appF_none appF_row stepF_mkMap stepF_mkIface stepF_lookup stepF_mapUpdate stepF_ext aext_idx aext_count aext_same cellsF newF abin_add abin_sub abin_mul abin_quo abin_rem abin_eql abin_neq abin_lss abin_leq abin_gtr abin_geq abin_and abin_or abin_xor abin_shl abin_shr abin_seql abin_sneq aun_not aun_neg aeq_bool aeq_agg eqCells_nil eqCells_int eqCells_bool eqCells_str cellsOf_agg cellsOf_int cellsOf_bool cellsOf_str cellsOf_is cellsOf_ms cellsOf_fn cellsOf_nilp cellsOf_mp cellsOf_mm cellsOf_nilm cellsOf_nili cellsOf_ifc cellsOf_ip cget_one cget_agg ev_t ev_c fillp_nil fillp_cons isSc_int isSc_bool isSc_str isSc_is isSc_ms isSc_fn isSc_mm isSc_mp isSc_ip isSc_nilp isSc_nilm isSc_nili isSc_nilf isSc_ifc splice chunk strip strip.stripL imm imm.immL Areify_int Areify_bool Areify_str Areify_is Areify_nilp Areify_tup Areify_agg AreifyL andF_chi andF_ch onF_chi onF_ch bthen_ch bthen_chi bblock_ch bblock_chi bkeep_ch bkeep_chi bown_ch bown_chi banswer_ch banswer_chi isSome_ch bcond_ch guardV_ch1 guardV_ch0 chF_true chF_false chF_not
attribute [local simp ↓] andF_some andF_chi andF_ch onF_some onF_none onF_chi onF_ch bthen_normal bthen_ret bthen_exit bthen_ch bthen_chi bblock_normal bblock_ret bblock_exit bblock_ch bblock_chi bkeep_some bkeep_ch bkeep_chi bown_normal bown_ret bown_ch bown_chi banswer_normal banswer_ret banswer_ch banswer_chi bcond_ch guardV_ch1 guardV_ch0 guardV_tup guardF_none guardF_some putF_some putF_none stepsF_nil stepsF_cons chF_true chF_false Brun_seq Brun_cond Brun_block Brun_region Brun_skip Brun_ret Brun_exit stepF_call stepF_callD stepF_move stepF_pick stepF_alloc stepF_allocV stepF_box stepF_boxV stepF_build stepF_buildSlice stepF_buildSliceV stepF_load stepF_store stepF_nilCheck stepF_bin stepF_eq stepF_un stepF_conv stepF_strId stepF_toStr stepF_toBytes stepF_fn stepF_mkSlice stepF_slice stepF_strSlice stepF_fieldAddr stepF_field stepF_idxAddr stepF_idxArr stepF_index stepF_strIndex stepF_extract stepF_len0 stepF_len1 stepF_min stepF_max stepF_append stepF_appendF stepF_mkMap stepF_mkIface stepF_lookup stepF_mapUpdate stepF_ext
set_option maxHeartbeats 4000000
/-! Moves done one after the other come to what they come to at one time. -/
def wF : (Int → Int) → List Mv → Int → Int
  | f, [] => f
  | f, m :: r => wF (fun i => if i = m.1 then m.2 else f i) r
theorem wF_src : ∀ (r : List Mv) (f : Int → Int) (i : Int), (tos r).Nodup → (∀ m ∈ r, f m.1 = m.1) → wF f r i = (src (restM r) i).getD (f i) := by
  intro r
  induction r with
  | nil => intro f i _ _; rfl
  | cons m r ih =>
    intro f i hn hf
    simp only [tos, List.map_cons, List.nodup_cons] at hn
    have hf2 : ∀ q ∈ r, (fun i => if i = m.1 then m.2 else f i) q.1 = q.1 := fun q hq => by
      have : q.1 ≠ m.1 := fun e => hn.1 (List.mem_map.2 ⟨q, hq, e⟩)
      dsimp only
      rw [if_neg this]
      exact hf q (List.mem_cons_of_mem _ hq)
    simp only [wF]
    rw [ih _ i hn.2 hf2, restM_cons]
    by_cases c : self m = true
    · rw [if_pos c]
      have hs : m.1 = m.2 := by simpa [self] using c
      by_cases e : i = m.1
      · rw [if_pos e, e, hf m (by simp), ← hs]
      · rw [if_neg e]
    · rw [if_neg c]
      by_cases e : i = m.1
      · subst e
        have h1 : src (restM r) m.1 = none := src_none fun h => by
          obtain ⟨x, hx, hq⟩ := List.mem_map.1 h
          exact hn.1 (List.mem_map.2 ⟨x, (List.mem_filter.1 hx).1, hq⟩)
        rw [h1, if_pos rfl]
        simp [src]
      · have h2 : src (m :: restM r) i = src (restM r) i := by
          unfold src
          rw [List.find?_cons_of_neg (by simpa using fun q => e q.symm)]
        rw [h2, if_neg e]
section
variable {l : List Mv} {sp : Int} {c0 co : Cap}
theorem law_same (v6 v7 : AV) (hl : l.length ≤ 16777216) (G : Heap) : ∀ (c i : Nat), i + c = l.length →
    ∃ E', Brun tab 170 (.loop f3l4) (ofL [(0, .is (mvRows l) c0), (1, .int .i64 sp), (5, .is (mvRows l) co), (6, v6), (7, v7), (8, .int .i64 i)]) G = some (.exit 0, ofL ((0, .is (mvRows l) c0) :: (1, .int .i64 sp) :: (5, .is (mvRows l) co) :: (6, v6) :: (7, v7) :: E'), G) := by
  have hml := mvRows_len l
  intro c
  induction c with
  | zero =>
    intro i hi
    have e2 : (l.length : Int) = i := by omega
    refine ⟨[(8, .int .i64 i), (28, .bool false)], ?_⟩
    rw [Brun_loop]
    clear hi
    repeat (any_goals first | simp (dsimp := false) (maxSteps := 4000000) (maxDischargeDepth := 8) (implicitDefEqProofs := false) [*, -Int.not_le, -Int.not_lt, amLt, f3c, f3m4, f3q5, f3r0, f3r1, f3r2, f3r3, f3r4, f3r6, f3r7, f3r8, f3r9, f3m14, f3m20, f3m26, f3m32, f3q21, f3q22, f3q29, f3q33, f3r10, f3r11, f3r12, f3r13, f3r14, f3r15, f3r16, f3r17, f3r18, f3r19, f3r20, f3r23, f3r24, f3r25, f3r26, f3r27, f3r28, f3r30, f3r31, f3r32, f3r34, f3r35, f3r36, f3l4_b, f3r5_u, f3r5_w, f3l14_b, f3l20_b, f3l26_b, f3l32_b, f3r21_u, f3r21_w, f3r22_u, f3r22_w, f3r29_u, f3r29_w, f3r33_u, f3r33_w] | with_reducible refine ch_both (fun _ => ?_) (fun _ => ?_) | with_reducible refine ite_both (fun _ => ?_) (fun _ => ?_) | intro _)
  | succ c ih =>
    intro i hi
    have hil : i < l.length := by omega
    obtain ⟨E', i1⟩ := ih (i + 1) (by omega)
    have hrow := mvRows_get (List.getElem?_eq_getElem hil)
    have hrow2 : ∀ hh : i < (mvRows l).length, (mvRows l)[i] = mvRow l[i] := fun hh => (List.getElem?_eq_some_iff.1 hrow).2
    have h1 : (i : Int) < l.length := by omega
    have e3 : ¬ (l.length : Int) ≤ i := by omega
    have hw := cw64 i (by omega)
    push_cast at i1
    refine ⟨E', ?_⟩
    rw [Brun_loop]
    unfold mvRow at *
    generalize l[i] = m at *
    generalize mvRows l = X at *
    clear ih hi hil
    repeat (any_goals first | simp (dsimp := false) (maxSteps := 4000000) (maxDischargeDepth := 8) (implicitDefEqProofs := false) [*, -Int.not_le, -Int.not_lt, amLt, f3c, f3m4, f3q5, f3r0, f3r1, f3r2, f3r3, f3r4, f3r6, f3r7, f3r8, f3r9, f3m14, f3m20, f3m26, f3m32, f3q21, f3q22, f3q29, f3q33, f3r10, f3r11, f3r12, f3r13, f3r14, f3r15, f3r16, f3r17, f3r18, f3r19, f3r20, f3r23, f3r24, f3r25, f3r26, f3r27, f3r28, f3r30, f3r31, f3r32, f3r34, f3r35, f3r36, f3l4_b, f3r5_u, f3r5_w, f3l14_b, f3l20_b, f3l26_b, f3l32_b, f3r21_u, f3r21_w, f3r22_u, f3r22_w, f3r29_u, f3r29_w, f3r33_u, f3r33_w] | with_reducible refine ch_both (fun _ => ?_) (fun _ => ?_) | with_reducible refine ite_both (fun _ => ?_) (fun _ => ?_) | intro _)
theorem law_fill (v0 v6 : AV) (t0 : Blk) : ∀ (c k : Nat), k + c = 16 → Brun tab 170 (.loop f3l14) (ofL [(0, v0), (1, .int .i64 sp), (6, v6), (9, .mp 1 0), (10, .mp 2 0), (11, .int .i64 k)]) [t0, .cells (arrF fun i => if i < k then i else 0), .cells (arrF fun i => if i < k then i else 0)] =
    some (.exit 2, ofL [(0, v0), (1, .int .i64 sp), (6, v6), (9, .mp 1 0), (10, .mp 2 0), (11, .int .i64 16), (57, .bool false)], [t0, .cells (arrF id), .cells (arrF id)]) := by
  intro c
  induction c with
  | zero =>
    intro k hk
    have e : k = 16 := by omega
    subst e
    have e2 : arrF (fun i => if i < ((16 : Nat) : Int) then i else 0) = arrF id := by
      unfold arrF
      apply List.map_congr_left
      intro i hi
      have := List.mem_range.1 hi
      dsimp only
      rw [if_pos (by omega)]; rfl
    rw [e2, Brun_loop]
    generalize arrF id = X at *
    clear e2
    repeat (any_goals first | simp (dsimp := false) (maxSteps := 4000000) (maxDischargeDepth := 8) (implicitDefEqProofs := false) [*, -Int.not_le, -Int.not_lt, amLt, f3c, f3m4, f3q5, f3r0, f3r1, f3r2, f3r3, f3r4, f3r6, f3r7, f3r8, f3r9, f3m14, f3m20, f3m26, f3m32, f3q21, f3q22, f3q29, f3q33, f3r10, f3r11, f3r12, f3r13, f3r14, f3r15, f3r16, f3r17, f3r18, f3r19, f3r20, f3r23, f3r24, f3r25, f3r26, f3r27, f3r28, f3r30, f3r31, f3r32, f3r34, f3r35, f3r36, f3l4_b, f3r5_u, f3r5_w, f3l14_b, f3l20_b, f3l26_b, f3l32_b, f3r21_u, f3r21_w, f3r22_u, f3r22_w, f3r29_u, f3r29_w, f3r33_u, f3r33_w] | with_reducible refine ch_both (fun _ => ?_) (fun _ => ?_) | with_reducible refine ite_both (fun _ => ?_) (fun _ => ?_) | intro _)
  | succ c ih =>
    intro k hk
    have i1 := ih (k + 1) (by omega)
    have hs := arrF_set (f := fun i => if i < (k : Int) then i else 0) (t := k) k (by omega)
    have e2 : arrF (fun i => if i = (k : Int) then (k : Int) else if i < (k : Int) then i else 0) = arrF fun i => if i < ((k + 1 : Nat) : Int) then i else 0 := by
      congr 1
      funext i
      by_cases q : i = (k : Int)
      · rw [if_pos q, if_pos (by omega), q]
      · rw [if_neg q]
        by_cases q2 : i < (k : Int)
        · rw [if_pos q2, if_pos (by omega)]
        · rw [if_neg q2, if_neg (by omega)]
    rw [Int.toNat_natCast, e2] at hs
    have hl := arrF_len (fun i => if i < (k : Int) then i else 0)
    have h1 : (k : Int) < 16 := by omega
    have e3 : ¬ (16 : Int) ≤ k := by omega
    have h4 : k + 1 ≤ 16 := by omega
    have hw := cw64 k (by omega)
    generalize arrF (fun i => if i < ((k + 1 : Nat) : Int) then i else 0) = F2 at *
    generalize arrF (fun i => if i < (k : Int) then i else 0) = F1 at *
    generalize arrF id = F3 at *
    push_cast at i1
    rw [Brun_loop]
    clear ih hk e2
    repeat (any_goals first | simp (dsimp := false) (maxSteps := 4000000) (maxDischargeDepth := 8) (implicitDefEqProofs := false) [*, -Int.not_le, -Int.not_lt, amLt, f3c, f3m4, f3q5, f3r0, f3r1, f3r2, f3r3, f3r4, f3r6, f3r7, f3r8, f3r9, f3m14, f3m20, f3m26, f3m32, f3q21, f3q22, f3q29, f3q33, f3r10, f3r11, f3r12, f3r13, f3r14, f3r15, f3r16, f3r17, f3r18, f3r19, f3r20, f3r23, f3r24, f3r25, f3r26, f3r27, f3r28, f3r30, f3r31, f3r32, f3r34, f3r35, f3r36, f3l4_b, f3r5_u, f3r5_w, f3l14_b, f3l20_b, f3l26_b, f3l32_b, f3r21_u, f3r21_w, f3r22_u, f3r22_w, f3r29_u, f3r29_w, f3r33_u, f3r33_w] | with_reducible refine ch_both (fun _ => ?_) (fun _ => ?_) | with_reducible refine ite_both (fun _ => ?_) (fun _ => ?_) | intro _)
theorem law_want (v6 : AV) (c0 : Cap) (t0 : Blk) (RG : List AV) (hl : l.length ≤ 16777216) (hr : ∀ m ∈ l, (0 ≤ m.1 ∧ m.1 ≤ 15) ∧ (0 ≤ m.2 ∧ m.2 ≤ 15)) : ∀ (r : List Mv) (i : Nat) (f : Int → Int) (n : Nat), l.drop i = r → i ≤ l.length → n ≤ i + 16 →
    ∃ E', Brun tab 170 (.loop f3l20) (ofL [(0, .is (mvRows l) c0), (1, .int .i64 sp), (6, v6), (9, .mp 1 0), (10, .mp 2 0), (12, .int .i64 n), (13, .int .i64 i)]) [t0, .cells RG, .cells (arrF f)] =
      some (.exit 4, ofL ((0, .is (mvRows l) c0) :: (1, .int .i64 sp) :: (6, v6) :: (9, .mp 1 0) :: (10, .mp 2 0) :: (12, .int .i64 ((n + r.countP (fun m => !self m) : Nat) : Int)) :: E'), [t0, .cells RG, .cells (arrF (wF f r))]) := by
  have hml := mvRows_len l
  intro r
  induction r with
  | nil =>
    intro i f n hd hi hn
    have hlen := congrArg List.length hd
    simp only [List.length_drop, List.length_nil] at hlen
    have e2 : (l.length : Int) = i := by omega
    refine ⟨[(13, .int .i64 i), (71, .bool false)], ?_⟩
    rw [Brun_loop]
    simp only [wF, List.countP_nil, Nat.add_zero]
    generalize arrF f = F1 at *
    clear hl hr hd hi hlen hn
    repeat (any_goals first | simp (dsimp := false) (maxSteps := 4000000) (maxDischargeDepth := 8) (implicitDefEqProofs := false) [*, -Int.not_le, -Int.not_lt, amLt, f3c, f3m4, f3q5, f3r0, f3r1, f3r2, f3r3, f3r4, f3r6, f3r7, f3r8, f3r9, f3m14, f3m20, f3m26, f3m32, f3q21, f3q22, f3q29, f3q33, f3r10, f3r11, f3r12, f3r13, f3r14, f3r15, f3r16, f3r17, f3r18, f3r19, f3r20, f3r23, f3r24, f3r25, f3r26, f3r27, f3r28, f3r30, f3r31, f3r32, f3r34, f3r35, f3r36, f3l4_b, f3r5_u, f3r5_w, f3l14_b, f3l20_b, f3l26_b, f3l32_b, f3r21_u, f3r21_w, f3r22_u, f3r22_w, f3r29_u, f3r29_w, f3r33_u, f3r33_w] | with_reducible refine ch_both (fun _ => ?_) (fun _ => ?_) | with_reducible refine ite_both (fun _ => ?_) (fun _ => ?_) | intro _)
  | cons m r ih =>
    intro i f n hd hi hn
    have hlen := congrArg List.length hd
    simp only [List.length_drop, List.length_cons] at hlen
    have hg : l[i]? = some m := by
      have := congrArg (·[0]?) hd
      simpa using this
    have htl : l.drop (i + 1) = r := by
      have := congrArg List.tail hd
      simpa using this
    obtain ⟨b1, b2⟩ := hr m (List.mem_of_getElem? hg)
    have hrow := mvRows_get hg
    have hrow2 : ∀ hh : i < (mvRows l).length, (mvRows l)[i] = mvRow m := fun hh => (List.getElem?_eq_some_iff.1 hrow).2
    have h1 : (i : Int) < l.length := by omega
    have e3 : ¬ (l.length : Int) ≤ i := by omega
    have hw := cw64 i (by omega)
    have hwn := cw64 n (by omega)
    have hs := arrF_set (f := f) (t := m.1) m.2 b1
    have hfl := arrF_len f
    obtain ⟨b3, b4⟩ := b1
    have b5 : m.1 < 16 := by omega
    have b6 : m.1.toNat + 1 ≤ 16 := by omega
    simp only [wF]
    by_cases cs : m.1 = m.2
    · obtain ⟨E', i1⟩ := ih (i + 1) (fun j => if j = m.1 then m.2 else f j) n htl (by omega) (by omega)
      refine ⟨E', ?_⟩
      rw [List.countP_cons, show (!self m) = false by simp [self, cs]]
      simp only [Bool.false_eq_true, if_false, Nat.add_zero]
      generalize r.countP (fun m => !self m) = q at *
      push_cast at i1
      rw [Brun_loop]
      unfold mvRow at *
      obtain ⟨ma, mb⟩ := m
      dsimp only at *
      subst cs
      generalize arrF (wF (fun j => if j = ma then ma else f j) r) = F3 at *
      generalize arrF (fun j => if j = ma then ma else f j) = F2 at *
      generalize arrF f = F1 at *
      generalize mvRows l = X at *
      clear ih hl hr hd hi hlen hg htl hn
      repeat (any_goals first | simp (dsimp := false) (maxSteps := 4000000) (maxDischargeDepth := 8) (implicitDefEqProofs := false) [*, -Int.not_le, -Int.not_lt, amLt, f3c, f3m4, f3q5, f3r0, f3r1, f3r2, f3r3, f3r4, f3r6, f3r7, f3r8, f3r9, f3m14, f3m20, f3m26, f3m32, f3q21, f3q22, f3q29, f3q33, f3r10, f3r11, f3r12, f3r13, f3r14, f3r15, f3r16, f3r17, f3r18, f3r19, f3r20, f3r23, f3r24, f3r25, f3r26, f3r27, f3r28, f3r30, f3r31, f3r32, f3r34, f3r35, f3r36, f3l4_b, f3r5_u, f3r5_w, f3l14_b, f3l20_b, f3l26_b, f3l32_b, f3r21_u, f3r21_w, f3r22_u, f3r22_w, f3r29_u, f3r29_w, f3r33_u, f3r33_w] | with_reducible refine ch_both (fun _ => ?_) (fun _ => ?_) | with_reducible refine ite_both (fun _ => ?_) (fun _ => ?_) | intro _)
    · obtain ⟨E', i1⟩ := ih (i + 1) (fun j => if j = m.1 then m.2 else f j) (n + 1) htl (by omega) (by omega)
      refine ⟨E', ?_⟩
      rw [List.countP_cons, show (!self m) = true by simp [self, cs]]
      simp only [if_true]
      rw [show n + (r.countP (fun m => !self m) + 1) = n + 1 + r.countP (fun m => !self m) by omega]
      generalize r.countP (fun m => !self m) = q at *
      push_cast at i1
      rw [Brun_loop]
      unfold mvRow at *
      generalize arrF (wF (fun j => if j = m.1 then m.2 else f j) r) = F3 at *
      generalize arrF (fun j => if j = m.1 then m.2 else f j) = F2 at *
      generalize arrF f = F1 at *
      generalize mvRows l = X at *
      clear ih hl hr hd hi hlen hg htl hn
      repeat (any_goals first | simp (dsimp := false) (maxSteps := 4000000) (maxDischargeDepth := 8) (implicitDefEqProofs := false) [*, -Int.not_le, -Int.not_lt, amLt, f3c, f3m4, f3q5, f3r0, f3r1, f3r2, f3r3, f3r4, f3r6, f3r7, f3r8, f3r9, f3m14, f3m20, f3m26, f3m32, f3q21, f3q22, f3q29, f3q33, f3r10, f3r11, f3r12, f3r13, f3r14, f3r15, f3r16, f3r17, f3r18, f3r19, f3r20, f3r23, f3r24, f3r25, f3r26, f3r27, f3r28, f3r30, f3r31, f3r32, f3r34, f3r35, f3r36, f3l4_b, f3r5_u, f3r5_w, f3l14_b, f3l20_b, f3l26_b, f3l32_b, f3r21_u, f3r21_w, f3r22_u, f3r22_w, f3r29_u, f3r29_w, f3r33_u, f3r33_w] | with_reducible refine ch_both (fun _ => ?_) (fun _ => ?_) | with_reducible refine ite_both (fun _ => ?_) (fun _ => ?_) | intro _)
theorem law_run (c0 : Cap) (v12 : AV) (t0 : Blk) (WG : List AV) (hl : l.length ≤ 16777216) (hr : InR l) : ∀ (r : List Mv) (i : Nat) (f : Int → Int) (E : List (Nat × AV)), l.drop i = r → i ≤ l.length →
    ∃ E', Brun tab 170 (.loop f3l26) (ofL ((1, .int .i64 sp) :: (6, .is (mvRows l) c0) :: (9, .mp 1 0) :: (10, .mp 2 0) :: (12, v12) :: (14, .int .i64 i) :: E)) [t0, .cells (arrF f), .cells WG] =
      some (.exit 6, ofL ((1, .int .i64 sp) :: (6, .is (mvRows l) c0) :: (9, .mp 1 0) :: (10, .mp 2 0) :: (12, v12) :: E'), [t0, .cells (arrF (runM f r)), .cells WG]) := by
  have hml := mvRows_len l
  intro r
  induction r with
  | nil =>
    intro i f E hd hi
    have hlen := congrArg List.length hd
    simp only [List.length_drop, List.length_nil] at hlen
    have e2 : (l.length : Int) = i := by omega
    refine ⟨[(14, .int .i64 i), (101, .bool false)], ?_⟩
    rw [Brun_loop]
    simp only [runM]
    generalize arrF f = F1 at *
    clear hl hr hd hi hlen
    repeat (any_goals first | simp (dsimp := false) (maxSteps := 4000000) (maxDischargeDepth := 8) (implicitDefEqProofs := false) [*, -Int.not_le, -Int.not_lt, amLt, f3c, f3m4, f3q5, f3r0, f3r1, f3r2, f3r3, f3r4, f3r6, f3r7, f3r8, f3r9, f3m14, f3m20, f3m26, f3m32, f3q21, f3q22, f3q29, f3q33, f3r10, f3r11, f3r12, f3r13, f3r14, f3r15, f3r16, f3r17, f3r18, f3r19, f3r20, f3r23, f3r24, f3r25, f3r26, f3r27, f3r28, f3r30, f3r31, f3r32, f3r34, f3r35, f3r36, f3l4_b, f3r5_u, f3r5_w, f3l14_b, f3l20_b, f3l26_b, f3l32_b, f3r21_u, f3r21_w, f3r22_u, f3r22_w, f3r29_u, f3r29_w, f3r33_u, f3r33_w] | with_reducible refine ch_both (fun _ => ?_) (fun _ => ?_) | with_reducible refine ite_both (fun _ => ?_) (fun _ => ?_) | intro _)
  | cons m r ih =>
    intro i f E hd hi
    have hlen := congrArg List.length hd
    simp only [List.length_drop, List.length_cons] at hlen
    have hg : l[i]? = some m := by
      have := congrArg (·[0]?) hd
      simpa using this
    have htl : l.drop (i + 1) = r := by
      have := congrArg List.tail hd
      simpa using this
    obtain ⟨b1, b2⟩ := hr m (List.mem_of_getElem? hg)
    have hrow := mvRows_get hg
    have hrow2 : ∀ hh : i < (mvRows l).length, (mvRows l)[i] = mvRow m := fun hh => (List.getElem?_eq_some_iff.1 hrow).2
    have h1 : (i : Int) < l.length := by omega
    have e3 : ¬ (l.length : Int) ≤ i := by omega
    have hw := cw64 i (by omega)
    have hs := arrF_set (f := f) (t := m.1) (f m.2) b1
    have hfl := arrF_len f
    have hgt := arrF_get (f := f) (t := m.2) b2
    have hgt2 : ∀ hh : m.2.toNat < (arrF f).length, (arrF f)[m.2.toNat] = .int .i64 (f m.2) := fun hh => (List.getElem?_eq_some_iff.1 hgt).2
    obtain ⟨b3, b4⟩ := b1
    obtain ⟨b7, b8⟩ := b2
    have b5 : m.1 < 16 := by omega
    have b6 : m.1.toNat + 1 ≤ 16 := by omega
    have b9 : m.2 < 16 := by omega
    have d1 : ¬ m.1 < 0 := by omega
    have d2 : ¬ 15 < m.1 := by omega
    have d3 : ¬ m.2 < 0 := by omega
    have d4 : ¬ 15 < m.2 := by omega
    simp only [runM]
    have hset : setR f m = fun i => if i = m.1 then f m.2 else f i := rfl
    rw [hset]
    obtain ⟨E', i1⟩ := ih (i + 1) (fun j => if j = m.1 then f m.2 else f j) [] htl (by omega)
    refine ⟨E', ?_⟩
    push_cast at i1
    rw [Brun_loop]
    unfold mvRow at *
    generalize arrF (runM (fun j => if j = m.1 then f m.2 else f j) r) = F3 at *
    generalize arrF (fun j => if j = m.1 then f m.2 else f j) = F2 at *
    generalize f m.2 = y at *
    generalize arrF f = F1 at *
    generalize mvRows l = X at *
    clear ih hl hr hd hi hlen hg htl hset
    repeat (any_goals first | simp (dsimp := false) (maxSteps := 4000000) (maxDischargeDepth := 8) (implicitDefEqProofs := false) [*, -Int.not_le, -Int.not_lt, amLt, f3c, f3m4, f3q5, f3r0, f3r1, f3r2, f3r3, f3r4, f3r6, f3r7, f3r8, f3r9, f3m14, f3m20, f3m26, f3m32, f3q21, f3q22, f3q29, f3q33, f3r10, f3r11, f3r12, f3r13, f3r14, f3r15, f3r16, f3r17, f3r18, f3r19, f3r20, f3r23, f3r24, f3r25, f3r26, f3r27, f3r28, f3r30, f3r31, f3r32, f3r34, f3r35, f3r36, f3l4_b, f3r5_u, f3r5_w, f3l14_b, f3l20_b, f3l26_b, f3l32_b, f3r21_u, f3r21_w, f3r22_u, f3r22_w, f3r29_u, f3r29_w, f3r33_u, f3r33_w] | with_reducible refine ch_both (fun _ => ?_) (fun _ => ?_) | with_reducible refine ite_both (fun _ => ?_) (fun _ => ?_) | intro _)
theorem law_eq (v6 v12 : AV) (t0 : Blk) (f g : Int → Int) (hfg : ∀ i, 0 ≤ i → i ≤ 15 → i ≠ sp → f i = g i) : ∀ (c k : Nat) (E : List (Nat × AV)), k + c = 16 →
    ∃ E', Brun tab 170 (.loop f3l32) (ofL ((1, .int .i64 sp) :: (6, v6) :: (9, .mp 1 0) :: (10, .mp 2 0) :: (12, v12) :: (15, .int .i64 k) :: E)) [t0, .cells (arrF f), .cells (arrF g)] =
      some (.exit 8, ofL ((1, .int .i64 sp) :: (6, v6) :: (9, .mp 1 0) :: (10, .mp 2 0) :: (12, v12) :: E'), [t0, .cells (arrF f), .cells (arrF g)]) := by
  intro c
  induction c with
  | zero =>
    intro k E hk
    have e : (k : Int) = 16 := by omega
    refine ⟨[(15, .int .i64 16), (148, .bool false)], ?_⟩
    rw [Brun_loop]
    generalize arrF f = F1 at *
    generalize arrF g = F2 at *
    clear hfg hk
    rw [e]
    repeat (any_goals first | simp (dsimp := false) (maxSteps := 4000000) (maxDischargeDepth := 8) (implicitDefEqProofs := false) [*, -Int.not_le, -Int.not_lt, amLt, f3c, f3m4, f3q5, f3r0, f3r1, f3r2, f3r3, f3r4, f3r6, f3r7, f3r8, f3r9, f3m14, f3m20, f3m26, f3m32, f3q21, f3q22, f3q29, f3q33, f3r10, f3r11, f3r12, f3r13, f3r14, f3r15, f3r16, f3r17, f3r18, f3r19, f3r20, f3r23, f3r24, f3r25, f3r26, f3r27, f3r28, f3r30, f3r31, f3r32, f3r34, f3r35, f3r36, f3l4_b, f3r5_u, f3r5_w, f3l14_b, f3l20_b, f3l26_b, f3l32_b, f3r21_u, f3r21_w, f3r22_u, f3r22_w, f3r29_u, f3r29_w, f3r33_u, f3r33_w] | with_reducible refine ch_both (fun _ => ?_) (fun _ => ?_) | with_reducible refine ite_both (fun _ => ?_) (fun _ => ?_) | intro _)
  | succ c ih =>
    intro k E hk
    obtain ⟨E', i1⟩ := ih (k + 1) [] (by omega)
    have h1 : (k : Int) < 16 := by omega
    have e3 : ¬ (16 : Int) ≤ k := by omega
    have hw := cw64 k (by omega)
    have g1 := arrF_get (f := f) (t := k) (by omega)
    have g2 := arrF_get (f := g) (t := k) (by omega)
    rw [Int.toNat_natCast] at g1 g2
    have hl1 := arrF_len f
    have hl2 := arrF_len g
    have g11 : ∀ hh : k < (arrF f).length, (arrF f)[k] = .int .i64 (f k) := fun hh => (List.getElem?_eq_some_iff.1 g1).2
    have g22 : ∀ hh : k < (arrF g).length, (arrF g)[k] = .int .i64 (g k) := fun hh => (List.getElem?_eq_some_iff.1 g2).2
    refine ⟨E', ?_⟩
    push_cast at i1
    rw [Brun_loop]
    by_cases c1 : (k : Int) = sp
    · generalize arrF f = F1 at *
      generalize arrF g = F2 at *
      clear ih hk hfg g1 g2 g11 g22
      subst c1
      repeat (any_goals first | simp (dsimp := false) (maxSteps := 4000000) (maxDischargeDepth := 8) (implicitDefEqProofs := false) [*, -Int.not_le, -Int.not_lt, amLt, f3c, f3m4, f3q5, f3r0, f3r1, f3r2, f3r3, f3r4, f3r6, f3r7, f3r8, f3r9, f3m14, f3m20, f3m26, f3m32, f3q21, f3q22, f3q29, f3q33, f3r10, f3r11, f3r12, f3r13, f3r14, f3r15, f3r16, f3r17, f3r18, f3r19, f3r20, f3r23, f3r24, f3r25, f3r26, f3r27, f3r28, f3r30, f3r31, f3r32, f3r34, f3r35, f3r36, f3l4_b, f3r5_u, f3r5_w, f3l14_b, f3l20_b, f3l26_b, f3l32_b, f3r21_u, f3r21_w, f3r22_u, f3r22_w, f3r29_u, f3r29_w, f3r33_u, f3r33_w] | with_reducible refine ch_both (fun _ => ?_) (fun _ => ?_) | with_reducible refine ite_both (fun _ => ?_) (fun _ => ?_) | intro _)
    · have hk2 := hfg k (by omega) (by omega) c1
      rw [hk2] at g1 g11
      generalize g k = y at *
      generalize arrF f = F1 at *
      generalize arrF g = F2 at *
      clear ih hk hfg hk2
      repeat (any_goals first | simp (dsimp := false) (maxSteps := 4000000) (maxDischargeDepth := 8) (implicitDefEqProofs := false) [*, -Int.not_le, -Int.not_lt, amLt, f3c, f3m4, f3q5, f3r0, f3r1, f3r2, f3r3, f3r4, f3r6, f3r7, f3r8, f3r9, f3m14, f3m20, f3m26, f3m32, f3q21, f3q22, f3q29, f3q33, f3r10, f3r11, f3r12, f3r13, f3r14, f3r15, f3r16, f3r17, f3r18, f3r19, f3r20, f3r23, f3r24, f3r25, f3r26, f3r27, f3r28, f3r30, f3r31, f3r32, f3r34, f3r35, f3r36, f3l4_b, f3r5_u, f3r5_w, f3l14_b, f3l20_b, f3l26_b, f3l32_b, f3r21_u, f3r21_w, f3r22_u, f3r22_w, f3r29_u, f3r29_w, f3r33_u, f3r33_w] | with_reducible refine ch_both (fun _ => ?_) (fun _ => ?_) | with_reducible refine ite_both (fun _ => ?_) (fun _ => ?_) | intro _)
end

end Go.Proofs.Ytfhijkapcdmdnaa
