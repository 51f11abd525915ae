/- Moves: all of them. -/
import Derived.Test.YtfhijkapcdmdnaaMh
import Derived.Test.YtfhijkapcdmdnaaAmW
namespace Go.Proofs.Ytfhijkapcdmdnaa
open Go.AM
set_option maxRecDepth 20000
set_option maxHeartbeats 4000000
set_option linter.unusedSimpArgs false
set_option linter.unusedVariables false
attribute [local congr] andF_cg onF_cg bthen_cg bkeep_cg bcond_cg guardV_cg putF_cg guardF_cg ite_cg stepsF_cg
attribute [local simp] Brun_skip Brun_exit Brun_ret Brun_seq Brun_cond Brun_block Brun_region bthen_normal bthen_ret bthen_exit bblock_normal bblock_ret bblock_exit bkeep_some andF_some onF_some onF_none guardF_none guardF_some guardV_tup putF_some putF_none stepsF_nil stepsF_cons upd_apply ofL_cons ofL_nil bown_normal bown_ret banswer_normal banswer_ret aresults ares List.replicate stepF_call stepF_callD stepF_move stepF_pick stepF_alloc stepF_allocV stepF_box stepF_boxV stepF_build stepF_buildSlice stepF_buildSliceV stepF_load stepF_store stepF_nilCheck stepF_bin stepF_eq stepF_un stepF_conv stepF_strId strIdV_str strIdV_int stepF_toStr stepF_toBytes stepF_fn stepF_mkSlice stepF_slice stepF_strSlice stepF_fieldAddr stepF_field stepF_idxAddr stepF_idxArr stepF_index stepF_strIndex stepF_extract stepF_len0 stepF_len1 stepF_min stepF_max stepF_append stepF_appendF appF_none appF_row stepF_mkMap stepF_mkIface stepF_lookup stepF_mapUpdate stepF_ext aext_idx aext_count aext_same cellsF newF abin_add abin_sub abin_mul abin_quo abin_rem abin_eql abin_neq abin_lss abin_leq abin_gtr abin_geq abin_and abin_or abin_xor abin_shl abin_shr abin_seql abin_sneq aun_not aun_neg aeq_bool aeq_agg eqCells_nil eqCells_int eqCells_bool eqCells_str cellsOf_agg cellsOf_int cellsOf_bool cellsOf_str cellsOf_is cellsOf_ms cellsOf_fn cellsOf_nilp cellsOf_mp cellsOf_mm cellsOf_nilm cellsOf_nili cellsOf_ifc cellsOf_ip cget_one cget_agg ev_t ev_c fillp_nil fillp_cons isSc_int isSc_bool isSc_str isSc_is isSc_ms isSc_fn isSc_mm isSc_mp isSc_ip isSc_nilp isSc_nilm isSc_nili isSc_nilf isSc_ifc splice chunk strip strip.stripL imm imm.immL Areify_int Areify_bool Areify_str Areify_is Areify_nilp Areify_tup Areify_agg AreifyL andF_chi andF_ch onF_chi onF_ch bthen_ch bthen_chi bblock_ch bblock_chi bkeep_ch bkeep_chi bown_ch bown_chi banswer_ch banswer_chi isSome_ch bcond_ch guardV_ch1 guardV_ch0 chF_true chF_false chF_not
attribute [local simp ↓] andF_some andF_chi andF_ch onF_some onF_none onF_chi onF_ch bthen_normal bthen_ret bthen_exit bthen_ch bthen_chi bblock_normal bblock_ret bblock_exit bblock_ch bblock_chi bkeep_some bkeep_ch bkeep_chi bown_normal bown_ret bown_ch bown_chi banswer_normal banswer_ret banswer_ch banswer_chi bcond_ch guardV_ch1 guardV_ch0 guardV_tup guardF_none guardF_some putF_some putF_none stepsF_nil stepsF_cons chF_true chF_false Brun_seq Brun_cond Brun_block Brun_region Brun_skip Brun_ret Brun_exit stepF_call stepF_callD stepF_move stepF_pick stepF_alloc stepF_allocV stepF_box stepF_boxV stepF_build stepF_buildSlice stepF_buildSliceV stepF_load stepF_store stepF_nilCheck stepF_bin stepF_eq stepF_un stepF_conv stepF_strId stepF_toStr stepF_toBytes stepF_fn stepF_mkSlice stepF_slice stepF_strSlice stepF_fieldAddr stepF_field stepF_idxAddr stepF_idxArr stepF_index stepF_strIndex stepF_extract stepF_len0 stepF_len1 stepF_min stepF_max stepF_append stepF_appendF stepF_mkMap stepF_mkIface stepF_lookup stepF_mapUpdate stepF_ext
set_option maxHeartbeats 4000000
theorem flatM_from {K : List Mv} {i : Nat} {m : Mv} (h : K[i]? = some m) : (flatM K)[i * 2 + 1]? = some (.int .i64 m.2) ∧ (flatM K)[i * 2]? = some (.int .i64 m.1) := by
  have hat := flatM_at h
  have hl := flatM_len K
  have hi := (List.getElem?_eq_some_iff.1 h).1
  have g : ∀ j, j < 2 → (flatM K)[i * 2 + j]? = (mvRow m)[j]? := fun j hj => by
    rw [← hat, List.getElem?_take, if_pos hj, List.getElem?_drop]
  exact ⟨g 1 (by omega), g 0 (by omega)⟩
theorem flatM_set2 {K : List Mv} {i : Nat} {m : Mv} (h : K[i]? = some m) (x : Int) : (flatM K).take (i * 2 + 1) ++ .int .i64 x :: (flatM K).drop (i * 2 + 1 + 1) = flatM (K.set i (m.1, x)) := by
  have hi := (List.getElem?_eq_some_iff.1 h).1
  have hl := flatM_len K
  rw [← flatM_set hi (m.1, x)]
  have e1 : (flatM K).take (i * 2 + 1) = (flatM K).take (i * 2) ++ [.int .i64 m.1] := by
    rw [List.take_add_one, (flatM_from h).2]; rfl
  rw [e1, List.append_assoc]
  rfl
section
variable {sp : Int} {R cap : Nat} {ex : Bool}
theorem open_loop (f : Int) (n : Nat) (ov : AV) : ∀ (c i : Nat) (K : List Mv) (G : Heap), i + c = n → n ≤ K.length → K.length ≤ 16777216 → G[R]? = some (.cells (flatM K)) →
    ∃ G' K', (G.length ≤ G'.length ∧ ∀ k, k < G.length → k ≠ R → G'[k]? = G[k]?) ∧ G'[R]? = some (.cells (flatM K')) ∧ K'.length = K.length ∧ K'.take n = K.take i ++ openAt sp f ((K.take n).drop i) ∧
      Brun tab 71 (.loop f4l16) (ofL [(1, .int .i64 sp), (6, .ms R 0 n 2 cap ex), (7, ov), (10, .int .i64 f), (53, .int .i64 n), (54, .int .i64 i)]) G = some (.exit 4, ofL [(1, .int .i64 sp), (6, .ms R 0 n 2 cap ex), (7, ov), (10, .int .i64 f), (53, .int .i64 n), (54, .int .i64 n), (55, .bool false)], G') := by
  intro c
  induction c with
  | zero =>
    intro i K G hi hn hK hG
    have e : i = n := by omega
    subst e
    refine ⟨G, K, ⟨Nat.le_refl _, fun _ _ _ => rfl⟩, hG, rfl, by rw [List.drop_eq_nil_of_le (by rw [List.length_take]; omega)]; simp [openAt], ?_⟩
    rw [Brun_loop]
    clear hn hK hG
    repeat (any_goals first | simp (dsimp := false) (maxSteps := 4000000) (maxDischargeDepth := 8) (implicitDefEqProofs := false) [*, -Int.not_le, -Int.not_lt, amLt, f4c, f4m5, f4m7, f4r0, f4r1, f4r2, f4r3, f4r4, f4r5, f4r6, f4r7, f4r8, f4r9, f4m16, f4r10, f4r11, f4r12, f4r13, f4r14, f4r15, f4r16, f4r17, f4r18, f4r19, f4r20, f4r21, f4l5_b, f4l7_b, f4l16_b] | with_reducible refine ch_both (fun _ => ?_) (fun _ => ?_) | with_reducible refine ite_both (fun _ => ?_) (fun _ => ?_) | intro _)
  | succ c ih =>
    intro i K G hi hn hK hG
    have hil : i < K.length := by omega
    have hm : K[i]? = some K[i] := List.getElem?_eq_getElem hil
    have lR := (List.getElem?_eq_some_iff.1 hG).1
    obtain ⟨f1, f2⟩ := flatM_from hm
    have hset := flatM_set2 hm sp
    have hfl := flatM_len K
    have hle : i * 2 + 1 < (flatM K).length := by omega
    have hle2 : i * 2 + 1 + 1 ≤ (flatM K).length := by omega
    have hf1 : ∀ hh : i * 2 + 1 < (flatM K).length, (flatM K)[i * 2 + 1] = .int .i64 K[i].2 := fun hh => (List.getElem?_eq_some_iff.1 f1).2
    have h1 : (i : Int) < n := by omega
    have e3 : ¬ (n : Int) ≤ i := by omega
    have hw := cw64 i (by omega)
    have hdr : (K.take n).drop i = K[i] :: (K.take n).drop (i + 1) := by
      rw [List.drop_eq_getElem_cons (by rw [List.length_take]; omega), List.getElem_take]
    have htk : K.take (i + 1) = K.take i ++ [K[i]] := by rw [List.take_add_one, hm]; rfl
    by_cases cf : K[i].2 = f
    · obtain ⟨G', K', ⟨x1, x2⟩, x3, x4, x5, x6⟩ := ih (i + 1) (K.set i (K[i].1, sp)) (G.set R (.cells (flatM (K.set i (K[i].1, sp))))) (by omega) (by rw [List.length_set]; exact hn) (by rw [List.length_set]; exact hK) (by rw [List.getElem?_set, if_pos rfl, if_pos lR])
      refine ⟨G', K', ⟨by simpa using x1, fun k hk h => by rw [x2 k (by simpa using hk) h, List.getElem?_set_ne (Ne.symm h)]⟩, x3, by rw [x4, List.length_set], ?_, ?_⟩
      · rw [x5, hdr]
        have e1 : (K.set i (K[i].1, sp)).take (i + 1) = K.take i ++ [(K[i].1, sp)] := by
          rw [List.take_add_one, List.getElem?_set, if_pos rfl, if_pos hil, List.take_set_of_le (Nat.le_refl i)]; rfl
        have e2 : ((K.set i (K[i].1, sp)).take n).drop (i + 1) = (K.take n).drop (i + 1) := by
          rw [List.drop_take, List.drop_take, List.drop_set_of_lt (by omega)]
        rw [e1, e2, List.append_assoc]
        show _ = K.take i ++ ((K[i].1, if K[i].2 = f then sp else K[i].2) :: openAt sp f ((K.take n).drop (i + 1)))
        rw [if_pos cf]
        rfl
      · have hbd : Brun tab 71 f4l16 (ofL [(1, .int .i64 sp), (6, .ms R 0 n 2 cap ex), (7, ov), (10, .int .i64 f), (53, .int .i64 n), (54, .int .i64 i)]) G = some (.normal, ofL [(1, .int .i64 sp), (6, .ms R 0 n 2 cap ex), (7, ov), (10, .int .i64 f), (53, .int .i64 n), (54, .int .i64 (i + 1))], G.set R (.cells (flatM (K.set i (K[i].1, sp))))) := by
          generalize flatM (K.set i (K[i].1, sp)) = F2 at *
          generalize K[i] = m at *
          generalize flatM K = FK at *
          subst cf
          clear ih x1 x2 x3 x4 x5 x6 hi hn hK hil hm lR hdr htk hfl f2
          repeat (any_goals first | simp (dsimp := false) (maxSteps := 4000000) (maxDischargeDepth := 8) (implicitDefEqProofs := false) [*, -Int.not_le, -Int.not_lt, amLt, f4c, f4m5, f4m7, f4r0, f4r1, f4r2, f4r3, f4r4, f4r5, f4r6, f4r7, f4r8, f4r9, f4m16, f4r10, f4r11, f4r12, f4r13, f4r14, f4r15, f4r16, f4r17, f4r18, f4r19, f4r20, f4r21, f4l5_b, f4l7_b, f4l16_b] | with_reducible refine ch_both (fun _ => ?_) (fun _ => ?_) | with_reducible refine ite_both (fun _ => ?_) (fun _ => ?_) | intro _)
        push_cast at x6
        rw [Brun_loop, hbd, bthen_normal]
        exact x6
    · obtain ⟨G', K', ⟨x1, x2⟩, x3, x4, x5, x6⟩ := ih (i + 1) K G (by omega) hn hK hG
      refine ⟨G', K', ⟨x1, x2⟩, x3, x4, ?_, ?_⟩
      · rw [x5, hdr, htk, List.append_assoc]
        show _ = K.take i ++ ((K[i].1, if K[i].2 = f then sp else K[i].2) :: openAt sp f ((K.take n).drop (i + 1)))
        rw [if_neg cf]
        rfl
      · have hbd : Brun tab 71 f4l16 (ofL [(1, .int .i64 sp), (6, .ms R 0 n 2 cap ex), (7, ov), (10, .int .i64 f), (53, .int .i64 n), (54, .int .i64 i)]) G = some (.normal, ofL [(1, .int .i64 sp), (6, .ms R 0 n 2 cap ex), (7, ov), (10, .int .i64 f), (53, .int .i64 n), (54, .int .i64 (i + 1))], G) := by
          generalize K[i] = m at *
          generalize flatM K = FK at *
          clear ih x1 x2 x3 x4 x5 x6 hi hn hK hil hm lR hdr htk hfl f2 hset hle2
          repeat (any_goals first | simp (dsimp := false) (maxSteps := 4000000) (maxDischargeDepth := 8) (implicitDefEqProofs := false) [*, -Int.not_le, -Int.not_lt, amLt, f4c, f4m5, f4m7, f4r0, f4r1, f4r2, f4r3, f4r4, f4r5, f4r6, f4r7, f4r8, f4r9, f4m16, f4r10, f4r11, f4r12, f4r13, f4r14, f4r15, f4r16, f4r17, f4r18, f4r19, f4r20, f4r21, f4l5_b, f4l7_b, f4l16_b] | with_reducible refine ch_both (fun _ => ?_) (fun _ => ?_) | with_reducible refine ite_both (fun _ => ?_) (fun _ => ?_) | intro _)
        push_cast at x6
        rw [Brun_loop, hbd, bthen_normal]
        exact x6
theorem need_erase {r : List Mv} {i : Nat} {m : Mv} (h : freeIx r 0 r = some (i, m)) : need (r.eraseIdx i) + 1 ≤ need r ∧ r[i]? = some m := by
  obtain ⟨j, hj, hget, _⟩ := freeIx_some h
  simp only [Nat.zero_add] at hj
  subst hj
  have hlen := (List.getElem?_eq_some_iff.1 hget).1
  have hel : (r.eraseIdx i).length + 1 = r.length := by rw [List.length_eraseIdx_of_lt hlen]; omega
  have h1 : need r = 2 * r.length - 1 := by simp [need, h]
  have h2 : need (r.eraseIdx i) ≤ 2 * (r.eraseIdx i).length := by unfold need; split <;> omega
  exact ⟨by omega, hget⟩
theorem need_open {sp : Int} {m0 : Mv} {t : List Mv} (h : freeIx (m0 :: t) 0 (m0 :: t) = none) (hs : sp ≠ m0.1) : need (openAt sp m0.1 (m0 :: t)) + 1 ≤ need (m0 :: t) := by
  have h1 : need (m0 :: t) = 2 * (m0 :: t).length := by simp [need, h]
  have h2 : need (openAt sp m0.1 (m0 :: t)) = 2 * (m0 :: t).length - 1 := by
    unfold need
    rw [if_pos (open_free hs)]
    simp [openAt]
  simp only [List.length_cons] at h1 h2 ⊢
  omega
theorem moves_loop : ∀ (c : Nat) (K : List Mv) (n : Nat) (o : List Mv) (G : Heap) (ov : AV) (E : List (Nat × AV)), K.length ≤ 16777216 → n ≤ K.length → n ≤ cap → o.length + c ≤ 16777216 → InvM sp (K.take n) → need (K.take n) ≤ c → G[R]? = some (.cells (flatM K)) → OutAt G R ov o →
    ∃ (G' : Heap) (ov' : AV) (E' : AV × List (Nat × AV)), OutAt G' R ov' (moves sp c (K.take n) o) ∧ Brun tab 71 (.loop f4l5) (ofL ((1, .int .i64 sp) :: (6, .ms R 0 n 2 cap ex) :: (7, ov) :: E)) G = some (.exit 0, ofL ((1, .int .i64 sp) :: (6, E'.1) :: (7, ov') :: E'.2), G') := by
  have stop : ∀ (G : Heap) (ov : AV) (E : List (Nat × AV)), Brun tab 71 (.loop f4l5) (ofL ((1, .int .i64 sp) :: (6, .ms R 0 0 2 cap ex) :: (7, ov) :: E)) G = some (.exit 0, ofL ((1, .int .i64 sp) :: (6, .ms R 0 0 2 cap ex) :: (7, ov) :: [(21, .bool false)]), G) := by
    intro G ov E
    rw [Brun_loop]
    repeat (any_goals first | simp (dsimp := false) (maxSteps := 4000000) (maxDischargeDepth := 8) (implicitDefEqProofs := false) [*, -Int.not_le, -Int.not_lt, amLt, f4c, f4m5, f4m7, f4r0, f4r1, f4r2, f4r3, f4r4, f4r5, f4r6, f4r7, f4r8, f4r9, f4m16, f4r10, f4r11, f4r12, f4r13, f4r14, f4r15, f4r16, f4r17, f4r18, f4r19, f4r20, f4r21, f4l5_b, f4l7_b, f4l16_b] | with_reducible refine ch_both (fun _ => ?_) (fun _ => ?_) | with_reducible refine ite_both (fun _ => ?_) (fun _ => ?_) | intro _)
  intro c
  induction c with
  | zero =>
    intro K n o G ov E hK hn hcap hol hI hnd hG ho
    have hz : (K.take n) = [] := by
      unfold need at hnd
      split at hnd
      · rename_i h
        cases hr : K.take n with
        | nil => rfl
        | cons a t => rw [hr] at hnd; simp only [List.length_cons] at hnd; omega
      · exact List.eq_nil_of_length_eq_zero (by omega)
    have hn0 : n = 0 := by
      have := congrArg List.length hz
      rw [List.length_take] at this
      simp only [List.length_nil] at this; omega
    subst hn0
    exact ⟨G, ov, (_, _), ho, stop G ov E⟩
  | succ c ih =>
    intro K n o G ov E hK hn hcap hol hI hnd hG ho
    cases hr : K.take n with
    | nil =>
      have hn0 : n = 0 := by
        have := congrArg List.length hr
        rw [List.length_take] at this
        simp only [List.length_nil] at this; omega
      subst hn0
      exact ⟨G, ov, (_, _), by simpa [moves] using ho, stop G ov E⟩
    | cons m0 t =>
      have lR := (List.getElem?_eq_some_iff.1 hG).1
      have hn0 : 0 < n := by
        have := congrArg List.length hr
        rw [List.length_take] at this
        simp only [List.length_cons] at this; omega
      have e0 : ¬ (n : Int) ≤ 0 := by omega
      have e0' : (0 : Int) < n := by omega
      obtain ⟨G1, ov1, x1, x2, x3⟩ := seek_loop (sp := sp) (cap := cap) (ex := ex) K n o hK hn hcap (by omega) (K.take n) 0 G ov rfl (by omega) hG ho
      simp only [Int.natCast_zero] at x2 x3
      cases hf : freeIx (m0 :: t) 0 (m0 :: t) with
      | some p =>
        obtain ⟨k, m⟩ := p
        rw [hr, hf] at x3
        obtain ⟨y1, ⟨K', y2, y3, y4⟩, y5, y6⟩ := x3 k m rfl
        have hf2 : freeIx (K.take n) 0 (K.take n) = some (k, m) := by rw [hr]; exact hf
        obtain ⟨n1, n2⟩ := need_erase hf2
        obtain ⟨_, _, _, hfree⟩ := freeIx_some hf2
        have hI2 := (emit_ok hI n2 hfree).1
        obtain ⟨G', ov', E', z1, z2⟩ := ih K' (n - 1) (o ++ [m]) G1 ov1 [] (by omega) (by omega) (by omega) (by simp; omega) (by rw [y4, ← hr]; exact hI2) (by rw [y4, ← hr]; omega) y2 y1
        refine ⟨G', ov', E', ?_, ?_⟩
        · rw [y4] at z1
          simp only [moves, hf]
          exact z1
        · have hbd : Brun tab 71 f4l5 (ofL ((1, .int .i64 sp) :: (6, .ms R 0 n 2 cap ex) :: (7, ov) :: E)) G = some (.normal, ofL [(1, .int .i64 sp), (6, .ms R 0 (n - 1) 2 cap ex), (7, ov1)], G1) := by
            clear ih stop hK hn hcap hol hI hnd hG ho hr lR x1 x2 x3 hf y1 y2 y3 y4 y5 hf2 n1 n2 hfree hI2 z1 z2
            repeat (any_goals first | simp (dsimp := false) (maxSteps := 4000000) (maxDischargeDepth := 8) (implicitDefEqProofs := false) [*, -Int.not_le, -Int.not_lt, amLt, f4c, f4m5, f4m7, f4r0, f4r1, f4r2, f4r3, f4r4, f4r5, f4r6, f4r7, f4r8, f4r9, f4m16, f4r10, f4r11, f4r12, f4r13, f4r14, f4r15, f4r16, f4r17, f4r18, f4r19, f4r20, f4r21, f4l5_b, f4l7_b, f4l16_b] | with_reducible refine ch_both (fun _ => ?_) (fun _ => ?_) | with_reducible refine ite_both (fun _ => ?_) (fun _ => ?_) | intro _)
          rw [Brun_loop, hbd, bthen_normal]
          exact z2
      | none =>
        rw [hr, hf] at x2
        obtain ⟨y1, y2, E2, y3⟩ := x2 rfl
        have hall : AllRead (m0 :: t) := freeIx_none hf
        have hne : sp ≠ m0.1 := fun e => hI.sp (by rw [hr, e]; simp [tos])
        have hI2 : InvM sp (openAt sp m0.1 (m0 :: t)) := (open_ok (f := m0.1) (by rw [← hr]; exact hI) (hall.notSp (by rw [← hr]; exact hI.nodup) (by rw [← hr]; exact hI.sp))).1
        have hk0 : K[0]? = some m0 := by
          have := congrArg (·[0]?) hr
          simp only [List.getElem?_cons_zero] at this
          rw [List.getElem?_take, if_pos hn0] at this
          exact this
        have hf0 := (flatM_from hk0).2
        simp only [Nat.zero_mul] at hf0
        have lK := (List.getElem?_eq_some_iff.1 hk0).1
        have hfl := flatM_len K
        have hf00 : ∀ hh : 0 < (flatM K).length, (flatM K)[0] = .int .i64 m0.1 := fun hh => (List.getElem?_eq_some_iff.1 hf0).2
        obtain ⟨G2, ov2, p1, p2, p3, p4⟩ := out_put2 G1 R ov1 o sp m0.1 y2 (by omega) (by omega) (.ms R 0 n 2 cap ex)
        rw [y1] at p3
        obtain ⟨G3, K3, ⟨w1, w2⟩, w3, w4, w5, w6⟩ := open_loop (sp := sp) (cap := cap) (ex := ex) m0.1 n ov2 n 0 K G2 (by omega) hn hK p3
        simp only [List.take_zero, List.nil_append, List.drop_zero, Int.natCast_zero] at w5 w6
        rw [hr] at w5
        obtain ⟨G', ov', E', z1, z2⟩ := ih K3 n (o ++ [(sp, m0.1)]) G3 ov2 [(10, .int .i64 m0.1), (53, .int .i64 n), (54, .int .i64 n), (55, .bool false)] (by omega) (by omega) hcap (by simp; omega) (by rw [w5]; exact hI2) (by rw [w5]; have := need_open hf hne; rw [hr] at hnd; omega) w3 (p1.keep fun k hk h => w2 k hk h)
        refine ⟨G', ov', E', ?_, ?_⟩
        · rw [w5] at z1
          simp only [moves, hf]
          exact z1
        · have hbd : Brun tab 71 f4l5 (ofL ((1, .int .i64 sp) :: (6, .ms R 0 n 2 cap ex) :: (7, ov) :: E)) G = some (.normal, ofL [(1, .int .i64 sp), (6, .ms R 0 n 2 cap ex), (7, ov2), (10, .int .i64 m0.1), (53, .int .i64 n), (54, .int .i64 n), (55, .bool false)], G3) := by
            rw [f4l5_b]
            unfold f4m5
            generalize ACode.region false f4r14 [1, 6, 7, 10] 2 = X14 at *
            generalize flatM K = FK at *
            clear ih stop hK hn hcap hol hI hnd hG ho hr lR x1 x2 x3 hf y2 hall hne hI2 hk0 lK hfl p1 p2 p3 w1 w2 w3 w4 w5 z1 z2
            repeat (any_goals first | simp (dsimp := false) (maxSteps := 4000000) (maxDischargeDepth := 8) (implicitDefEqProofs := false) [*, -Int.not_le, -Int.not_lt, amLt, f4c, f4m5, f4m7, f4r0, f4r1, f4r2, f4r3, f4r4, f4r5, f4r6, f4r7, f4r8, f4r9, f4m16, f4r10, f4r11, f4r12, f4r13, f4r14, f4r15, f4r16, f4r17, f4r18, f4r19, f4r20, f4r21, f4l5_b, f4l7_b, f4l16_b] | with_reducible refine ch_both (fun _ => ?_) (fun _ => ?_) | with_reducible refine ite_both (fun _ => ?_) (fun _ => ?_) | intro _)
          rw [Brun_loop, hbd, bthen_normal]
          exact z2
end

end Go.Proofs.Ytfhijkapcdmdnaa
