/- The reference: suffixes. -/
import Derived.Test.YtmpdpjkblcdfkaaGreatDoorZh
import Derived.Test.YtmpdpjkblcdfkaaGreatDoorAmW
namespace Go.Proofs.YtmpdpjkblcdfkaaGreatDoor
open Go.AM
set_option maxRecDepth 20000
set_option maxHeartbeats 4000000
set_option linter.unusedSimpArgs false
set_option linter.unusedVariables false
attribute [local congr] andF_cg onF_cg bthen_cg bkeep_cg bcond_cg guardV_cg putF_cg guardF_cg ite_cg stepsF_cg
attribute [local simp] Brun_skip Brun_exit Brun_ret Brun_seq Brun_cond Brun_block Brun_region bthen_normal bthen_ret bthen_exit bblock_normal bblock_ret bblock_exit bkeep_some andF_some onF_some onF_none guardF_none guardF_some guardV_tup putF_some putF_none stepsF_nil stepsF_cons upd_apply ofL_cons ofL_nil bown_normal bown_ret banswer_normal banswer_ret aresults ares List.replicate stepF_call stepF_callD stepF_move stepF_pick stepF_alloc stepF_allocV stepF_box stepF_boxV stepF_build stepF_buildSlice stepF_buildSliceV stepF_load stepF_store stepF_nilCheck stepF_bin stepF_eq stepF_un stepF_conv stepF_strId stepF_toStr stepF_toBytes stepF_fn stepF_mkSlice stepF_slice stepF_strSlice stepF_fieldAddr stepF_field stepF_idxAddr stepF_idxArr stepF_index stepF_strIndex stepF_extract stepF_len0 stepF_len1 stepF_min stepF_max stepF_append stepF_appendF appF_none appF_row stepF_mkMap stepF_mkIface stepF_lookup stepF_mapUpdate stepF_ext aext_idx aext_count aext_same cellsF newF abin_add abin_sub abin_mul abin_quo abin_rem abin_eql abin_neq abin_lss abin_leq abin_gtr abin_geq abin_and abin_or abin_xor abin_shl abin_shr abin_seql abin_sneq aun_not aun_neg aeq_bool aeq_agg eqCells_nil eqCells_int eqCells_bool eqCells_str cellsOf_agg cellsOf_int cellsOf_bool cellsOf_str cellsOf_is cellsOf_ms cellsOf_fn cellsOf_nilp cellsOf_mp cellsOf_mm cellsOf_nilm cellsOf_nili cellsOf_ifc cellsOf_ip cget_one cget_agg ev_t ev_c fillp_nil fillp_cons isSc_int isSc_bool isSc_str isSc_is isSc_ms isSc_fn isSc_mm isSc_mp isSc_ip isSc_nilp isSc_nilm isSc_nili isSc_nilf isSc_ifc splice chunk strip strip.stripL imm imm.immL Areify_int Areify_bool Areify_str Areify_is Areify_nilp Areify_tup Areify_agg AreifyL andF_chi andF_ch onF_chi onF_ch bthen_ch bthen_chi bblock_ch bblock_chi bkeep_ch bkeep_chi bown_ch bown_chi banswer_ch banswer_chi isSome_ch bcond_ch guardV_ch1 guardV_ch0 chF_true chF_false chF_not
attribute [local simp ↓] andF_some andF_chi andF_ch onF_some onF_none onF_chi onF_ch bthen_normal bthen_ret bthen_exit bthen_ch bthen_chi bblock_normal bblock_ret bblock_exit bblock_ch bblock_chi bkeep_some bkeep_ch bkeep_chi bown_normal bown_ret bown_ch bown_chi banswer_normal banswer_ret banswer_ch banswer_chi bcond_ch guardV_ch1 guardV_ch0 guardV_tup guardF_none guardF_some putF_some putF_none stepsF_nil stepsF_cons chF_true chF_false Brun_seq Brun_cond Brun_block Brun_region Brun_skip Brun_ret Brun_exit stepF_call stepF_callD stepF_move stepF_pick stepF_alloc stepF_allocV stepF_box stepF_boxV stepF_build stepF_buildSlice stepF_buildSliceV stepF_load stepF_store stepF_nilCheck stepF_bin stepF_eq stepF_un stepF_conv stepF_strId stepF_toStr stepF_toBytes stepF_fn stepF_mkSlice stepF_slice stepF_strSlice stepF_fieldAddr stepF_field stepF_idxAddr stepF_idxArr stepF_index stepF_strIndex stepF_extract stepF_len0 stepF_len1 stepF_min stepF_max stepF_append stepF_appendF stepF_mkMap stepF_mkIface stepF_lookup stepF_mapUpdate stepF_ext
set_option maxHeartbeats 2000000
theorem cls (a : UInt8) : a = 117 ∨ a = 85 ∨ a = 108 ∨ a = 76 ∨ (or32 a.toNat ≠ 108 ∧ or32 a.toNat ≠ 117 ∧ ¬ (a.toNat : Int) = 117 ∧ ¬ (a.toNat : Int) = 85 ∧ ¬ (a.toNat : Int) = 108 ∧ ¬ (a.toNat : Int) = 76 ∧ a ≠ 117 ∧ a ≠ 85 ∧ a ≠ 108 ∧ a ≠ 76) := by
  have key : ∀ (k : Nat), k < 256 → a ≠ UInt8.ofNat k → ¬ (a.toNat : Int) = k := fun k hk h e => h (UInt8.toNat_inj.1 (by show a.toNat = k % 256; omega))
  by_cases h1 : a = 117
  · exact .inl h1
  · by_cases h2 : a = 85
    · exact .inr (.inl h2)
    · by_cases h3 : a = 108
      · exact .inr (.inr (.inl h3))
      · by_cases h4 : a = 76
        · exact .inr (.inr (.inr (.inl h4)))
        · have k1 := key 117 (by omega) h1
          have k2 := key 85 (by omega) h2
          have k3 := key 108 (by omega) h3
          have k4 := key 76 (by omega) h4
          refine .inr (.inr (.inr (.inr ⟨?_, ?_, k1, k2, k3, k4, h1, h2, h3, h4⟩)))
          · unfold or32; split <;> omega
          · unfold or32; split <;> omega
theorem suf_len : ∀ {r : List UInt8} {u l : Bool} {p : Bool × Bool}, sufR u l r = some p → r.length + u.toNat + l.toNat ≤ 2 := by
  intro r
  induction r with
  | nil => intro u l p _; cases u <;> cases l <;> simp
  | cons b t ih =>
    intro u l p h
    unfold sufR at h
    split at h
    · split at h
      · cases h
      · rename_i q
        have := ih h
        have hl : l = false := by simpa using q
        subst hl
        simp only [List.length_cons, Bool.toNat_true, Bool.toNat_false] at *
        omega
    · split at h
      · split at h
        · cases h
        · rename_i q
          have := ih h
          have hl : u = false := by simpa using q
          subst hl
          simp only [List.length_cons, Bool.toNat_true, Bool.toNat_false] at *
          omega
      · cases h
def RSuf (base i first n : Nat) (c0 c1 c2 c3 c4 c5 : AV) (X : ACode) (x : Option (Ex × Env × Heap)) : Option (Bool × Bool) → Prop
  | some (u, l) => ∃ ex, x = Brun tab 139 X (ofL ((2, .mp 0 0) :: (4, .int .i64 base) :: (5, .int .i64 i) :: (6, .int .i64 first) :: (7, .int .i64 n) :: (8, .bool u) :: (9, .bool l) :: ex)) [.cells [c0, c1, c2, c3, c4, c5]]
  | none => x = some (.ret, ofL [(2, .mp 0 0), (3, .bool false)], [.cells [.int .i64 0, .str [], .int .i64 0, .int .i64 0, .int .i64 0, .int .i64 0]])
def rsufC (X : ACode) : ACode := .seq (.region false f42r13 [0, 2, 4, 5, 6, 7, 8, 9] 0)
  (.seq (.region false f42r14 [2, 4, 5, 6, 7, 8, 9, 10] 0)
  (.seq (.block 2 (.seq (.region false f42r15 [2, 4, 5, 6, 7, 8, 9, 10, 57] 0)
    (.cond (.t 57)
      (.skip)
      (.seq (.region false f42r16 [2, 4, 5, 6, 7, 8, 9, 10, 60] 0)
      (.cond (.t 60)
        (.region false f42r17 [2, 4, 5, 6, 7, 8, 9] 0)
        (.seq (.region false f42r18 [2, 4, 5, 6, 7, 8, 10, 67] 0)
        (.cond (.t 67)
          (.region false f42r19 [2, 4, 5, 6, 7, 8, 9] 0)
          (.seq (.seq (.region false f42r20 [2, 4, 5, 6, 7, 10, 74] 0)
          (.cond (.t 74)
            (.skip)
            (.region false f42r21 [2, 4, 5, 6, 7, 74] 0)))
          (.cond (.t 74)
            (.region false f42r22 [2, 4, 5, 6, 7, 8, 9] 0)
            (.seq (.region false f42r23 [2, 3] 0)
            (.ret))))))))))) X))
theorem rsuf_ok (s : List UInt8) (base i first n : Nat) (hi : i ≤ s.length) (c0 c1 c2 c3 c4 c5 : AV) (X : ACode) (rest : List UInt8) (hr : s.drop i = rest) :
    RSuf base i first n c0 c1 c2 c3 c4 c5 X (Brun tab 139 (rsufC X) (ofL [(0, .str s), (2, .mp 0 0), (4, .int .i64 base), (5, .int .i64 i), (6, .int .i64 first), (7, .int .i64 n), (39, .bool false)]) [.cells [c0, c1, c2, c3, c4, c5]]) (sufR false false rest) := by
  have hi' : (i : Int) ≤ s.length := by omega
  unfold rsufC
  match rest with
  | [] =>
    refine ⟨[(10, .str []), (57, .bool true)], ?_⟩
    clear hi
    repeat (any_goals first | simp (dsimp := false) (maxSteps := 4000000) (maxDischargeDepth := 8) (implicitDefEqProofs := false) [*, -Int.not_le, -Int.not_lt, amLt, f42c, f42m8, f42r0, f42r1, f42r2, f42r3, f42r4, f42r5, f42r6, f42r7, f42r8, f42r9, f42r10, f42r11, f42r12, f42r13, f42r14, f42r15, f42r16, f42r17, f42r18, f42r19, f42r20, f42r21, f42r22, f42r23, f42r24, f42r25, f42r26, f42r27, f42r28, f42r29, f42r30, f42l8_b, obound_some, obound_none, abound_int] | with_reducible refine ch_both (fun _ => ?_) (fun _ => ?_) | with_reducible refine ite_both (fun _ => ?_) (fun _ => ?_) | intro _)
  | [a] =>
    clear hi
    rcases cls a with rfl | rfl | rfl | rfl | ⟨g1, g2, k1, k2, k3, k4, h1, h2, h3, h4⟩
    · refine ⟨[], ?_⟩
      repeat (any_goals first | simp (dsimp := false) (maxSteps := 4000000) (maxDischargeDepth := 8) (implicitDefEqProofs := false) [*, -Int.not_le, -Int.not_lt, amLt, f42c, f42m8, f42r0, f42r1, f42r2, f42r3, f42r4, f42r5, f42r6, f42r7, f42r8, f42r9, f42r10, f42r11, f42r12, f42r13, f42r14, f42r15, f42r16, f42r17, f42r18, f42r19, f42r20, f42r21, f42r22, f42r23, f42r24, f42r25, f42r26, f42r27, f42r28, f42r29, f42r30, f42l8_b, obound_some, obound_none, abound_int] | with_reducible refine ch_both (fun _ => ?_) (fun _ => ?_) | with_reducible refine ite_both (fun _ => ?_) (fun _ => ?_) | intro _)
    · refine ⟨[], ?_⟩
      repeat (any_goals first | simp (dsimp := false) (maxSteps := 4000000) (maxDischargeDepth := 8) (implicitDefEqProofs := false) [*, -Int.not_le, -Int.not_lt, amLt, f42c, f42m8, f42r0, f42r1, f42r2, f42r3, f42r4, f42r5, f42r6, f42r7, f42r8, f42r9, f42r10, f42r11, f42r12, f42r13, f42r14, f42r15, f42r16, f42r17, f42r18, f42r19, f42r20, f42r21, f42r22, f42r23, f42r24, f42r25, f42r26, f42r27, f42r28, f42r29, f42r30, f42l8_b, obound_some, obound_none, abound_int] | with_reducible refine ch_both (fun _ => ?_) (fun _ => ?_) | with_reducible refine ite_both (fun _ => ?_) (fun _ => ?_) | intro _)
    · refine ⟨[], ?_⟩
      repeat (any_goals first | simp (dsimp := false) (maxSteps := 4000000) (maxDischargeDepth := 8) (implicitDefEqProofs := false) [*, -Int.not_le, -Int.not_lt, amLt, f42c, f42m8, f42r0, f42r1, f42r2, f42r3, f42r4, f42r5, f42r6, f42r7, f42r8, f42r9, f42r10, f42r11, f42r12, f42r13, f42r14, f42r15, f42r16, f42r17, f42r18, f42r19, f42r20, f42r21, f42r22, f42r23, f42r24, f42r25, f42r26, f42r27, f42r28, f42r29, f42r30, f42l8_b, obound_some, obound_none, abound_int] | with_reducible refine ch_both (fun _ => ?_) (fun _ => ?_) | with_reducible refine ite_both (fun _ => ?_) (fun _ => ?_) | intro _)
    · refine ⟨[], ?_⟩
      repeat (any_goals first | simp (dsimp := false) (maxSteps := 4000000) (maxDischargeDepth := 8) (implicitDefEqProofs := false) [*, -Int.not_le, -Int.not_lt, amLt, f42c, f42m8, f42r0, f42r1, f42r2, f42r3, f42r4, f42r5, f42r6, f42r7, f42r8, f42r9, f42r10, f42r11, f42r12, f42r13, f42r14, f42r15, f42r16, f42r17, f42r18, f42r19, f42r20, f42r21, f42r22, f42r23, f42r24, f42r25, f42r26, f42r27, f42r28, f42r29, f42r30, f42l8_b, obound_some, obound_none, abound_int] | with_reducible refine ch_both (fun _ => ?_) (fun _ => ?_) | with_reducible refine ite_both (fun _ => ?_) (fun _ => ?_) | intro _)
    · have hS : sufR false false [a] = none := by simp [sufR, g1, g2]
      rw [hS]
      show _ = _
      clear hS g1 g2
      repeat (any_goals first | simp (dsimp := false) (maxSteps := 4000000) (maxDischargeDepth := 8) (implicitDefEqProofs := false) [*, -Int.not_le, -Int.not_lt, amLt, f42c, f42m8, f42r0, f42r1, f42r2, f42r3, f42r4, f42r5, f42r6, f42r7, f42r8, f42r9, f42r10, f42r11, f42r12, f42r13, f42r14, f42r15, f42r16, f42r17, f42r18, f42r19, f42r20, f42r21, f42r22, f42r23, f42r24, f42r25, f42r26, f42r27, f42r28, f42r29, f42r30, f42l8_b, obound_some, obound_none, abound_int] | with_reducible refine ch_both (fun _ => ?_) (fun _ => ?_) | with_reducible refine ite_both (fun _ => ?_) (fun _ => ?_) | intro _)
  | [a, b] =>
    clear hi
    rcases cls a with rfl | rfl | rfl | rfl | ⟨g1, g2, k1, k2, k3, k4, h1, h2, h3, h4⟩
    · rcases cls b with rfl | rfl | rfl | rfl | ⟨g1, g2, k1, k2, k3, k4, h1, h2, h3, h4⟩
      · show _ = _
        repeat (any_goals first | simp (dsimp := false) (maxSteps := 4000000) (maxDischargeDepth := 8) (implicitDefEqProofs := false) [*, -Int.not_le, -Int.not_lt, amLt, f42c, f42m8, f42r0, f42r1, f42r2, f42r3, f42r4, f42r5, f42r6, f42r7, f42r8, f42r9, f42r10, f42r11, f42r12, f42r13, f42r14, f42r15, f42r16, f42r17, f42r18, f42r19, f42r20, f42r21, f42r22, f42r23, f42r24, f42r25, f42r26, f42r27, f42r28, f42r29, f42r30, f42l8_b, obound_some, obound_none, abound_int] | with_reducible refine ch_both (fun _ => ?_) (fun _ => ?_) | with_reducible refine ite_both (fun _ => ?_) (fun _ => ?_) | intro _)
      · show _ = _
        repeat (any_goals first | simp (dsimp := false) (maxSteps := 4000000) (maxDischargeDepth := 8) (implicitDefEqProofs := false) [*, -Int.not_le, -Int.not_lt, amLt, f42c, f42m8, f42r0, f42r1, f42r2, f42r3, f42r4, f42r5, f42r6, f42r7, f42r8, f42r9, f42r10, f42r11, f42r12, f42r13, f42r14, f42r15, f42r16, f42r17, f42r18, f42r19, f42r20, f42r21, f42r22, f42r23, f42r24, f42r25, f42r26, f42r27, f42r28, f42r29, f42r30, f42l8_b, obound_some, obound_none, abound_int] | with_reducible refine ch_both (fun _ => ?_) (fun _ => ?_) | with_reducible refine ite_both (fun _ => ?_) (fun _ => ?_) | intro _)
      · refine ⟨[], ?_⟩
        repeat (any_goals first | simp (dsimp := false) (maxSteps := 4000000) (maxDischargeDepth := 8) (implicitDefEqProofs := false) [*, -Int.not_le, -Int.not_lt, amLt, f42c, f42m8, f42r0, f42r1, f42r2, f42r3, f42r4, f42r5, f42r6, f42r7, f42r8, f42r9, f42r10, f42r11, f42r12, f42r13, f42r14, f42r15, f42r16, f42r17, f42r18, f42r19, f42r20, f42r21, f42r22, f42r23, f42r24, f42r25, f42r26, f42r27, f42r28, f42r29, f42r30, f42l8_b, obound_some, obound_none, abound_int] | with_reducible refine ch_both (fun _ => ?_) (fun _ => ?_) | with_reducible refine ite_both (fun _ => ?_) (fun _ => ?_) | intro _)
      · refine ⟨[], ?_⟩
        repeat (any_goals first | simp (dsimp := false) (maxSteps := 4000000) (maxDischargeDepth := 8) (implicitDefEqProofs := false) [*, -Int.not_le, -Int.not_lt, amLt, f42c, f42m8, f42r0, f42r1, f42r2, f42r3, f42r4, f42r5, f42r6, f42r7, f42r8, f42r9, f42r10, f42r11, f42r12, f42r13, f42r14, f42r15, f42r16, f42r17, f42r18, f42r19, f42r20, f42r21, f42r22, f42r23, f42r24, f42r25, f42r26, f42r27, f42r28, f42r29, f42r30, f42l8_b, obound_some, obound_none, abound_int] | with_reducible refine ch_both (fun _ => ?_) (fun _ => ?_) | with_reducible refine ite_both (fun _ => ?_) (fun _ => ?_) | intro _)
      · have hS : sufR false false [117, b] = none := (show sufR true false [b] = none by simp [sufR, g1, g2])
        rw [hS]
        show _ = _
        clear hS g1 g2
        repeat (any_goals first | simp (dsimp := false) (maxSteps := 4000000) (maxDischargeDepth := 8) (implicitDefEqProofs := false) [*, -Int.not_le, -Int.not_lt, amLt, f42c, f42m8, f42r0, f42r1, f42r2, f42r3, f42r4, f42r5, f42r6, f42r7, f42r8, f42r9, f42r10, f42r11, f42r12, f42r13, f42r14, f42r15, f42r16, f42r17, f42r18, f42r19, f42r20, f42r21, f42r22, f42r23, f42r24, f42r25, f42r26, f42r27, f42r28, f42r29, f42r30, f42l8_b, obound_some, obound_none, abound_int] | with_reducible refine ch_both (fun _ => ?_) (fun _ => ?_) | with_reducible refine ite_both (fun _ => ?_) (fun _ => ?_) | intro _)
    · rcases cls b with rfl | rfl | rfl | rfl | ⟨g1, g2, k1, k2, k3, k4, h1, h2, h3, h4⟩
      · show _ = _
        repeat (any_goals first | simp (dsimp := false) (maxSteps := 4000000) (maxDischargeDepth := 8) (implicitDefEqProofs := false) [*, -Int.not_le, -Int.not_lt, amLt, f42c, f42m8, f42r0, f42r1, f42r2, f42r3, f42r4, f42r5, f42r6, f42r7, f42r8, f42r9, f42r10, f42r11, f42r12, f42r13, f42r14, f42r15, f42r16, f42r17, f42r18, f42r19, f42r20, f42r21, f42r22, f42r23, f42r24, f42r25, f42r26, f42r27, f42r28, f42r29, f42r30, f42l8_b, obound_some, obound_none, abound_int] | with_reducible refine ch_both (fun _ => ?_) (fun _ => ?_) | with_reducible refine ite_both (fun _ => ?_) (fun _ => ?_) | intro _)
      · show _ = _
        repeat (any_goals first | simp (dsimp := false) (maxSteps := 4000000) (maxDischargeDepth := 8) (implicitDefEqProofs := false) [*, -Int.not_le, -Int.not_lt, amLt, f42c, f42m8, f42r0, f42r1, f42r2, f42r3, f42r4, f42r5, f42r6, f42r7, f42r8, f42r9, f42r10, f42r11, f42r12, f42r13, f42r14, f42r15, f42r16, f42r17, f42r18, f42r19, f42r20, f42r21, f42r22, f42r23, f42r24, f42r25, f42r26, f42r27, f42r28, f42r29, f42r30, f42l8_b, obound_some, obound_none, abound_int] | with_reducible refine ch_both (fun _ => ?_) (fun _ => ?_) | with_reducible refine ite_both (fun _ => ?_) (fun _ => ?_) | intro _)
      · refine ⟨[], ?_⟩
        repeat (any_goals first | simp (dsimp := false) (maxSteps := 4000000) (maxDischargeDepth := 8) (implicitDefEqProofs := false) [*, -Int.not_le, -Int.not_lt, amLt, f42c, f42m8, f42r0, f42r1, f42r2, f42r3, f42r4, f42r5, f42r6, f42r7, f42r8, f42r9, f42r10, f42r11, f42r12, f42r13, f42r14, f42r15, f42r16, f42r17, f42r18, f42r19, f42r20, f42r21, f42r22, f42r23, f42r24, f42r25, f42r26, f42r27, f42r28, f42r29, f42r30, f42l8_b, obound_some, obound_none, abound_int] | with_reducible refine ch_both (fun _ => ?_) (fun _ => ?_) | with_reducible refine ite_both (fun _ => ?_) (fun _ => ?_) | intro _)
      · refine ⟨[], ?_⟩
        repeat (any_goals first | simp (dsimp := false) (maxSteps := 4000000) (maxDischargeDepth := 8) (implicitDefEqProofs := false) [*, -Int.not_le, -Int.not_lt, amLt, f42c, f42m8, f42r0, f42r1, f42r2, f42r3, f42r4, f42r5, f42r6, f42r7, f42r8, f42r9, f42r10, f42r11, f42r12, f42r13, f42r14, f42r15, f42r16, f42r17, f42r18, f42r19, f42r20, f42r21, f42r22, f42r23, f42r24, f42r25, f42r26, f42r27, f42r28, f42r29, f42r30, f42l8_b, obound_some, obound_none, abound_int] | with_reducible refine ch_both (fun _ => ?_) (fun _ => ?_) | with_reducible refine ite_both (fun _ => ?_) (fun _ => ?_) | intro _)
      · have hS : sufR false false [85, b] = none := (show sufR true false [b] = none by simp [sufR, g1, g2])
        rw [hS]
        show _ = _
        clear hS g1 g2
        repeat (any_goals first | simp (dsimp := false) (maxSteps := 4000000) (maxDischargeDepth := 8) (implicitDefEqProofs := false) [*, -Int.not_le, -Int.not_lt, amLt, f42c, f42m8, f42r0, f42r1, f42r2, f42r3, f42r4, f42r5, f42r6, f42r7, f42r8, f42r9, f42r10, f42r11, f42r12, f42r13, f42r14, f42r15, f42r16, f42r17, f42r18, f42r19, f42r20, f42r21, f42r22, f42r23, f42r24, f42r25, f42r26, f42r27, f42r28, f42r29, f42r30, f42l8_b, obound_some, obound_none, abound_int] | with_reducible refine ch_both (fun _ => ?_) (fun _ => ?_) | with_reducible refine ite_both (fun _ => ?_) (fun _ => ?_) | intro _)
    · rcases cls b with rfl | rfl | rfl | rfl | ⟨g1, g2, k1, k2, k3, k4, h1, h2, h3, h4⟩
      · refine ⟨[], ?_⟩
        repeat (any_goals first | simp (dsimp := false) (maxSteps := 4000000) (maxDischargeDepth := 8) (implicitDefEqProofs := false) [*, -Int.not_le, -Int.not_lt, amLt, f42c, f42m8, f42r0, f42r1, f42r2, f42r3, f42r4, f42r5, f42r6, f42r7, f42r8, f42r9, f42r10, f42r11, f42r12, f42r13, f42r14, f42r15, f42r16, f42r17, f42r18, f42r19, f42r20, f42r21, f42r22, f42r23, f42r24, f42r25, f42r26, f42r27, f42r28, f42r29, f42r30, f42l8_b, obound_some, obound_none, abound_int] | with_reducible refine ch_both (fun _ => ?_) (fun _ => ?_) | with_reducible refine ite_both (fun _ => ?_) (fun _ => ?_) | intro _)
      · refine ⟨[], ?_⟩
        repeat (any_goals first | simp (dsimp := false) (maxSteps := 4000000) (maxDischargeDepth := 8) (implicitDefEqProofs := false) [*, -Int.not_le, -Int.not_lt, amLt, f42c, f42m8, f42r0, f42r1, f42r2, f42r3, f42r4, f42r5, f42r6, f42r7, f42r8, f42r9, f42r10, f42r11, f42r12, f42r13, f42r14, f42r15, f42r16, f42r17, f42r18, f42r19, f42r20, f42r21, f42r22, f42r23, f42r24, f42r25, f42r26, f42r27, f42r28, f42r29, f42r30, f42l8_b, obound_some, obound_none, abound_int] | with_reducible refine ch_both (fun _ => ?_) (fun _ => ?_) | with_reducible refine ite_both (fun _ => ?_) (fun _ => ?_) | intro _)
      · show _ = _
        repeat (any_goals first | simp (dsimp := false) (maxSteps := 4000000) (maxDischargeDepth := 8) (implicitDefEqProofs := false) [*, -Int.not_le, -Int.not_lt, amLt, f42c, f42m8, f42r0, f42r1, f42r2, f42r3, f42r4, f42r5, f42r6, f42r7, f42r8, f42r9, f42r10, f42r11, f42r12, f42r13, f42r14, f42r15, f42r16, f42r17, f42r18, f42r19, f42r20, f42r21, f42r22, f42r23, f42r24, f42r25, f42r26, f42r27, f42r28, f42r29, f42r30, f42l8_b, obound_some, obound_none, abound_int] | with_reducible refine ch_both (fun _ => ?_) (fun _ => ?_) | with_reducible refine ite_both (fun _ => ?_) (fun _ => ?_) | intro _)
      · show _ = _
        repeat (any_goals first | simp (dsimp := false) (maxSteps := 4000000) (maxDischargeDepth := 8) (implicitDefEqProofs := false) [*, -Int.not_le, -Int.not_lt, amLt, f42c, f42m8, f42r0, f42r1, f42r2, f42r3, f42r4, f42r5, f42r6, f42r7, f42r8, f42r9, f42r10, f42r11, f42r12, f42r13, f42r14, f42r15, f42r16, f42r17, f42r18, f42r19, f42r20, f42r21, f42r22, f42r23, f42r24, f42r25, f42r26, f42r27, f42r28, f42r29, f42r30, f42l8_b, obound_some, obound_none, abound_int] | with_reducible refine ch_both (fun _ => ?_) (fun _ => ?_) | with_reducible refine ite_both (fun _ => ?_) (fun _ => ?_) | intro _)
      · have hS : sufR false false [108, b] = none := (show sufR false true [b] = none by simp [sufR, g1, g2])
        rw [hS]
        show _ = _
        clear hS g1 g2
        repeat (any_goals first | simp (dsimp := false) (maxSteps := 4000000) (maxDischargeDepth := 8) (implicitDefEqProofs := false) [*, -Int.not_le, -Int.not_lt, amLt, f42c, f42m8, f42r0, f42r1, f42r2, f42r3, f42r4, f42r5, f42r6, f42r7, f42r8, f42r9, f42r10, f42r11, f42r12, f42r13, f42r14, f42r15, f42r16, f42r17, f42r18, f42r19, f42r20, f42r21, f42r22, f42r23, f42r24, f42r25, f42r26, f42r27, f42r28, f42r29, f42r30, f42l8_b, obound_some, obound_none, abound_int] | with_reducible refine ch_both (fun _ => ?_) (fun _ => ?_) | with_reducible refine ite_both (fun _ => ?_) (fun _ => ?_) | intro _)
    · rcases cls b with rfl | rfl | rfl | rfl | ⟨g1, g2, k1, k2, k3, k4, h1, h2, h3, h4⟩
      · refine ⟨[], ?_⟩
        repeat (any_goals first | simp (dsimp := false) (maxSteps := 4000000) (maxDischargeDepth := 8) (implicitDefEqProofs := false) [*, -Int.not_le, -Int.not_lt, amLt, f42c, f42m8, f42r0, f42r1, f42r2, f42r3, f42r4, f42r5, f42r6, f42r7, f42r8, f42r9, f42r10, f42r11, f42r12, f42r13, f42r14, f42r15, f42r16, f42r17, f42r18, f42r19, f42r20, f42r21, f42r22, f42r23, f42r24, f42r25, f42r26, f42r27, f42r28, f42r29, f42r30, f42l8_b, obound_some, obound_none, abound_int] | with_reducible refine ch_both (fun _ => ?_) (fun _ => ?_) | with_reducible refine ite_both (fun _ => ?_) (fun _ => ?_) | intro _)
      · refine ⟨[], ?_⟩
        repeat (any_goals first | simp (dsimp := false) (maxSteps := 4000000) (maxDischargeDepth := 8) (implicitDefEqProofs := false) [*, -Int.not_le, -Int.not_lt, amLt, f42c, f42m8, f42r0, f42r1, f42r2, f42r3, f42r4, f42r5, f42r6, f42r7, f42r8, f42r9, f42r10, f42r11, f42r12, f42r13, f42r14, f42r15, f42r16, f42r17, f42r18, f42r19, f42r20, f42r21, f42r22, f42r23, f42r24, f42r25, f42r26, f42r27, f42r28, f42r29, f42r30, f42l8_b, obound_some, obound_none, abound_int] | with_reducible refine ch_both (fun _ => ?_) (fun _ => ?_) | with_reducible refine ite_both (fun _ => ?_) (fun _ => ?_) | intro _)
      · show _ = _
        repeat (any_goals first | simp (dsimp := false) (maxSteps := 4000000) (maxDischargeDepth := 8) (implicitDefEqProofs := false) [*, -Int.not_le, -Int.not_lt, amLt, f42c, f42m8, f42r0, f42r1, f42r2, f42r3, f42r4, f42r5, f42r6, f42r7, f42r8, f42r9, f42r10, f42r11, f42r12, f42r13, f42r14, f42r15, f42r16, f42r17, f42r18, f42r19, f42r20, f42r21, f42r22, f42r23, f42r24, f42r25, f42r26, f42r27, f42r28, f42r29, f42r30, f42l8_b, obound_some, obound_none, abound_int] | with_reducible refine ch_both (fun _ => ?_) (fun _ => ?_) | with_reducible refine ite_both (fun _ => ?_) (fun _ => ?_) | intro _)
      · show _ = _
        repeat (any_goals first | simp (dsimp := false) (maxSteps := 4000000) (maxDischargeDepth := 8) (implicitDefEqProofs := false) [*, -Int.not_le, -Int.not_lt, amLt, f42c, f42m8, f42r0, f42r1, f42r2, f42r3, f42r4, f42r5, f42r6, f42r7, f42r8, f42r9, f42r10, f42r11, f42r12, f42r13, f42r14, f42r15, f42r16, f42r17, f42r18, f42r19, f42r20, f42r21, f42r22, f42r23, f42r24, f42r25, f42r26, f42r27, f42r28, f42r29, f42r30, f42l8_b, obound_some, obound_none, abound_int] | with_reducible refine ch_both (fun _ => ?_) (fun _ => ?_) | with_reducible refine ite_both (fun _ => ?_) (fun _ => ?_) | intro _)
      · have hS : sufR false false [76, b] = none := (show sufR false true [b] = none by simp [sufR, g1, g2])
        rw [hS]
        show _ = _
        clear hS g1 g2
        repeat (any_goals first | simp (dsimp := false) (maxSteps := 4000000) (maxDischargeDepth := 8) (implicitDefEqProofs := false) [*, -Int.not_le, -Int.not_lt, amLt, f42c, f42m8, f42r0, f42r1, f42r2, f42r3, f42r4, f42r5, f42r6, f42r7, f42r8, f42r9, f42r10, f42r11, f42r12, f42r13, f42r14, f42r15, f42r16, f42r17, f42r18, f42r19, f42r20, f42r21, f42r22, f42r23, f42r24, f42r25, f42r26, f42r27, f42r28, f42r29, f42r30, f42l8_b, obound_some, obound_none, abound_int] | with_reducible refine ch_both (fun _ => ?_) (fun _ => ?_) | with_reducible refine ite_both (fun _ => ?_) (fun _ => ?_) | intro _)
    · have hS : sufR false false [a, b] = none := by simp [sufR, g1, g2]
      rw [hS]
      show _ = _
      clear hS g1 g2
      repeat (any_goals first | simp (dsimp := false) (maxSteps := 4000000) (maxDischargeDepth := 8) (implicitDefEqProofs := false) [*, -Int.not_le, -Int.not_lt, amLt, f42c, f42m8, f42r0, f42r1, f42r2, f42r3, f42r4, f42r5, f42r6, f42r7, f42r8, f42r9, f42r10, f42r11, f42r12, f42r13, f42r14, f42r15, f42r16, f42r17, f42r18, f42r19, f42r20, f42r21, f42r22, f42r23, f42r24, f42r25, f42r26, f42r27, f42r28, f42r29, f42r30, f42l8_b, obound_some, obound_none, abound_int] | with_reducible refine ch_both (fun _ => ?_) (fun _ => ?_) | with_reducible refine ite_both (fun _ => ?_) (fun _ => ?_) | intro _)
  | a :: b :: c :: t =>
    have hS : sufR false false (a :: b :: c :: t) = none := by
      cases q : sufR false false (a :: b :: c :: t) with
      | none => rfl
      | some p =>
        have := suf_len q
        simp only [List.length_cons] at this
        omega
    rw [hS]
    show _ = _
    have n0 : ¬ (a :: b :: c :: t) = [] := by simp
    have n1 : ∀ x, ¬ (a :: b :: c :: t) = [x] := by simp
    have m1 := n1 117
    have m2 := n1 85
    have m3 := n1 108
    have m4 := n1 76
    have hl2 : ¬ (((a :: b :: c :: t).length : Nat) : Int) = 2 := by simp only [List.length_cons]; omega
    generalize a :: b :: c :: t = R at *
    clear hi hS n1
    repeat (any_goals first | simp (dsimp := false) (maxSteps := 4000000) (maxDischargeDepth := 8) (implicitDefEqProofs := false) [*, -Int.not_le, -Int.not_lt, amLt, f42c, f42m8, f42r0, f42r1, f42r2, f42r3, f42r4, f42r5, f42r6, f42r7, f42r8, f42r9, f42r10, f42r11, f42r12, f42r13, f42r14, f42r15, f42r16, f42r17, f42r18, f42r19, f42r20, f42r21, f42r22, f42r23, f42r24, f42r25, f42r26, f42r27, f42r28, f42r29, f42r30, f42l8_b, obound_some, obound_none, abound_int] | with_reducible refine ch_both (fun _ => ?_) (fun _ => ?_) | with_reducible refine ite_both (fun _ => ?_) (fun _ => ?_) | intro _)

end Go.Proofs.YtmpdpjkblcdfkaaGreatDoor
