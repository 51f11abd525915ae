/- The reference: numbers; they are read alike. -/
import Derived.Test.YtmpdpjkblcdfkaaGreatDoorZi
import Derived.Test.YtmpdpjkblcdfkaaGreatDoorAmW
namespace Go.Proofs.YtmpdpjkblcdfkaaGreatDoor
open Go.AM
set_option maxRecDepth 20000
set_option maxHeartbeats 4000000
set_option linter.unusedSimpArgs false
set_option linter.unusedVariables false
attribute [local congr] andF_cg onF_cg bthen_cg bkeep_cg bcond_cg guardV_cg putF_cg guardF_cg ite_cg stepsF_cg
attribute [local simp] Brun_skip Brun_exit Brun_ret Brun_seq Brun_cond Brun_block Brun_region bthen_normal bthen_ret bthen_exit bblock_normal bblock_ret bblock_exit bkeep_some andF_some onF_some onF_none guardF_none guardF_some guardV_tup putF_some putF_none stepsF_nil stepsF_cons upd_apply ofL_cons ofL_nil bown_normal bown_ret banswer_normal banswer_ret aresults ares List.replicate stepF_call stepF_callD stepF_move stepF_pick stepF_alloc stepF_allocV stepF_box stepF_boxV stepF_build stepF_buildSlice stepF_buildSliceV stepF_load stepF_store stepF_nilCheck stepF_bin stepF_eq stepF_un stepF_conv stepF_strId stepF_toStr stepF_toBytes stepF_fn stepF_mkSlice stepF_slice stepF_strSlice stepF_fieldAddr stepF_field stepF_idxAddr stepF_idxArr stepF_index stepF_strIndex stepF_extract stepF_len0 stepF_len1 stepF_min stepF_max stepF_append stepF_appendF appF_none appF_row stepF_mkMap stepF_mkIface stepF_lookup stepF_mapUpdate stepF_ext aext_idx aext_count aext_same cellsF newF abin_add abin_sub abin_mul abin_quo abin_rem abin_eql abin_neq abin_lss abin_leq abin_gtr abin_geq abin_and abin_or abin_xor abin_shl abin_shr abin_seql abin_sneq aun_not aun_neg aeq_bool aeq_agg eqCells_nil eqCells_int eqCells_bool eqCells_str cellsOf_agg cellsOf_int cellsOf_bool cellsOf_str cellsOf_is cellsOf_ms cellsOf_fn cellsOf_nilp cellsOf_mp cellsOf_mm cellsOf_nilm cellsOf_nili cellsOf_ifc cellsOf_ip cget_one cget_agg ev_t ev_c fillp_nil fillp_cons isSc_int isSc_bool isSc_str isSc_is isSc_ms isSc_fn isSc_mm isSc_mp isSc_ip isSc_nilp isSc_nilm isSc_nili isSc_nilf isSc_ifc splice chunk strip strip.stripL imm imm.immL Areify_int Areify_bool Areify_str Areify_is Areify_nilp Areify_tup Areify_agg AreifyL andF_chi andF_ch onF_chi onF_ch bthen_ch bthen_chi bblock_ch bblock_chi bkeep_ch bkeep_chi bown_ch bown_chi banswer_ch banswer_chi isSome_ch bcond_ch guardV_ch1 guardV_ch0 chF_true chF_false chF_not
attribute [local simp ↓] andF_some andF_chi andF_ch onF_some onF_none onF_chi onF_ch bthen_normal bthen_ret bthen_exit bthen_ch bthen_chi bblock_normal bblock_ret bblock_exit bblock_ch bblock_chi bkeep_some bkeep_ch bkeep_chi bown_normal bown_ret bown_ch bown_chi banswer_normal banswer_ret banswer_ch banswer_chi bcond_ch guardV_ch1 guardV_ch0 guardV_tup guardF_none guardF_some putF_some putF_none stepsF_nil stepsF_cons chF_true chF_false Brun_seq Brun_cond Brun_block Brun_region Brun_skip Brun_ret Brun_exit stepF_call stepF_callD stepF_move stepF_pick stepF_alloc stepF_allocV stepF_box stepF_boxV stepF_build stepF_buildSlice stepF_buildSliceV stepF_load stepF_store stepF_nilCheck stepF_bin stepF_eq stepF_un stepF_conv stepF_strId stepF_toStr stepF_toBytes stepF_fn stepF_mkSlice stepF_slice stepF_strSlice stepF_fieldAddr stepF_field stepF_idxAddr stepF_idxArr stepF_index stepF_strIndex stepF_extract stepF_len0 stepF_len1 stepF_min stepF_max stepF_append stepF_appendF stepF_mkMap stepF_mkIface stepF_lookup stepF_mapUpdate stepF_ext
set_option maxHeartbeats 2000000
def rtailC : ACode := .seq (.seq (.region false f42r24 [2, 4, 7, 8, 9, 123] 0)
  (.cond (.t 123)
    (.seq (.region false f42r25 [2, 3] 0)
    (.ret))
    (.skip)))
  (.seq (.seq (.region false f42r26 [2, 4, 7, 8, 9, 130] 0)
  (.cond (.t 130)
    (.seq (.seq (.region false f42r27 [2, 7, 9, 132] 0)
    (.cond (.t 132)
      (.seq (.region false f42r28 [2, 3] 0)
      (.ret))
      (.skip)))
    (.region false f42r29 [2, 7, 8, 9] 0))
    (.skip)))
  (.seq (.region false f42r30 [2, 3] 0)
  (.ret)))
def rfin (base i first n : Nat) (u l : Bool) : Option (List UInt8 × Nat) :=
  if i = first then none else if 2147483647 < n ∧ u = false then (if base = 10 then none else some (typT true l, n)) else some (typT u l, n)
theorem rtail_ok (base i first n : Nat) (u l : Bool) (ex : List (Nat × AV)) (c0 c1 c2 c3 c4 c5 : AV) :
    bown [.cell 2 true 6, .tmp 3] (Brun tab 139 rtailC (ofL ((2, .mp 0 0) :: (4, .int .i64 base) :: (5, .int .i64 i) :: (6, .int .i64 first) :: (7, .int .i64 n) :: (8, .bool u) :: (9, .bool l) :: ex)) [.cells [c0, c1, c2, c3, c4, c5]]) = some (numV (rfin base i first n u l)) := by
  unfold rtailC rfin
  by_cases q1 : i = first
  · subst q1
    rw [if_pos rfl]
    repeat (any_goals first | simp (dsimp := false) (maxSteps := 4000000) (maxDischargeDepth := 8) (implicitDefEqProofs := false) [*, -Int.not_le, -Int.not_lt, amLt, f42c, f42m8, f42r0, f42r1, f42r2, f42r3, f42r4, f42r5, f42r6, f42r7, f42r8, f42r9, f42r10, f42r11, f42r12, f42r13, f42r14, f42r15, f42r16, f42r17, f42r18, f42r19, f42r20, f42r21, f42r22, f42r23, f42r24, f42r25, f42r26, f42r27, f42r28, f42r29, f42r30, f42l8_b, numV] | with_reducible refine ch_both (fun _ => ?_) (fun _ => ?_) | with_reducible refine ite_both (fun _ => ?_) (fun _ => ?_) | intro _)
  · have q1' : ¬ (i : Int) = first := by omega
    rw [if_neg q1]
    by_cases q2 : 2147483647 < n
    · have q2' : 2147483647 < (n : Int) := by omega
      cases u with
      | true =>
        rw [if_neg (by simp)]
        clear q1 q2
        repeat (any_goals first | simp (dsimp := false) (maxSteps := 4000000) (maxDischargeDepth := 8) (implicitDefEqProofs := false) [*, -Int.not_le, -Int.not_lt, amLt, f42c, f42m8, f42r0, f42r1, f42r2, f42r3, f42r4, f42r5, f42r6, f42r7, f42r8, f42r9, f42r10, f42r11, f42r12, f42r13, f42r14, f42r15, f42r16, f42r17, f42r18, f42r19, f42r20, f42r21, f42r22, f42r23, f42r24, f42r25, f42r26, f42r27, f42r28, f42r29, f42r30, f42l8_b, numV, rtype_ok] | with_reducible refine ch_both (fun _ => ?_) (fun _ => ?_) | with_reducible refine ite_both (fun _ => ?_) (fun _ => ?_) | intro _)
      | false =>
        rw [if_pos ⟨q2, rfl⟩]
        by_cases q3 : base = 10
        · rw [if_pos q3]
          have q3' : (base : Int) = 10 := by omega
          clear q1 q2 q3
          repeat (any_goals first | simp (dsimp := false) (maxSteps := 4000000) (maxDischargeDepth := 8) (implicitDefEqProofs := false) [*, -Int.not_le, -Int.not_lt, amLt, f42c, f42m8, f42r0, f42r1, f42r2, f42r3, f42r4, f42r5, f42r6, f42r7, f42r8, f42r9, f42r10, f42r11, f42r12, f42r13, f42r14, f42r15, f42r16, f42r17, f42r18, f42r19, f42r20, f42r21, f42r22, f42r23, f42r24, f42r25, f42r26, f42r27, f42r28, f42r29, f42r30, f42l8_b, numV, rtype_ok] | with_reducible refine ch_both (fun _ => ?_) (fun _ => ?_) | with_reducible refine ite_both (fun _ => ?_) (fun _ => ?_) | intro _)
        · rw [if_neg q3]
          have q3' : ¬ (base : Int) = 10 := by omega
          clear q1 q2 q3
          repeat (any_goals first | simp (dsimp := false) (maxSteps := 4000000) (maxDischargeDepth := 8) (implicitDefEqProofs := false) [*, -Int.not_le, -Int.not_lt, amLt, f42c, f42m8, f42r0, f42r1, f42r2, f42r3, f42r4, f42r5, f42r6, f42r7, f42r8, f42r9, f42r10, f42r11, f42r12, f42r13, f42r14, f42r15, f42r16, f42r17, f42r18, f42r19, f42r20, f42r21, f42r22, f42r23, f42r24, f42r25, f42r26, f42r27, f42r28, f42r29, f42r30, f42l8_b, numV, rtype_ok] | with_reducible refine ch_both (fun _ => ?_) (fun _ => ?_) | with_reducible refine ite_both (fun _ => ?_) (fun _ => ?_) | intro _)
    · have q2' : ¬ 2147483647 < (n : Int) := by omega
      rw [if_neg (fun h => q2 h.1)]
      clear q1 q2
      repeat (any_goals first | simp (dsimp := false) (maxSteps := 4000000) (maxDischargeDepth := 8) (implicitDefEqProofs := false) [*, -Int.not_le, -Int.not_lt, amLt, f42c, f42m8, f42r0, f42r1, f42r2, f42r3, f42r4, f42r5, f42r6, f42r7, f42r8, f42r9, f42r10, f42r11, f42r12, f42r13, f42r14, f42r15, f42r16, f42r17, f42r18, f42r19, f42r20, f42r21, f42r22, f42r23, f42r24, f42r25, f42r26, f42r27, f42r28, f42r29, f42r30, f42l8_b, numV, rtype_ok] | with_reducible refine ch_both (fun _ => ?_) (fun _ => ?_) | with_reducible refine ite_both (fun _ => ?_) (fun _ => ?_) | intro _)
def baseR (s : List UInt8) : Nat × Nat := if hexPre s = true then (16, 2) else if zeroPre s = true then (8, 0) else (10, 0)
def rnumR (s : List UInt8) : Option (List UInt8 × Nat) := match digN (baseR s).1 0 (s.drop (baseR s).2) with
  | none => none
  | some (n, rest) => match sufR false false rest with
    | none => none
    | some (u, l) => rfin (baseR s).1 (s.length - rest.length) (baseR s).2 n u l
theorem digN_drop {base : Nat} : ∀ {r : List UInt8} {n m : Nat} {rest : List UInt8}, digN base n r = some (m, rest) → ∃ k, rest = r.drop k ∧ k ≤ r.length := by
  intro r
  induction r with
  | nil => intro n m rest h; cases h; exact ⟨0, rfl, Nat.le_refl _⟩
  | cons b t ih =>
    intro n m rest h
    unfold digN at h
    split at h
    · split at h
      · cases h
      · obtain ⟨k, h1, h2⟩ := ih h
        exact ⟨k + 1, by rw [h1]; rfl, by simp only [List.length_cons]; omega⟩
    · cases h; exact ⟨0, rfl, Nat.zero_le _⟩
def rheadC (Y : ACode) : ACode := .seq (.region false f42r0 [0, 2] 1)
  (.seq (.region false f42r1 [0, 2, 4, 5] 0)
  (.seq (.seq (.region false f42r2 [0, 2, 4, 5, 13] 0)
  (.cond (.t 13)
    (.seq (.region false f42r3 [0, 2, 4, 5] 0)
    (.seq (.region false f42r4 [0, 2, 4, 5, 26] 0)
    (.cond (.t 26)
      (.region false f42r5 [0, 2, 4, 5] 0)
      (.skip))))
    (.skip)))
  (.seq (.region false f42r6 [0, 2, 4, 5, 6] 0)
  (.seq (.region false f42r7 [0, 2, 4, 5, 6, 7] 0)
  Y))))
theorem x120 (x : UInt8) : or32 x.toNat = 120 ↔ ((x.toNat : Int) = 120 ∨ (x.toNat : Int) = 88) := by
  unfold or32
  split <;> omega
theorem rhead_ok (s : List UInt8) (c : UInt8) (h0 : s[0]? = some c) (Y : ACode) :
    Brun tab 139 (rheadC Y) (ofL [(0, .str s)]) [] = Brun tab 139 Y (ofL [(0, .str s), (2, .mp 0 0), (4, .int .i64 (baseR s).1), (5, .int .i64 (baseR s).2), (6, .int .i64 (baseR s).2), (7, .int .i64 0)]) [.cells [.int .i64 0, .str [], .int .i64 0, .int .i64 0, .int .i64 0, .int .i64 0]] := by
  have hlt := lt_get h0
  unfold rheadC baseR
  by_cases hz : c = 48
  · have hz' : (c.toNat : Int) = 48 := by rw [hz]; rfl
    have hzp : zeroPre s = true := (zeroPre_iff s).2 (by rw [h0, hz])
    cases h1 : s[1]? with
    | none =>
      have hx : ¬ hexPre s = true := fun h => by obtain ⟨x, _, h2, _⟩ := (hexPre_iff s).1 h; rw [h1] at h2; cases h2
      have e1 := List.getElem?_eq_none_iff.1 h1
      have e2 : ¬ 1 < (s.length : Int) := by omega
      rw [if_neg hx, if_pos hzp]
      dsimp only
      clear hx hzp hlt e1 hz
      repeat (any_goals first | simp (dsimp := false) (maxSteps := 4000000) (maxDischargeDepth := 8) (implicitDefEqProofs := false) [*, -Int.not_le, -Int.not_lt, amLt, f42c, f42m8, f42r0, f42r1, f42r2, f42r3, f42r4, f42r5, f42r6, f42r7, f42r8, f42r9, f42r10, f42r11, f42r12, f42r13, f42r14, f42r15, f42r16, f42r17, f42r18, f42r19, f42r20, f42r21, f42r22, f42r23, f42r24, f42r25, f42r26, f42r27, f42r28, f42r29, f42r30, f42l8_b] | with_reducible refine ch_both (fun _ => ?_) (fun _ => ?_) | with_reducible refine ite_both (fun _ => ?_) (fun _ => ?_) | intro _)
    | some x =>
      have e1 := lt_get h1
      have e2 : 1 < (s.length : Int) := by omega
      by_cases hx : hexPre s = true
      · obtain ⟨y, _, h2, h3⟩ := (hexPre_iff s).1 hx
        rw [h1] at h2
        cases h2
        rw [if_pos hx]
        dsimp only
        rcases (x120 x).1 h3 with q | q
        · clear hx hzp hlt e1 hz h3
          repeat (any_goals first | simp (dsimp := false) (maxSteps := 4000000) (maxDischargeDepth := 8) (implicitDefEqProofs := false) [*, -Int.not_le, -Int.not_lt, amLt, f42c, f42m8, f42r0, f42r1, f42r2, f42r3, f42r4, f42r5, f42r6, f42r7, f42r8, f42r9, f42r10, f42r11, f42r12, f42r13, f42r14, f42r15, f42r16, f42r17, f42r18, f42r19, f42r20, f42r21, f42r22, f42r23, f42r24, f42r25, f42r26, f42r27, f42r28, f42r29, f42r30, f42l8_b] | with_reducible refine ch_both (fun _ => ?_) (fun _ => ?_) | with_reducible refine ite_both (fun _ => ?_) (fun _ => ?_) | intro _)
        · clear hx hzp hlt e1 hz h3
          repeat (any_goals first | simp (dsimp := false) (maxSteps := 4000000) (maxDischargeDepth := 8) (implicitDefEqProofs := false) [*, -Int.not_le, -Int.not_lt, amLt, f42c, f42m8, f42r0, f42r1, f42r2, f42r3, f42r4, f42r5, f42r6, f42r7, f42r8, f42r9, f42r10, f42r11, f42r12, f42r13, f42r14, f42r15, f42r16, f42r17, f42r18, f42r19, f42r20, f42r21, f42r22, f42r23, f42r24, f42r25, f42r26, f42r27, f42r28, f42r29, f42r30, f42l8_b] | with_reducible refine ch_both (fun _ => ?_) (fun _ => ?_) | with_reducible refine ite_both (fun _ => ?_) (fun _ => ?_) | intro _)
      · have h3 : ¬ or32 x.toNat = 120 := fun h => hx ((hexPre_iff s).2 ⟨x, by rw [h0, hz], h1, h⟩)
        have q1 : ¬ (x.toNat : Int) = 120 := fun h => h3 ((x120 x).2 (.inl h))
        have q2 : ¬ (x.toNat : Int) = 88 := fun h => h3 ((x120 x).2 (.inr h))
        rw [if_neg hx, if_pos hzp]
        dsimp only
        clear hx hzp hlt e1 hz h3
        repeat (any_goals first | simp (dsimp := false) (maxSteps := 4000000) (maxDischargeDepth := 8) (implicitDefEqProofs := false) [*, -Int.not_le, -Int.not_lt, amLt, f42c, f42m8, f42r0, f42r1, f42r2, f42r3, f42r4, f42r5, f42r6, f42r7, f42r8, f42r9, f42r10, f42r11, f42r12, f42r13, f42r14, f42r15, f42r16, f42r17, f42r18, f42r19, f42r20, f42r21, f42r22, f42r23, f42r24, f42r25, f42r26, f42r27, f42r28, f42r29, f42r30, f42l8_b] | with_reducible refine ch_both (fun _ => ?_) (fun _ => ?_) | with_reducible refine ite_both (fun _ => ?_) (fun _ => ?_) | intro _)
  · have hz' : ¬ (c.toNat : Int) = 48 := fun h => hz ((u48 c).2 h)
    have hzp : ¬ zeroPre s = true := fun h => by have := (zeroPre_iff s).1 h; rw [h0] at this; exact hz (Option.some.inj this)
    have hx : ¬ hexPre s = true := fun h => by obtain ⟨y, h2, _, _⟩ := (hexPre_iff s).1 h; rw [h0] at h2; exact hz (Option.some.inj h2)
    rw [if_neg hx, if_neg hzp]
    dsimp only
    clear hx hzp hlt hz
    repeat (any_goals first | simp (dsimp := false) (maxSteps := 4000000) (maxDischargeDepth := 8) (implicitDefEqProofs := false) [*, -Int.not_le, -Int.not_lt, amLt, f42c, f42m8, f42r0, f42r1, f42r2, f42r3, f42r4, f42r5, f42r6, f42r7, f42r8, f42r9, f42r10, f42r11, f42r12, f42r13, f42r14, f42r15, f42r16, f42r17, f42r18, f42r19, f42r20, f42r21, f42r22, f42r23, f42r24, f42r25, f42r26, f42r27, f42r28, f42r29, f42r30, f42l8_b] | with_reducible refine ch_both (fun _ => ?_) (fun _ => ?_) | with_reducible refine ite_both (fun _ => ?_) (fun _ => ?_) | intro _)
theorem rnumber_ok (h : Heap) (s : List UInt8) (c : UInt8) (h0 : s[0]? = some c) (hs : s.length ≤ 16777216) : Ccall tab 42 [.str s] h = some (numV (rnumR s), h) := by
  have hb : (baseR s).1 ≤ 16 ∧ (baseR s).2 ≤ s.length := by
    unfold baseR
    split
    · rename_i hx
      obtain ⟨y, _, h2, _⟩ := (hexPre_iff s).1 hx
      have := lt_get h2
      exact ⟨Nat.le_refl _, by dsimp only; omega⟩
    · split <;> exact ⟨by decide, Nat.zero_le _⟩
  have lp := rnum_loop s hs (baseR s).1 (baseR s).2 hb.1 (.int .i64 0) (.str []) (.int .i64 0) (.int .i64 0) (.int .i64 0) (.int .i64 0) (s.drop (baseR s).2) (baseR s).2 0 rfl hb.2 (by omega)
  refine Ccall_own rfl rfl rfl rfl ?_
  refine (congrArg _ (rhead_ok s c h0 (.seq (.block 0 (.loop f42l8)) (rsufC rtailC)))).trans ?_
  unfold rnumR
  rw [Brun_seq, Brun_block]
  simp only [Int.natCast_zero] at lp
  rw [lp]
  cases hD : digN (baseR s).1 0 (s.drop (baseR s).2) with
  | none =>
    dsimp only
    rw [bblock_ret, bthen_ret]
    clear lp
    repeat (any_goals first | simp (dsimp := false) (maxSteps := 4000000) (maxDischargeDepth := 8) (implicitDefEqProofs := false) [*, -Int.not_le, -Int.not_lt, amLt, f42c, f42m8, f42r0, f42r1, f42r2, f42r3, f42r4, f42r5, f42r6, f42r7, f42r8, f42r9, f42r10, f42r11, f42r12, f42r13, f42r14, f42r15, f42r16, f42r17, f42r18, f42r19, f42r20, f42r21, f42r22, f42r23, f42r24, f42r25, f42r26, f42r27, f42r28, f42r29, f42r30, f42l8_b, numV] | with_reducible refine ch_both (fun _ => ?_) (fun _ => ?_) | with_reducible refine ite_both (fun _ => ?_) (fun _ => ?_) | intro _)
  | some p =>
    obtain ⟨n, rest⟩ := p
    dsimp only
    rw [bblock_exit, if_pos rfl, bthen_normal]
    have hrest : s.drop (s.length - rest.length) = rest ∧ rest.length ≤ s.length := by
      obtain ⟨k, hk1, hk2⟩ := digN_drop hD
      rw [List.drop_drop] at hk1
      have hl := congrArg List.length hk1
      simp only [List.length_drop] at hl hk2
      refine ⟨?_, by omega⟩
      rw [show s.length - rest.length = (baseR s).2 + k by omega]
      exact hk1.symm
    have hR := rsuf_ok s (baseR s).1 (s.length - rest.length) (baseR s).2 n (by omega) (.int .i64 0) (.str []) (.int .i64 0) (.int .i64 0) (.int .i64 0) (.int .i64 0) rtailC rest hrest.1
    cases hS : sufR false false rest with
    | none =>
      rw [hS] at hR
      have hR' : Brun tab 139 (rsufC rtailC) _ _ = _ := hR
      rw [hR']
      clear lp hR hR'
      repeat (any_goals first | simp (dsimp := false) (maxSteps := 4000000) (maxDischargeDepth := 8) (implicitDefEqProofs := false) [*, -Int.not_le, -Int.not_lt, amLt, f42c, f42m8, f42r0, f42r1, f42r2, f42r3, f42r4, f42r5, f42r6, f42r7, f42r8, f42r9, f42r10, f42r11, f42r12, f42r13, f42r14, f42r15, f42r16, f42r17, f42r18, f42r19, f42r20, f42r21, f42r22, f42r23, f42r24, f42r25, f42r26, f42r27, f42r28, f42r29, f42r30, f42l8_b, numV] | with_reducible refine ch_both (fun _ => ?_) (fun _ => ?_) | with_reducible refine ite_both (fun _ => ?_) (fun _ => ?_) | intro _)
    | some q =>
      obtain ⟨u, l⟩ := q
      rw [hS] at hR
      obtain ⟨ex, hR⟩ := hR
      rw [hR]
      exact rtail_ok _ _ _ _ u l ex _ _ _ _ _ _
/-- A digit of the base. -/
def inB (base : Nat) (n : Nat) : Bool := decide (hexV n < base)
theorem digV_none {base : Nat} : ∀ {r : List UInt8} {v : Nat} {b : UInt8}, b ∈ r → ¬ hexV b.toNat < base → digV base v r = none := by
  intro r
  induction r with
  | nil => intro v b h; cases h
  | cons c t ih =>
    intro v b h hb
    unfold digV
    by_cases q : hexV c.toNat < base
    · rw [if_pos q]
      rcases List.mem_cons.1 h with rfl | h
      · exact absurd q hb
      · exact ih h hb
    · rw [if_neg q]
theorem digV_big {base : Nat} (hb : 1 ≤ base) : ∀ {r : List UInt8} {v w : Nat}, digV base v r = some w → 4294967295 < v → 4294967295 < w := by
  intro r
  induction r with
  | nil => intro v w h hv; cases h; exact hv
  | cons c t ih =>
    intro v w h hv
    unfold digV at h
    split at h
    · refine ih h ?_
      have : v * 1 ≤ v * base := Nat.mul_le_mul (Nat.le_refl _) hb
      omega
    · cases h
theorem digV_ok {base : Nat} : ∀ (r : List UInt8) (v : Nat), (∀ b ∈ r, hexV b.toNat < base) → ∃ w, digV base v r = some w := by
  intro r
  induction r with
  | nil => intro v _; exact ⟨v, rfl⟩
  | cons c t ih =>
    intro v h
    unfold digV
    rw [if_pos (h c (by simp))]
    exact ih _ (fun b hb => h b (by simp [hb]))
theorem digN_digV {base : Nat} (hb : 1 ≤ base) : ∀ (r : List UInt8) (n : Nat), n ≤ 4294967295 →
    match digN base n r with
    | some (m, rest) => rest = r.drop (runLen (inB base) r) ∧ digV base n (r.take (runLen (inB base) r)) = some m ∧ m ≤ 4294967295
    | none => ∃ w, digV base n (r.take (runLen (inB base) r)) = some w ∧ 4294967295 < w := by
  intro r
  induction r with
  | nil => intro n hn; exact ⟨rfl, rfl, hn⟩
  | cons b t ih =>
    intro n hn
    have hD : digN base n (b :: t) = if hexV b.toNat < base then (if 4294967295 < n * base + hexV b.toNat then none else digN base (n * base + hexV b.toNat) t) else some (n, b :: t) := rfl
    rw [hD, runLen_cons]
    by_cases q : hexV b.toNat < base
    · have q' : inB base b.toNat = true := by simp [inB, q]
      rw [if_pos q, if_pos q', List.take_succ_cons, List.drop_succ_cons]
      have hV : digV base n (b :: t.take (runLen (inB base) t)) = digV base (min 8589934592 (n * base + hexV b.toNat)) (t.take (runLen (inB base) t)) := by
        conv => lhs; unfold digV
        rw [if_pos q]
      rw [hV]
      by_cases q2 : 4294967295 < n * base + hexV b.toNat
      · rw [if_pos q2]
        obtain ⟨w, hw⟩ := digV_ok (base := base) (t.take (runLen (inB base) t)) (min 8589934592 (n * base + hexV b.toNat)) (fun b hb => by
          have := run_mem (Nat.le_refl (runLen (inB base) t)) b hb
          simpa [inB] using this)
        exact ⟨w, hw, digV_big hb hw (by omega)⟩
      · rw [if_neg q2]
        have := ih (n * base + hexV b.toNat) (by omega)
        rw [Nat.min_eq_right (by omega)]
        exact this
    · have q' : ¬ inB base b.toNat = true := by simp [inB, q]
      rw [if_neg q, if_neg q']
      exact ⟨rfl, rfl, hn⟩
theorem suf_all : ∀ {r : List UInt8} {u l : Bool} {p : Bool × Bool}, sufR u l r = some p → ∀ b ∈ r, ulS.contains b = true := by
  intro r
  induction r with
  | nil => intro u l p _ b hb; cases hb
  | cons c t ih =>
    intro u l p h b hb
    have hc : ulS.contains c = true ∧ ∃ u' l', sufR u' l' t = some p := by
      rcases cls c with rfl | rfl | rfl | rfl | ⟨g1, g2, _⟩
      · refine ⟨by decide, ?_⟩
        cases u with
        | true => cases h
        | false => exact ⟨true, l, h⟩
      · refine ⟨by decide, ?_⟩
        cases u with
        | true => cases h
        | false => exact ⟨true, l, h⟩
      · refine ⟨by decide, ?_⟩
        cases l with
        | true => cases h
        | false => exact ⟨u, true, h⟩
      · refine ⟨by decide, ?_⟩
        cases l with
        | true => cases h
        | false => exact ⟨u, true, h⟩
      · unfold sufR at h
        rw [if_neg g1, if_neg g2] at h
        cases h
    obtain ⟨h1, u', l', h2⟩ := hc
    rcases List.mem_cons.1 hb with rfl | hb
    · exact h1
    · exact ih h2 b hb
theorem trim_split {D rest : List UInt8} (h1 : ∀ b ∈ rest, ulS.contains b = true) (h2 : ∀ b ∈ D, ulS.contains b = false) : Go.Lib.trimRightS (D ++ rest) ulS = D := by
  unfold Go.Lib.trimRightS
  have key : ∀ (a b : List UInt8), (∀ x ∈ a, ulS.contains x = true) → (∀ x ∈ b, ulS.contains x = false) → (a ++ b).dropWhile (ulS.contains ·) = b := by
    intro a
    induction a with
    | nil =>
      intro b _ hb
      cases b with
      | nil => rfl
      | cons y t => rw [List.nil_append, List.dropWhile_cons, if_neg (by rw [hb y (by simp)]; simp)]
    | cons x t ih =>
      intro b ha hb
      rw [List.cons_append, List.dropWhile_cons, if_pos (ha x (by simp))]
      exact ih b (fun y hy => ha y (by simp [hy])) hb
  rw [List.reverse_append, key _ _ (fun x hx => h1 x (by simpa using hx)) (fun x hx => h2 x (by simpa using hx)), List.reverse_reverse]
theorem trim_pre (s : List UInt8) : ∃ j, j ≤ s.length ∧ Go.Lib.trimRightS s ulS = s.take j ∧ ∀ b ∈ s.drop j, ulS.contains b = true := by
  have hs : s = Go.Lib.trimRightS s ulS ++ (s.reverse.takeWhile (ulS.contains ·)).reverse := by
    unfold Go.Lib.trimRightS
    rw [← List.reverse_append, List.takeWhile_append_dropWhile, List.reverse_reverse]
  have hall : ∀ b ∈ (s.reverse.takeWhile (ulS.contains ·)).reverse, ulS.contains b = true := by
    intro b hb
    have := List.mem_reverse.1 hb
    exact List.all_eq_true.1 (List.all_takeWhile (p := (ulS.contains ·)) (l := s.reverse)) b this
  generalize Go.Lib.trimRightS s ulS = A at *
  generalize (s.reverse.takeWhile (ulS.contains ·)).reverse = B at *
  subst hs
  exact ⟨A.length, by simp, by simp, by simpa using hall⟩
theorem get0_take {s : List UInt8} {j : Nat} (hj : 0 < j) : (s.take j)[0]? = s[0]? := by rw [List.getElem?_take]; simp [hj]
theorem hexPre_take {s : List UInt8} {j : Nat} (h : hexPre (s.take j) = true) : hexPre s = true := by
  obtain ⟨x, h0, h1, h2⟩ := (hexPre_iff _).1 h
  refine (hexPre_iff s).2 ⟨x, ?_, ?_, h2⟩
  · rw [List.getElem?_take] at h0
    split at h0
    · exact h0
    · cases h0
  · rw [List.getElem?_take] at h1
    split at h1
    · exact h1
    · cases h1
theorem hex_ul {b : UInt8} (h : hexV b.toNat < 16) : ulS.contains b = false := by
  have := byte_all (p := fun n => decide (hexV n < 16) == false || (UInt8.ofNat n != 117 && UInt8.ofNat n != 85 && UInt8.ofNat n != 108 && UInt8.ofNat n != 76)) (by decide +kernel) b
  rw [show UInt8.ofNat b.toNat = b from UInt8.ofNat_toNat] at this
  simp [h] at this
  simp [ulS, this]
theorem numberR_val (s : List UInt8) : numberR s = match sufR false false (s.drop (bodyR s).length) with
  | none => none
  | some (u, l) => match valueR (bodyR s) with
    | none => none
    | some (v, ten) => if 4294967295 < v then none else if u = false ∧ 2147483647 < v ∧ ten = true then none else some (typT (u || decide (2147483647 < v)) l, v) := rfl
/-- The last step, both ways. -/
theorem fin_eq (base : Nat) (ten : Bool) (ht : ten = decide (base = 10)) (i first n : Nat) (hi : i ≠ first) (hn : n ≤ 4294967295) (u l : Bool) :
    (if 4294967295 < n then none else if u = false ∧ 2147483647 < n ∧ ten = true then none else some (typT (u || decide (2147483647 < n)) l, n)) = rfin base i first n u l := by
  unfold rfin
  rw [if_neg (by omega), if_neg hi]
  subst ht
  by_cases q2 : 2147483647 < n
  · cases u with
    | true => simp [q2]
    | false => by_cases q3 : base = 10 <;> simp [q2, q3]
  · simp [q2]
theorem number_low (s : List UInt8) (base : Nat) (ten : Bool) (ht : ten = decide (base = 10)) (hb : 1 ≤ base ∧ base ≤ 16) (hx : ¬ hexPre s = true) (hB : baseR s = (base, 0))
    (hv : ∀ j, 0 < j → j ≤ s.length → valueR (s.take j) = (digV base 0 (s.take j)).map (·, ten)) (h0 : 0 < runLen (inB base) s) : numberR s = rnumR s := by
  have hbody : bodyR s = Go.Lib.trimRightS s ulS := by unfold bodyR; rw [if_neg (fun h => hx h.2)]
  have hD := digN_digV hb.1 s 0 (by omega)
  have hle := runLen_le (inB base) s
  rw [numberR_val, hbody]
  unfold rnumR
  rw [hB]
  dsimp only
  rw [List.drop_zero]
  by_cases hall : ∀ b ∈ s.drop (runLen (inB base) s), ulS.contains b = true
  · have htr : Go.Lib.trimRightS s ulS = s.take (runLen (inB base) s) := by
      have := trim_split (D := s.take (runLen (inB base) s)) hall (fun b hb2 => by
        have := run_mem (Nat.le_refl (runLen (inB base) s)) b hb2
        have h3 : hexV b.toNat < base := by simpa [inB] using this
        exact hex_ul (by omega))
      rwa [List.take_append_drop] at this
    rw [htr, show (s.take (runLen (inB base) s)).length = runLen (inB base) s by simp only [List.length_take]; omega, hv _ h0 hle]
    cases hN : digN base 0 s with
    | none =>
      rw [hN] at hD
      obtain ⟨w, hw1, hw2⟩ := hD
      rw [hw1]
      cases sufR false false (s.drop (runLen (inB base) s)) with
      | none => rfl
      | some p => simp only [Option.map_some]; rw [if_pos hw2]
    | some p =>
      obtain ⟨m, rest⟩ := p
      rw [hN] at hD
      obtain ⟨h1, h2, h3⟩ := hD
      rw [h2, ← h1]
      dsimp only
      cases hS : sufR false false rest with
      | none => rfl
      | some p =>
        obtain ⟨u, l⟩ := p
        simp only [Option.map_some]
        have hrl := congrArg List.length h1
        simp only [List.length_drop] at hrl
        exact fin_eq base ten ht _ _ m (by omega) h3 u l
  · have hnone : sufR false false (s.drop (runLen (inB base) s)) = none := by
      cases q : sufR false false (s.drop (runLen (inB base) s)) with
      | none => rfl
      | some p => exact absurd (suf_all q) hall
    have hR : (match digN base 0 s with
      | none => none
      | some (n, rest) => match sufR false false rest with
        | none => none
        | some (u, l) => rfin base (s.length - rest.length) 0 n u l) = none := by
      cases hN : digN base 0 s with
      | none => rfl
      | some p =>
        obtain ⟨m, rest⟩ := p
        rw [hN] at hD
        dsimp only
        rw [hD.1, hnone]
    refine Eq.trans ?_ hR.symm
    obtain ⟨j, hj1, hj2, hj3⟩ := trim_pre s
    have hkj : runLen (inB base) s < j := by
      rcases Nat.lt_or_ge (runLen (inB base) s) j with q | q
      · exact q
      · exfalso
        apply hall
        intro b hb2
        apply hj3
        have : s.drop (runLen (inB base) s) = (s.drop j).drop (runLen (inB base) s - j) := by rw [List.drop_drop]; congr 1; omega
        rw [this] at hb2
        exact List.mem_of_mem_drop hb2
    have hks : runLen (inB base) s < s.length := by omega
    have hout := runLen_out (inB base) s s[runLen (inB base) s] (List.getElem?_eq_getElem hks)
    have hmem : s[runLen (inB base) s] ∈ s.take j := List.mem_iff_getElem?.2 ⟨runLen (inB base) s, by rw [List.getElem?_take, if_pos hkj, List.getElem?_eq_getElem hks]⟩
    have hvn : digV base 0 (s.take j) = none := digV_none hmem (by simpa [inB] using hout)
    rw [hj2, hv j (by omega) hj1, hvn]
    cases sufR false false (s.drop (s.take j).length) with
    | none => rfl
    | some p => rfl
theorem number_eq (s : List UInt8) (c : UInt8) (h0 : s[0]? = some c) (hc : isDig c.toNat = true) : numberR s = rnumR s := by
  have hcd : 48 ≤ c.toNat ∧ c.toNat ≤ 57 := by simpa [isDig] using hc
  have hh : hexV c.toNat < 10 := by unfold hexV; rw [if_pos hcd]; omega
  have hlt := lt_get h0
  have hrun : ∀ base, hexV c.toNat < base → 0 < runLen (inB base) s := by
    intro base hb
    cases s with
    | nil => simp at h0
    | cons a t =>
      simp at h0
      subst h0
      exact run_pos (by simp [inB, hb])
  by_cases hx : hexPre s = true
  · obtain ⟨x, h00, h1, h2⟩ := (hexPre_iff s).1 hx
    have hl1 := lt_get h1
    have hB : baseR s = (16, 2) := by unfold baseR; rw [if_pos hx]
    have hD := digN_digV (base := 16) (by omega) (s.drop 2) 0 (by omega)
    have hpq : inB 16 = isHex := rfl
    rw [hpq] at hD
    have hle := runLen_le isHex (s.drop 2)
    simp only [List.length_drop] at hle
    have hR : rnumR s = match digN 16 0 (s.drop 2) with
      | none => none
      | some (n, rest) => match sufR false false rest with
        | none => none
        | some (u, l) => rfin 16 (s.length - rest.length) 2 n u l := by
      unfold rnumR
      rw [hB] <;> rfl
    rw [hR, numberR_val]
    by_cases hl2 : 2 < s.length
    · have hbody : bodyR s = s.take (2 + runLen isHex (s.drop 2)) := by unfold bodyR; rw [if_pos ⟨hl2, hx⟩]
      have hbx : hexPre (s.take (2 + runLen isHex (s.drop 2))) = true := by
        refine (hexPre_iff _).2 ⟨x, ?_, ?_, h2⟩
        · rw [List.getElem?_take, if_pos (by omega)]; exact h00
        · rw [List.getElem?_take, if_pos (by omega)]; exact h1
      have hbd : (s.take (2 + runLen isHex (s.drop 2))).drop 2 = (s.drop 2).take (runLen isHex (s.drop 2)) := by
        rw [List.drop_take]; congr 1; omega
      have hval : valueR (bodyR s) = if (s.drop 2).take (runLen isHex (s.drop 2)) = [] then none else (digV 16 0 ((s.drop 2).take (runLen isHex (s.drop 2)))).map (·, false) := by
        rw [hbody]
        unfold valueR
        rw [if_pos hbx, hbd]
      have hbl : (bodyR s).length = 2 + runLen isHex (s.drop 2) := by rw [hbody]; simp only [List.length_take]; omega
      rw [hval, hbl, ← List.drop_drop]
      cases hN : digN 16 0 (s.drop 2) with
      | none =>
        rw [hN] at hD
        obtain ⟨w, hw1, hw2⟩ := hD
        rw [hw1]
        dsimp only
        cases sufR false false ((s.drop 2).drop (runLen isHex (s.drop 2))) with
        | none => rfl
        | some p =>
          dsimp only
          by_cases he : (s.drop 2).take (runLen isHex (s.drop 2)) = []
          · rw [if_pos he]
          · rw [if_neg he]; simp only [Option.map_some]; rw [if_pos hw2]
      | some p =>
        obtain ⟨m, rest⟩ := p
        rw [hN] at hD
        obtain ⟨g1, g2, g3⟩ := hD
        rw [g2, ← g1]
        dsimp only
        cases hS : sufR false false rest with
        | none => rfl
        | some p =>
          obtain ⟨u, l⟩ := p
          dsimp only
          have hrl := congrArg List.length g1
          simp only [List.length_drop] at hrl
          by_cases he : (s.drop 2).take (runLen isHex (s.drop 2)) = []
          · rw [if_pos he]
            have := congrArg List.length he
            simp only [List.length_take, List.length_drop, List.length_nil] at this
            unfold rfin
            rw [if_pos (by omega)]
          · rw [if_neg he]
            simp only [Option.map_some]
            have hne : runLen isHex (s.drop 2) ≠ 0 := by
              intro q
              apply he
              rw [q, List.take_zero]
            exact fin_eq 16 false rfl _ _ m (by omega) g3 u l
    · have hd2 : s.drop 2 = [] := List.drop_of_length_le (by omega)
      have hbody : bodyR s = s := by
        unfold bodyR
        rw [if_neg (fun h => hl2 h.1)]
        have := trim_split (D := s) (rest := []) (by intro b hb; cases hb) (by
          intro b hb
          obtain ⟨i, hi⟩ := List.mem_iff_getElem?.1 hb
          have hil := lt_get hi
          have : i = 0 ∨ i = 1 := by omega
          rcases this with rfl | rfl
          · rw [h00] at hi; cases hi; decide
          · rw [h1] at hi
            cases hi
            rcases (x120 x).1 h2 with q | q
            · have : x = 120 := UInt8.toNat_inj.1 (by show x.toNat = 120; omega)
              subst this; decide
            · have : x = 88 := UInt8.toNat_inj.1 (by show x.toNat = 88; omega)
              subst this; decide)
        rwa [List.append_nil] at this
      rw [hbody, hd2, List.drop_length]
      have hval : valueR s = none := by unfold valueR; rw [if_pos hx, if_pos hd2]
      rw [hval]
      simp only [digN, sufR, rfin]
      rw [if_pos (by simp; omega)]
  · have hnx : ∀ j, ¬ hexPre (s.take j) = true := fun j h => hx (hexPre_take h)
    by_cases hz : zeroPre s = true
    · refine number_low s 8 false rfl (by omega) hx (by unfold baseR; rw [if_neg hx, if_pos hz]) ?_ (hrun 8 ?_)
      · intro j hj _
        unfold valueR
        rw [if_neg (hnx j), if_pos ((zeroPre_iff _).2 (by rw [get0_take hj]; exact (zeroPre_iff s).1 hz))]
      · have := (zeroPre_iff s).1 hz
        rw [h0] at this
        rw [Option.some.inj this]
        decide
    · refine number_low s 10 true rfl (by omega) hx (by unfold baseR; rw [if_neg hx, if_neg hz]) ?_ (hrun 10 hh)
      intro j hj hjl
      have hnz : ¬ zeroPre (s.take j) = true := fun h => hz ((zeroPre_iff s).2 (by have := (zeroPre_iff _).1 h; rwa [get0_take hj] at this))
      have hne : ¬ s.take j = [] := by
        intro q
        have := congrArg List.length q
        simp only [List.length_take, List.length_nil] at this
        omega
      unfold valueR
      rw [if_neg (hnx j), if_neg hnz, if_neg hne]

end Go.Proofs.YtmpdpjkblcdfkaaGreatDoor
