/- What stands behind a backslash. -/
import Derived.Test.YtmpdpjkblcdfkaaDoorTj
import Derived.Test.YtmpdpjkblcdfkaaDoorAmW
namespace Go.Proofs.YtmpdpjkblcdfkaaDoor
open Go.AM
set_option maxRecDepth 20000
set_option maxHeartbeats 4000000
set_option linter.unusedSimpArgs false
set_option linter.unusedVariables false
attribute [local congr] andF_cg onF_cg bthen_cg bkeep_cg bcond_cg guardV_cg putF_cg guardF_cg ite_cg stepsF_cg
attribute [local simp] Brun_skip Brun_exit Brun_ret Brun_seq Brun_cond Brun_block Brun_region bthen_normal bthen_ret bthen_exit bblock_normal bblock_ret bblock_exit bkeep_some andF_some onF_some onF_none guardF_none guardF_some guardV_tup putF_some putF_none stepsF_nil stepsF_cons upd_apply ofL_cons ofL_nil bown_normal bown_ret banswer_normal banswer_ret aresults ares List.replicate stepF_call stepF_callD stepF_move stepF_pick stepF_alloc stepF_allocV stepF_box stepF_boxV stepF_build stepF_buildSlice stepF_buildSliceV stepF_load stepF_store stepF_nilCheck stepF_bin stepF_eq stepF_un stepF_conv stepF_strId stepF_toStr stepF_toBytes stepF_fn stepF_mkSlice stepF_slice stepF_strSlice stepF_fieldAddr stepF_field stepF_idxAddr stepF_idxArr stepF_index stepF_strIndex stepF_extract stepF_len0 stepF_len1 stepF_min stepF_max stepF_append stepF_appendF appF_none appF_row stepF_mkMap stepF_mkIface stepF_lookup stepF_mapUpdate stepF_ext aext_idx aext_count aext_same cellsF newF abin_add abin_sub abin_mul abin_quo abin_rem abin_eql abin_neq abin_lss abin_leq abin_gtr abin_geq abin_and abin_or abin_xor abin_shl abin_shr abin_seql abin_sneq aun_not aun_neg aeq_bool aeq_agg eqCells_nil eqCells_int eqCells_bool eqCells_str cellsOf_agg cellsOf_int cellsOf_bool cellsOf_str cellsOf_is cellsOf_ms cellsOf_fn cellsOf_nilp cellsOf_mp cellsOf_mm cellsOf_nilm cellsOf_nili cellsOf_ifc cellsOf_ip cget_one cget_agg ev_t ev_c fillp_nil fillp_cons isSc_int isSc_bool isSc_str isSc_is isSc_ms isSc_fn isSc_mm isSc_mp isSc_ip isSc_nilp isSc_nilm isSc_nili isSc_nilf isSc_ifc splice chunk strip strip.stripL imm imm.immL Areify_int Areify_bool Areify_str Areify_is Areify_nilp Areify_tup Areify_agg AreifyL andF_chi andF_ch onF_chi onF_ch bthen_ch bthen_chi bblock_ch bblock_chi bkeep_ch bkeep_chi bown_ch bown_chi banswer_ch banswer_chi isSome_ch bcond_ch guardV_ch1 guardV_ch0 chF_true chF_false chF_not
attribute [local simp ↓] andF_some andF_chi andF_ch onF_some onF_none onF_chi onF_ch bthen_normal bthen_ret bthen_exit bthen_ch bthen_chi bblock_normal bblock_ret bblock_exit bblock_ch bblock_chi bkeep_some bkeep_ch bkeep_chi bown_normal bown_ret bown_ch bown_chi banswer_normal banswer_ret banswer_ch banswer_chi bcond_ch guardV_ch1 guardV_ch0 guardV_tup guardF_none guardF_some putF_some putF_none stepsF_nil stepsF_cons chF_true chF_false Brun_seq Brun_cond Brun_block Brun_region Brun_skip Brun_ret Brun_exit stepF_call stepF_callD stepF_move stepF_pick stepF_alloc stepF_allocV stepF_box stepF_boxV stepF_build stepF_buildSlice stepF_buildSliceV stepF_load stepF_store stepF_nilCheck stepF_bin stepF_eq stepF_un stepF_conv stepF_strId stepF_toStr stepF_toBytes stepF_fn stepF_mkSlice stepF_slice stepF_strSlice stepF_fieldAddr stepF_field stepF_idxAddr stepF_idxArr stepF_index stepF_strIndex stepF_extract stepF_len0 stepF_len1 stepF_min stepF_max stepF_append stepF_appendF stepF_mkMap stepF_mkIface stepF_lookup stepF_mapUpdate stepF_ext
set_option maxHeartbeats 1000000
theorem run_mem {p : Nat → Bool} {s : List UInt8} {k : Nat} (hk : k ≤ runLen p s) : ∀ b ∈ s.take k, p b.toNat = true := by
  intro b hb
  obtain ⟨j, hj⟩ := List.mem_iff_getElem?.1 hb
  rw [List.getElem?_take] at hj
  split at hj
  · exact runLen_in p s j b (by omega) hj
  · cases hj
def escR (s : List UInt8) : UInt8 × Nat × Bool := match s[0]? with
  | none => (0, 0, false)
  | some b => match escS b with
    | some c => (c, 1, true)
    | none => if b = 120 then
        (UInt8.ofNat (hexW 0 ((s.drop 1).take (runLen isHex (s.drop 1)))), runLen isHex (s.drop 1) + 1, decide (0 < runLen isHex (s.drop 1) ∧ hexW 0 ((s.drop 1).take (runLen isHex (s.drop 1))) ≤ 255))
      else (UInt8.ofNat (octW 0 (s.take (min 3 (runLen isOct s)))), min 3 (runLen isOct s), decide (0 < min 3 (runLen isOct s) ∧ octW 0 (s.take (min 3 (runLen isOct s))) ≤ 255))
def escV (r : UInt8 × Nat × Bool) : AV := .tup [.int .u8 r.1.toNat, .int .i64 r.2.1, .bool r.2.2]
theorem u120 (a : UInt8) : a = 120 ↔ (a.toNat : Int) = 120 := by
  constructor
  · rintro rfl; rfl
  · intro h; exact UInt8.toNat_inj.1 (by show a.toNat = 120; omega)
theorem escaped_ok (h : Heap) (s : List UInt8) (hs : s.length ≤ 4194304) : Ccall tab 65 [.str s] h = some (escV (escR s), h) := by
  unfold escR
  cases h0 : s[0]? with
  | none =>
    have e1 : s = [] := by cases s with | nil => rfl | cons a t => simp at h0
    subst e1
    refine Ccall_own rfl rfl rfl rfl ?_
    clear hs
    repeat (any_goals first | simp (dsimp := false) (maxSteps := 4000000) (maxDischargeDepth := 8) (implicitDefEqProofs := false) [*, -Int.not_le, -Int.not_lt, amLt, f65c, f65r0, f65r1, f65r2, f65r3, f65r4, f65r5, f65r6, f65r7, f65r8, f65r9, f65m10, f65m19, f65r10, f65r11, f65r12, f65r13, f65r14, f65r15, f65r16, f65r17, f65r18, f65r19, f65r20, f65r21, f65r22, f65r23, f65l10_b, f65l19_b, escV] | with_reducible refine ch_both (fun _ => ?_) (fun _ => ?_) | with_reducible refine ite_both (fun _ => ?_) (fun _ => ?_) | intro _)
  | some b =>
    have e9 : ¬ s = [] := by rintro rfl; simp at h0
    have hlt := lt_get h0
    have hi := fun h => indexByte_ok h escT b
    dsimp only
    rcases esc_cases b with ⟨i, c, hi1, hi2, hi3⟩ | ⟨hi1, hi3⟩
    · rw [hi3]
      rw [hi1] at hi
      have e5 : (0 : Int) ≤ i := by omega
      refine Ccall_own rfl rfl rfl rfl ?_
      unfold escT at hi
      unfold escC at hi2
      clear hs hlt hi1 hi3
      repeat (any_goals first | simp (dsimp := false) (maxSteps := 4000000) (maxDischargeDepth := 8) (implicitDefEqProofs := false) [*, -Int.not_le, -Int.not_lt, amLt, f65c, f65r0, f65r1, f65r2, f65r3, f65r4, f65r5, f65r6, f65r7, f65r8, f65r9, f65m10, f65m19, f65r10, f65r11, f65r12, f65r13, f65r14, f65r15, f65r16, f65r17, f65r18, f65r19, f65r20, f65r21, f65r22, f65r23, f65l10_b, f65l19_b, escV] | with_reducible refine ch_both (fun _ => ?_) (fun _ => ?_) | with_reducible refine ite_both (fun _ => ?_) (fun _ => ?_) | intro _)
    · rw [hi3]
      dsimp only
      have e6 : ¬ 0 ≤ Go.Lib.indexByte escT b := by omega
      generalize Go.Lib.indexByte escT b = ix at *
      unfold escT at hi
      by_cases hx : b = 120
      · have hx' := (u120 b).1 hx
        rw [if_pos hx]
        simp only [hx'] at hi
        have hr := fun h => run_ok 78 isHex hexF_ok' h (s.drop 1) (by simp only [List.length_drop]; omega)
        have hle := runLen_le isHex (s.drop 1)
        simp only [List.length_drop] at hle
        have lq := hexw_loop s hs [] (runLen isHex (s.drop 1)) (by omega) ((s.drop 1).take (runLen isHex (s.drop 1))) 0 0 rfl (by omega) (by omega) (run_mem (Nat.le_refl _))
        have e1 : (1 : Int) ≤ s.length := by omega
        have hw1 := w64 (runLen isHex (s.drop 1)) (by omega)
        generalize hexW 0 ((s.drop 1).take (runLen isHex (s.drop 1))) = v at *
        generalize runLen isHex (s.drop 1) = n at *
        have hwv := u8_wrap v
        generalize UInt8.ofNat v = c at *
        push_cast at lq
        simp only [List.drop_one] at hr
        refine Ccall_own rfl rfl rfl rfl ?_
        by_cases q1 : 0 < n
        · have q1' : 0 < (n : Int) := by omega
          by_cases q2 : v ≤ 255
          · have q2' : (v : Int) ≤ 255 := by omega
            have hd : decide (0 < n ∧ v ≤ 255) = true := by simp [q1, q2]
            rw [hd]
            clear hs hlt hi1 hi3 hle hd hx
            repeat (any_goals first | simp (dsimp := false) (maxSteps := 4000000) (maxDischargeDepth := 8) (implicitDefEqProofs := false) [*, -Int.not_le, -Int.not_lt, amLt, f65c, f65r0, f65r1, f65r2, f65r3, f65r4, f65r5, f65r6, f65r7, f65r8, f65r9, f65m10, f65m19, f65r10, f65r11, f65r12, f65r13, f65r14, f65r15, f65r16, f65r17, f65r18, f65r19, f65r20, f65r21, f65r22, f65r23, f65l10_b, f65l19_b, escV, obound_some, obound_none, abound_int] | with_reducible refine ch_both (fun _ => ?_) (fun _ => ?_) | with_reducible refine ite_both (fun _ => ?_) (fun _ => ?_) | intro _)
          · have q2' : ¬ (v : Int) ≤ 255 := by omega
            have hd : decide (0 < n ∧ v ≤ 255) = false := by simp [q1, q2]
            rw [hd]
            clear hs hlt hi1 hi3 hle hd hx
            repeat (any_goals first | simp (dsimp := false) (maxSteps := 4000000) (maxDischargeDepth := 8) (implicitDefEqProofs := false) [*, -Int.not_le, -Int.not_lt, amLt, f65c, f65r0, f65r1, f65r2, f65r3, f65r4, f65r5, f65r6, f65r7, f65r8, f65r9, f65m10, f65m19, f65r10, f65r11, f65r12, f65r13, f65r14, f65r15, f65r16, f65r17, f65r18, f65r19, f65r20, f65r21, f65r22, f65r23, f65l10_b, f65l19_b, escV, obound_some, obound_none, abound_int] | with_reducible refine ch_both (fun _ => ?_) (fun _ => ?_) | with_reducible refine ite_both (fun _ => ?_) (fun _ => ?_) | intro _)
        · have q1' : ¬ 0 < (n : Int) := by omega
          have hd : decide (0 < n ∧ v ≤ 255) = false := by simp [q1]
          rw [hd]
          clear hs hlt hi1 hi3 hle hd hx
          repeat (any_goals first | simp (dsimp := false) (maxSteps := 4000000) (maxDischargeDepth := 8) (implicitDefEqProofs := false) [*, -Int.not_le, -Int.not_lt, amLt, f65c, f65r0, f65r1, f65r2, f65r3, f65r4, f65r5, f65r6, f65r7, f65r8, f65r9, f65m10, f65m19, f65r10, f65r11, f65r12, f65r13, f65r14, f65r15, f65r16, f65r17, f65r18, f65r19, f65r20, f65r21, f65r22, f65r23, f65l10_b, f65l19_b, escV, obound_some, obound_none, abound_int] | with_reducible refine ch_both (fun _ => ?_) (fun _ => ?_) | with_reducible refine ite_both (fun _ => ?_) (fun _ => ?_) | intro _)
      · have hx' : ¬ (b.toNat : Int) = 120 := fun h => hx ((u120 b).2 h)
        rw [if_neg hx]
        have hr := fun h => run_ok 79 isOct octal_ok h s hs
        have hle := runLen_le isOct s
        have lq := octw_loop s hs [] (min 3 (runLen isOct s)) (by omega) (by omega) (s.take (min 3 (runLen isOct s))) 0 0 rfl (by omega) (by decide) (run_mem (by omega))
        have hm : (if (3 : Int) ≤ ((runLen isOct s : Nat) : Int) then (3 : Int) else ((runLen isOct s : Nat) : Int)) = ((min 3 (runLen isOct s) : Nat) : Int) := by split <;> omega
        generalize octW 0 (s.take (min 3 (runLen isOct s))) = v at *
        generalize min 3 (runLen isOct s) = m at *
        generalize runLen isOct s = n at *
        have hwv := u8_wrap v
        generalize UInt8.ofNat v = c at *
        simp only [Int.natCast_zero] at lq
        refine Ccall_own rfl rfl rfl rfl ?_
        by_cases q1 : 0 < m
        · have q1' : 0 < (m : Int) := by omega
          by_cases q2 : v ≤ 255
          · have q2' : (v : Int) ≤ 255 := by omega
            have hd : decide (0 < m ∧ v ≤ 255) = true := by simp [q1, q2]
            rw [hd]
            clear hs hlt hi1 hi3 hle hd hx
            repeat (any_goals first | simp (dsimp := false) (maxSteps := 4000000) (maxDischargeDepth := 8) (implicitDefEqProofs := false) [*, -Int.not_le, -Int.not_lt, amLt, f65c, f65r0, f65r1, f65r2, f65r3, f65r4, f65r5, f65r6, f65r7, f65r8, f65r9, f65m10, f65m19, f65r10, f65r11, f65r12, f65r13, f65r14, f65r15, f65r16, f65r17, f65r18, f65r19, f65r20, f65r21, f65r22, f65r23, f65l10_b, f65l19_b, escV, obound_some, obound_none, abound_int] | with_reducible refine ch_both (fun _ => ?_) (fun _ => ?_) | with_reducible refine ite_both (fun _ => ?_) (fun _ => ?_) | intro _)
          · have q2' : ¬ (v : Int) ≤ 255 := by omega
            have hd : decide (0 < m ∧ v ≤ 255) = false := by simp [q1, q2]
            rw [hd]
            clear hs hlt hi1 hi3 hle hd hx
            repeat (any_goals first | simp (dsimp := false) (maxSteps := 4000000) (maxDischargeDepth := 8) (implicitDefEqProofs := false) [*, -Int.not_le, -Int.not_lt, amLt, f65c, f65r0, f65r1, f65r2, f65r3, f65r4, f65r5, f65r6, f65r7, f65r8, f65r9, f65m10, f65m19, f65r10, f65r11, f65r12, f65r13, f65r14, f65r15, f65r16, f65r17, f65r18, f65r19, f65r20, f65r21, f65r22, f65r23, f65l10_b, f65l19_b, escV, obound_some, obound_none, abound_int] | with_reducible refine ch_both (fun _ => ?_) (fun _ => ?_) | with_reducible refine ite_both (fun _ => ?_) (fun _ => ?_) | intro _)
        · have q1' : ¬ 0 < (m : Int) := by omega
          have hd : decide (0 < m ∧ v ≤ 255) = false := by simp [q1]
          rw [hd]
          clear hs hlt hi1 hi3 hle hd hx
          repeat (any_goals first | simp (dsimp := false) (maxSteps := 4000000) (maxDischargeDepth := 8) (implicitDefEqProofs := false) [*, -Int.not_le, -Int.not_lt, amLt, f65c, f65r0, f65r1, f65r2, f65r3, f65r4, f65r5, f65r6, f65r7, f65r8, f65r9, f65m10, f65m19, f65r10, f65r11, f65r12, f65r13, f65r14, f65r15, f65r16, f65r17, f65r18, f65r19, f65r20, f65r21, f65r22, f65r23, f65l10_b, f65l19_b, escV, obound_some, obound_none, abound_int] | with_reducible refine ch_both (fun _ => ?_) (fun _ => ?_) | with_reducible refine ite_both (fun _ => ?_) (fun _ => ?_) | intro _)

end Go.Proofs.YtmpdpjkblcdfkaaDoor
