/- A number and its value. -/
import Derived.Test.YtmpdpjkblcdfkaaDoorTf
import Derived.Test.YtmpdpjkblcdfkaaDoorAmW
namespace Go.Proofs.YtmpdpjkblcdfkaaDoor
open Go.AM
set_option maxRecDepth 20000
set_option maxHeartbeats 4000000
set_option linter.unusedSimpArgs false
set_option linter.unusedVariables false
attribute [local congr] andF_cg onF_cg bthen_cg bkeep_cg bcond_cg guardV_cg putF_cg guardF_cg ite_cg stepsF_cg
attribute [local simp] Brun_skip Brun_exit Brun_ret Brun_seq Brun_cond Brun_block Brun_region bthen_normal bthen_ret bthen_exit bblock_normal bblock_ret bblock_exit bkeep_some andF_some onF_some onF_none guardF_none guardF_some guardV_tup putF_some putF_none stepsF_nil stepsF_cons upd_apply ofL_cons ofL_nil bown_normal bown_ret banswer_normal banswer_ret aresults ares List.replicate stepF_call stepF_callD stepF_move stepF_pick stepF_alloc stepF_allocV stepF_box stepF_boxV stepF_build stepF_buildSlice stepF_buildSliceV stepF_load stepF_store stepF_nilCheck stepF_bin stepF_eq stepF_un stepF_conv stepF_strId stepF_toStr stepF_toBytes stepF_fn stepF_mkSlice stepF_slice stepF_strSlice stepF_fieldAddr stepF_field stepF_idxAddr stepF_idxArr stepF_index stepF_strIndex stepF_extract stepF_len0 stepF_len1 stepF_min stepF_max stepF_append stepF_appendF appF_none appF_row stepF_mkMap stepF_mkIface stepF_lookup stepF_mapUpdate stepF_ext aext_idx aext_count aext_same cellsF newF abin_add abin_sub abin_mul abin_quo abin_rem abin_eql abin_neq abin_lss abin_leq abin_gtr abin_geq abin_and abin_or abin_xor abin_shl abin_shr abin_seql abin_sneq aun_not aun_neg aeq_bool aeq_agg eqCells_nil eqCells_int eqCells_bool eqCells_str cellsOf_agg cellsOf_int cellsOf_bool cellsOf_str cellsOf_is cellsOf_ms cellsOf_fn cellsOf_nilp cellsOf_mp cellsOf_mm cellsOf_nilm cellsOf_nili cellsOf_ifc cellsOf_ip cget_one cget_agg ev_t ev_c fillp_nil fillp_cons isSc_int isSc_bool isSc_str isSc_is isSc_ms isSc_fn isSc_mm isSc_mp isSc_ip isSc_nilp isSc_nilm isSc_nili isSc_nilf isSc_ifc splice chunk strip strip.stripL imm imm.immL Areify_int Areify_bool Areify_str Areify_is Areify_nilp Areify_tup Areify_agg AreifyL andF_chi andF_ch onF_chi onF_ch bthen_ch bthen_chi bblock_ch bblock_chi bkeep_ch bkeep_chi bown_ch bown_chi banswer_ch banswer_chi isSome_ch bcond_ch guardV_ch1 guardV_ch0 chF_true chF_false chF_not
attribute [local simp ↓] andF_some andF_chi andF_ch onF_some onF_none onF_chi onF_ch bthen_normal bthen_ret bthen_exit bthen_ch bthen_chi bblock_normal bblock_ret bblock_exit bblock_ch bblock_chi bkeep_some bkeep_ch bkeep_chi bown_normal bown_ret bown_ch bown_chi banswer_normal banswer_ret banswer_ch banswer_chi bcond_ch guardV_ch1 guardV_ch0 guardV_tup guardF_none guardF_some putF_some putF_none stepsF_nil stepsF_cons chF_true chF_false Brun_seq Brun_cond Brun_block Brun_region Brun_skip Brun_ret Brun_exit stepF_call stepF_callD stepF_move stepF_pick stepF_alloc stepF_allocV stepF_box stepF_boxV stepF_build stepF_buildSlice stepF_buildSliceV stepF_load stepF_store stepF_nilCheck stepF_bin stepF_eq stepF_un stepF_conv stepF_strId stepF_toStr stepF_toBytes stepF_fn stepF_mkSlice stepF_slice stepF_strSlice stepF_fieldAddr stepF_field stepF_idxAddr stepF_idxArr stepF_index stepF_strIndex stepF_extract stepF_len0 stepF_len1 stepF_min stepF_max stepF_append stepF_appendF stepF_mkMap stepF_mkIface stepF_lookup stepF_mapUpdate stepF_ext
def hexPre (s : List UInt8) : Bool := match s with
  | a :: x :: _ => decide (a = 48) && isX x
  | _ => false
def zeroPre (s : List UInt8) : Bool := match s with
  | a :: _ => decide (a = 48)
  | _ => false
def valueR (s : List UInt8) : Option (Nat × Bool) :=
  if hexPre s = true then (if s.drop 2 = [] then none else (digV 16 0 (s.drop 2)).map (·, false))
  else if zeroPre s = true then (digV 8 0 s).map (·, false)
  else if s = [] then none else (digV 10 0 s).map (·, true)
def valueV : Option (Nat × Bool) → AV
  | some (v, t) => .tup [.int .i64 v, .bool t, .bool true]
  | none => .tup [.int .i64 0, .bool false, .bool false]
theorem u48 (a : UInt8) : a = 48 ↔ (a.toNat : Int) = 48 := by
  constructor
  · rintro rfl; rfl
  · intro h; exact UInt8.toNat_inj.1 (by show a.toNat = 48; omega)
theorem hexPre_iff (s : List UInt8) : hexPre s = true ↔ ∃ x, s[0]? = some 48 ∧ s[1]? = some x ∧ or32 x.toNat = 120 := by
  match s with
  | [] => simp [hexPre]
  | [a] => simp [hexPre]
  | a :: x :: t => simp [hexPre, isX]
theorem zeroPre_iff (s : List UInt8) : zeroPre s = true ↔ s[0]? = some 48 := by
  match s with
  | [] => simp [zeroPre]
  | a :: t => simp [zeroPre]
theorem lt_get {s : List UInt8} {i : Nat} {b : UInt8} (h : s[i]? = some b) : i < s.length := (List.getElem?_eq_some_iff.1 h).1
theorem value_ok (h : Heap) (s : List UInt8) (hs : s.length ≤ 4194304) : Ccall tab 64 [.str s] h = some (valueV (valueR s), h) := by
  have lp := fun (u : List UInt8) (hu : u.length ≤ 4194304) (base : Nat) (hb : base ≤ 16) (ten : Bool) => value_loop u hu [] base hb ten u 0 0 rfl (by omega) (by omega)
  simp only [Int.natCast_zero] at lp
  unfold valueR
  by_cases hx : hexPre s = true
  · rw [if_pos hx]
    obtain ⟨x, h0, h1, h2⟩ := (hexPre_iff s).1 hx
    have e1 := lt_get h1
    have lq := lp (s.drop 2) (by simp only [List.length_drop]; omega) 16 (by omega) false
    push_cast at lq
    have e2 : 1 < (s.length : Int) := by omega
    have e3 : (2 : Int) ≤ s.length := by omega
    have e4 : ((or32 x.toNat : Nat) : Int) = 120 := by omega
    generalize hd : s.drop 2 = u at *
    refine Ccall_own rfl rfl rfl rfl ?_
    clear lp hx hs e1
    by_cases hu : u = []
    · rw [if_pos hu]
      subst hu
      repeat (any_goals first | simp (dsimp := false) (maxSteps := 4000000) (maxDischargeDepth := 8) (implicitDefEqProofs := false) [*, -Int.not_le, -Int.not_lt, amLt, f64c, f64r0, f64r1, f64r2, f64r3, f64r4, f64r5, f64r6, f64r7, f64r8, f64r9, f64m10, f64r10, f64r11, f64r12, f64r13, f64r14, f64r15, f64r16, f64r17, f64l10_b, or32_ok, obound_some, obound_none, abound_int, valueV] | with_reducible refine ch_both (fun _ => ?_) (fun _ => ?_) | with_reducible refine ite_both (fun _ => ?_) (fun _ => ?_) | intro _)
    · rw [if_neg hu]
      cases hv : digV 16 0 u with
      | none =>
        rw [hv] at lq
        repeat (any_goals first | simp (dsimp := false) (maxSteps := 4000000) (maxDischargeDepth := 8) (implicitDefEqProofs := false) [*, -Int.not_le, -Int.not_lt, amLt, f64c, f64r0, f64r1, f64r2, f64r3, f64r4, f64r5, f64r6, f64r7, f64r8, f64r9, f64m10, f64r10, f64r11, f64r12, f64r13, f64r14, f64r15, f64r16, f64r17, f64l10_b, or32_ok, obound_some, obound_none, abound_int, valueV] | with_reducible refine ch_both (fun _ => ?_) (fun _ => ?_) | with_reducible refine ite_both (fun _ => ?_) (fun _ => ?_) | intro _)
      | some w =>
        rw [hv] at lq
        repeat (any_goals first | simp (dsimp := false) (maxSteps := 4000000) (maxDischargeDepth := 8) (implicitDefEqProofs := false) [*, -Int.not_le, -Int.not_lt, amLt, f64c, f64r0, f64r1, f64r2, f64r3, f64r4, f64r5, f64r6, f64r7, f64r8, f64r9, f64m10, f64r10, f64r11, f64r12, f64r13, f64r14, f64r15, f64r16, f64r17, f64l10_b, or32_ok, obound_some, obound_none, abound_int, valueV] | with_reducible refine ch_both (fun _ => ?_) (fun _ => ?_) | with_reducible refine ite_both (fun _ => ?_) (fun _ => ?_) | intro _)
  · rw [if_neg hx]
    by_cases hz : zeroPre s = true
    · rw [if_pos hz]
      have h0 := (zeroPre_iff s).1 hz
      have lq := lp s hs 8 (by omega) false
      push_cast at lq
      have e0 := lt_get h0
      have e9 : ¬ s = [] := by rintro rfl; simp at h0
      cases h1 : s[1]? with
      | none =>
        have e1 := List.getElem?_eq_none_iff.1 h1
        have e2 : ¬ 1 < (s.length : Int) := by omega
        refine Ccall_own rfl rfl rfl rfl ?_
        clear lp hx hs e0 e1 hz
        cases hv : digV 8 0 s with
        | none =>
          rw [hv] at lq
          repeat (any_goals first | simp (dsimp := false) (maxSteps := 4000000) (maxDischargeDepth := 8) (implicitDefEqProofs := false) [*, -Int.not_le, -Int.not_lt, amLt, f64c, f64r0, f64r1, f64r2, f64r3, f64r4, f64r5, f64r6, f64r7, f64r8, f64r9, f64m10, f64r10, f64r11, f64r12, f64r13, f64r14, f64r15, f64r16, f64r17, f64l10_b, or32_ok, valueV] | with_reducible refine ch_both (fun _ => ?_) (fun _ => ?_) | with_reducible refine ite_both (fun _ => ?_) (fun _ => ?_) | intro _)
        | some w =>
          rw [hv] at lq
          repeat (any_goals first | simp (dsimp := false) (maxSteps := 4000000) (maxDischargeDepth := 8) (implicitDefEqProofs := false) [*, -Int.not_le, -Int.not_lt, amLt, f64c, f64r0, f64r1, f64r2, f64r3, f64r4, f64r5, f64r6, f64r7, f64r8, f64r9, f64m10, f64r10, f64r11, f64r12, f64r13, f64r14, f64r15, f64r16, f64r17, f64l10_b, or32_ok, valueV] | with_reducible refine ch_both (fun _ => ?_) (fun _ => ?_) | with_reducible refine ite_both (fun _ => ?_) (fun _ => ?_) | intro _)
      | some x =>
        have e1 := lt_get h1
        have e2 : 1 < (s.length : Int) := by omega
        have e4 : ¬ ((or32 x.toNat : Nat) : Int) = 120 := fun h => hx ((hexPre_iff s).2 ⟨x, h0, h1, by omega⟩)
        refine Ccall_own rfl rfl rfl rfl ?_
        clear lp hx hs e0 e1 hz
        cases hv : digV 8 0 s with
        | none =>
          rw [hv] at lq
          repeat (any_goals first | simp (dsimp := false) (maxSteps := 4000000) (maxDischargeDepth := 8) (implicitDefEqProofs := false) [*, -Int.not_le, -Int.not_lt, amLt, f64c, f64r0, f64r1, f64r2, f64r3, f64r4, f64r5, f64r6, f64r7, f64r8, f64r9, f64m10, f64r10, f64r11, f64r12, f64r13, f64r14, f64r15, f64r16, f64r17, f64l10_b, or32_ok, valueV] | with_reducible refine ch_both (fun _ => ?_) (fun _ => ?_) | with_reducible refine ite_both (fun _ => ?_) (fun _ => ?_) | intro _)
        | some w =>
          rw [hv] at lq
          repeat (any_goals first | simp (dsimp := false) (maxSteps := 4000000) (maxDischargeDepth := 8) (implicitDefEqProofs := false) [*, -Int.not_le, -Int.not_lt, amLt, f64c, f64r0, f64r1, f64r2, f64r3, f64r4, f64r5, f64r6, f64r7, f64r8, f64r9, f64m10, f64r10, f64r11, f64r12, f64r13, f64r14, f64r15, f64r16, f64r17, f64l10_b, or32_ok, valueV] | with_reducible refine ch_both (fun _ => ?_) (fun _ => ?_) | with_reducible refine ite_both (fun _ => ?_) (fun _ => ?_) | intro _)
    · rw [if_neg hz]
      have lq := lp s hs 10 (by omega) true
      push_cast at lq
      cases h0 : s[0]? with
      | none =>
        have e1 : s = [] := by cases s with | nil => rfl | cons a t => simp at h0
        rw [if_pos e1]
        subst e1
        refine Ccall_own rfl rfl rfl rfl ?_
        clear lp hx hs hz
        repeat (any_goals first | simp (dsimp := false) (maxSteps := 4000000) (maxDischargeDepth := 8) (implicitDefEqProofs := false) [*, -Int.not_le, -Int.not_lt, amLt, f64c, f64r0, f64r1, f64r2, f64r3, f64r4, f64r5, f64r6, f64r7, f64r8, f64r9, f64m10, f64r10, f64r11, f64r12, f64r13, f64r14, f64r15, f64r16, f64r17, f64l10_b, or32_ok, valueV] | with_reducible refine ch_both (fun _ => ?_) (fun _ => ?_) | with_reducible refine ite_both (fun _ => ?_) (fun _ => ?_) | intro _)
      | some a =>
        have e9 : ¬ s = [] := by rintro rfl; simp at h0
        have e8 : ¬ (a.toNat : Int) = 48 := fun h => hz ((zeroPre_iff s).2 (by rw [h0, (u48 a).2 h]))
        rw [if_neg e9]
        refine Ccall_own rfl rfl rfl rfl ?_
        clear lp hx hs hz
        by_cases e2 : 1 < (s.length : Int)
        · cases hv : digV 10 0 s with
          | none =>
            rw [hv] at lq
            repeat (any_goals first | simp (dsimp := false) (maxSteps := 4000000) (maxDischargeDepth := 8) (implicitDefEqProofs := false) [*, -Int.not_le, -Int.not_lt, amLt, f64c, f64r0, f64r1, f64r2, f64r3, f64r4, f64r5, f64r6, f64r7, f64r8, f64r9, f64m10, f64r10, f64r11, f64r12, f64r13, f64r14, f64r15, f64r16, f64r17, f64l10_b, or32_ok, valueV] | with_reducible refine ch_both (fun _ => ?_) (fun _ => ?_) | with_reducible refine ite_both (fun _ => ?_) (fun _ => ?_) | intro _)
          | some w =>
            rw [hv] at lq
            repeat (any_goals first | simp (dsimp := false) (maxSteps := 4000000) (maxDischargeDepth := 8) (implicitDefEqProofs := false) [*, -Int.not_le, -Int.not_lt, amLt, f64c, f64r0, f64r1, f64r2, f64r3, f64r4, f64r5, f64r6, f64r7, f64r8, f64r9, f64m10, f64r10, f64r11, f64r12, f64r13, f64r14, f64r15, f64r16, f64r17, f64l10_b, or32_ok, valueV] | with_reducible refine ch_both (fun _ => ?_) (fun _ => ?_) | with_reducible refine ite_both (fun _ => ?_) (fun _ => ?_) | intro _)
        · cases hv : digV 10 0 s with
          | none =>
            rw [hv] at lq
            repeat (any_goals first | simp (dsimp := false) (maxSteps := 4000000) (maxDischargeDepth := 8) (implicitDefEqProofs := false) [*, -Int.not_le, -Int.not_lt, amLt, f64c, f64r0, f64r1, f64r2, f64r3, f64r4, f64r5, f64r6, f64r7, f64r8, f64r9, f64m10, f64r10, f64r11, f64r12, f64r13, f64r14, f64r15, f64r16, f64r17, f64l10_b, or32_ok, valueV] | with_reducible refine ch_both (fun _ => ?_) (fun _ => ?_) | with_reducible refine ite_both (fun _ => ?_) (fun _ => ?_) | intro _)
          | some w =>
            rw [hv] at lq
            repeat (any_goals first | simp (dsimp := false) (maxSteps := 4000000) (maxDischargeDepth := 8) (implicitDefEqProofs := false) [*, -Int.not_le, -Int.not_lt, amLt, f64c, f64r0, f64r1, f64r2, f64r3, f64r4, f64r5, f64r6, f64r7, f64r8, f64r9, f64m10, f64r10, f64r11, f64r12, f64r13, f64r14, f64r15, f64r16, f64r17, f64l10_b, or32_ok, valueV] | with_reducible refine ch_both (fun _ => ?_) (fun _ => ?_) | with_reducible refine ite_both (fun _ => ?_) (fun _ => ?_) | intro _)

end Go.Proofs.YtmpdpjkblcdfkaaDoor
