/- Numbers. -/
import Derived.Test.YtmpdpjkblcdfkaaDoorTe
import Derived.Test.YtmpdpjkblcdfkaaDoorAmW
namespace Go.Proofs.YtmpdpjkblcdfkaaDoor
open Go.AM
set_option maxRecDepth 20000
set_option maxHeartbeats 4000000
set_option linter.unusedSimpArgs false
set_option linter.unusedVariables false
attribute [local congr] andF_cg onF_cg bthen_cg bkeep_cg bcond_cg guardV_cg putF_cg guardF_cg ite_cg stepsF_cg
attribute [local simp] Brun_skip Brun_exit Brun_ret Brun_seq Brun_cond Brun_block Brun_region bthen_normal bthen_ret bthen_exit bblock_normal bblock_ret bblock_exit bkeep_some andF_some onF_some onF_none guardF_none guardF_some guardV_tup putF_some putF_none stepsF_nil stepsF_cons upd_apply ofL_cons ofL_nil bown_normal bown_ret banswer_normal banswer_ret aresults ares List.replicate stepF_call stepF_callD stepF_move stepF_pick stepF_alloc stepF_allocV stepF_box stepF_boxV stepF_build stepF_buildSlice stepF_buildSliceV stepF_load stepF_store stepF_nilCheck stepF_bin stepF_eq stepF_un stepF_conv stepF_strId stepF_toStr stepF_toBytes stepF_fn stepF_mkSlice stepF_slice stepF_strSlice stepF_fieldAddr stepF_field stepF_idxAddr stepF_idxArr stepF_index stepF_strIndex stepF_extract stepF_len0 stepF_len1 stepF_min stepF_max stepF_append stepF_appendF appF_none appF_row stepF_mkMap stepF_mkIface stepF_lookup stepF_mapUpdate stepF_ext aext_idx aext_count aext_same cellsF newF abin_add abin_sub abin_mul abin_quo abin_rem abin_eql abin_neq abin_lss abin_leq abin_gtr abin_geq abin_and abin_or abin_xor abin_shl abin_shr abin_seql abin_sneq aun_not aun_neg aeq_bool aeq_agg eqCells_nil eqCells_int eqCells_bool eqCells_str cellsOf_agg cellsOf_int cellsOf_bool cellsOf_str cellsOf_is cellsOf_ms cellsOf_fn cellsOf_nilp cellsOf_mp cellsOf_mm cellsOf_nilm cellsOf_nili cellsOf_ifc cellsOf_ip cget_one cget_agg ev_t ev_c fillp_nil fillp_cons isSc_int isSc_bool isSc_str isSc_is isSc_ms isSc_fn isSc_mm isSc_mp isSc_ip isSc_nilp isSc_nilm isSc_nili isSc_nilf isSc_ifc splice chunk strip strip.stripL imm imm.immL Areify_int Areify_bool Areify_str Areify_is Areify_nilp Areify_tup Areify_agg AreifyL andF_chi andF_ch onF_chi onF_ch bthen_ch bthen_chi bblock_ch bblock_chi bkeep_ch bkeep_chi bown_ch bown_chi banswer_ch banswer_chi isSome_ch bcond_ch guardV_ch1 guardV_ch0 chF_true chF_false chF_not
attribute [local simp ↓] andF_some andF_chi andF_ch onF_some onF_none onF_chi onF_ch bthen_normal bthen_ret bthen_exit bthen_ch bthen_chi bblock_normal bblock_ret bblock_exit bblock_ch bblock_chi bkeep_some bkeep_ch bkeep_chi bown_normal bown_ret bown_ch bown_chi banswer_normal banswer_ret banswer_ch banswer_chi bcond_ch guardV_ch1 guardV_ch0 guardV_tup guardF_none guardF_some putF_some putF_none stepsF_nil stepsF_cons chF_true chF_false Brun_seq Brun_cond Brun_block Brun_region Brun_skip Brun_ret Brun_exit stepF_call stepF_callD stepF_move stepF_pick stepF_alloc stepF_allocV stepF_box stepF_boxV stepF_build stepF_buildSlice stepF_buildSliceV stepF_load stepF_store stepF_nilCheck stepF_bin stepF_eq stepF_un stepF_conv stepF_strId stepF_toStr stepF_toBytes stepF_fn stepF_mkSlice stepF_slice stepF_strSlice stepF_fieldAddr stepF_field stepF_idxAddr stepF_idxArr stepF_index stepF_strIndex stepF_extract stepF_len0 stepF_len1 stepF_min stepF_max stepF_append stepF_appendF stepF_mkMap stepF_mkIface stepF_lookup stepF_mapUpdate stepF_ext
def or32 (n : Nat) : Nat := if (n / 32) % 2 = 1 then n else n + 32
theorem or32_ok (b : UInt8) : orI .u8 (b.toNat : Int) 32 = (or32 b.toNat : Int) := by
  have h := byte_all (p := fun n => decide (orI .u8 (n : Int) 32 = (or32 n : Int))) (by decide +kernel) b
  simpa using h
def isX (b : UInt8) : Bool := decide (or32 b.toNat = 120)
/-- The value of digits, none of them too great; it stops growing at 2^33. -/
def digV (base : Nat) : Nat → List UInt8 → Option Nat
  | v, [] => some v
  | v, b :: t => if hexV b.toNat < base then digV base (min 8589934592 (v * base + hexV b.toNat)) t else none
theorem value_loop (s : List UInt8) (hs : s.length ≤ 4194304) (h : Heap) (base : Nat) (hb0 : base ≤ 16) (ten : Bool) : ∀ (r : List UInt8) (i v : Nat), s.drop i = r → i ≤ s.length → v ≤ 8589934592 →
    Brun tab 66 (.loop f64l10) (ofL [(0, .str s), (5, .int .i64 base), (6, .bool ten), (7, .int .i64 v), (39, .int .i64 s.length), (40, .int .i64 i)]) h =
      match digV base v r with
      | some w => some (.exit 1, ofL [(0, .str s), (5, .int .i64 base), (6, .bool ten), (7, .int .i64 w), (39, .int .i64 s.length), (40, .int .i64 s.length), (41, .bool false)], h)
      | none => some (.ret, ofL [(2, .int .i64 0), (3, .bool false), (4, .bool false)], h) := by
  intro r
  induction r with
  | nil =>
    intro i v hr hi hv
    have hlen := congrArg List.length hr
    simp only [List.length_drop, List.length_nil] at hlen
    have e3 : (s.length : Int) = i := by omega
    rw [Brun_loop]
    clear hr hi hv hlen hs
    repeat (any_goals first | simp (dsimp := false) (maxSteps := 4000000) (maxDischargeDepth := 8) (implicitDefEqProofs := false) [*, -Int.not_le, -Int.not_lt, amLt, f64c, f64r0, f64r1, f64r2, f64r3, f64r4, f64r5, f64r6, f64r7, f64r8, f64r9, f64m10, f64r10, f64r11, f64r12, f64r13, f64r14, f64r15, f64r16, f64r17, f64l10_b, digV] | with_reducible refine ch_both (fun _ => ?_) (fun _ => ?_) | with_reducible refine ite_both (fun _ => ?_) (fun _ => ?_) | intro _)
  | cons b t ih =>
    intro i v hr hi hv
    have hlen := congrArg List.length hr
    simp only [List.length_drop, List.length_cons] at hlen
    have hb : s[i]? = some b := by
      have := congrArg (·[0]?) hr
      simpa using this
    have htl : s.drop (i + 1) = t := by
      have := congrArg List.tail hr
      simpa using this
    have e3 : ¬ (s.length : Int) ≤ i := by omega
    have hw := w64 i (by omega)
    have hx := fun h => hex_ok h b
    rw [Brun_loop]
    by_cases hd : hexV b.toNat < base
    · have hq : isHex b.toNat = true := by simp [isHex]; omega
      have hv2 : v * base ≤ 8589934592 * 16 := Nat.mul_le_mul hv hb0
      have ih2 := ih (i + 1) (min 8589934592 (v * base + hexV b.toNat)) htl (by omega) (Nat.min_le_left _ _)
      have hdv : digV base v (b :: t) = digV base (min 8589934592 (v * base + hexV b.toNat)) t := by simp [digV, hd]
      rw [hdv, ← ih2]
      have em : ((v * base : Nat) : Int) = (v : Int) * base := by push_cast; rfl
      have hw1 : IntKind.i64.wrap ((v : Int) * base) = (v * base : Nat) := by rw [← em, IntWalk.i64_in _ (by omega)]
      have hw2 : IntKind.i64.wrap (((v * base : Nat) : Int) + hexV b.toNat) = ((v * base + hexV b.toNat : Nat) : Int) := by rw [IntWalk.i64_in _ (by omega)]; push_cast; rfl
      have hm : (if (8589934592 : Int) ≤ ((v * base + hexV b.toNat : Nat) : Int) then (8589934592 : Int) else ((v * base + hexV b.toNat : Nat) : Int)) = ((min 8589934592 (v * base + hexV b.toNat) : Nat) : Int) := by split <;> omega
      have hge : ¬ (base : Int) ≤ hexV b.toNat := by omega
      have ei : ((i + 1 : Nat) : Int) = i + 1 := by push_cast; rfl
      rw [ei]
      rw [hq] at hx
      simp only [if_true] at hx
      generalize min 8589934592 (v * base + hexV b.toNat) = m at *
      generalize v * base + hexV b.toNat = m2 at *
      generalize v * base = m1 at *
      generalize hexV b.toNat = d at *
      clear ih ih2 hr hi hv hlen htl hs hd hdv hv2 hb0 ei em
      repeat (any_goals first | simp (dsimp := false) (maxSteps := 4000000) (maxDischargeDepth := 8) (implicitDefEqProofs := false) [*, -Int.not_le, -Int.not_lt, amLt, f64c, f64r0, f64r1, f64r2, f64r3, f64r4, f64r5, f64r6, f64r7, f64r8, f64r9, f64m10, f64r10, f64r11, f64r12, f64r13, f64r14, f64r15, f64r16, f64r17, f64l10_b] | with_reducible refine ch_both (fun _ => ?_) (fun _ => ?_) | with_reducible refine ite_both (fun _ => ?_) (fun _ => ?_) | intro _)
    · have hdv : digV base v (b :: t) = none := by simp [digV, hd]
      rw [hdv]
      by_cases hq : isHex b.toNat = true
      · have hge : (base : Int) ≤ hexV b.toNat := by omega
        rw [hq] at hx
        simp only [if_true] at hx
        generalize hexV b.toNat = d at *
        clear ih hr hi hv hlen htl hs hd hdv hb0
        repeat (any_goals first | simp (dsimp := false) (maxSteps := 4000000) (maxDischargeDepth := 8) (implicitDefEqProofs := false) [*, -Int.not_le, -Int.not_lt, amLt, f64c, f64r0, f64r1, f64r2, f64r3, f64r4, f64r5, f64r6, f64r7, f64r8, f64r9, f64m10, f64r10, f64r11, f64r12, f64r13, f64r14, f64r15, f64r16, f64r17, f64l10_b] | with_reducible refine ch_both (fun _ => ?_) (fun _ => ?_) | with_reducible refine ite_both (fun _ => ?_) (fun _ => ?_) | intro _)
      · have hq' : isHex b.toNat = false := by simpa using hq
        rw [hq'] at hx
        clear ih hr hi hv hlen htl hs hd hdv hb0 hq
        repeat (any_goals first | simp (dsimp := false) (maxSteps := 4000000) (maxDischargeDepth := 8) (implicitDefEqProofs := false) [*, -Int.not_le, -Int.not_lt, amLt, f64c, f64r0, f64r1, f64r2, f64r3, f64r4, f64r5, f64r6, f64r7, f64r8, f64r9, f64m10, f64r10, f64r11, f64r12, f64r13, f64r14, f64r15, f64r16, f64r17, f64l10_b] | with_reducible refine ch_both (fun _ => ?_) (fun _ => ?_) | with_reducible refine ite_both (fun _ => ?_) (fun _ => ?_) | intro _)

end Go.Proofs.YtmpdpjkblcdfkaaDoor
