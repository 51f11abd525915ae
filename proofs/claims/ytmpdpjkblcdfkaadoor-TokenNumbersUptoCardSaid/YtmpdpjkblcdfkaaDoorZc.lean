/- What is between tokens; values. -/
import Derived.Test.YtmpdpjkblcdfkaaDoorZb
import Derived.Test.YtmpdpjkblcdfkaaDoorAmW
namespace Go.Proofs.YtmpdpjkblcdfkaaDoor
open Go.AM
set_option maxRecDepth 20000
set_option maxHeartbeats 4000000
set_option linter.unusedSimpArgs false
set_option linter.unusedVariables false
attribute [local congr] andF_cg onF_cg bthen_cg bkeep_cg bcond_cg guardV_cg putF_cg guardF_cg ite_cg stepsF_cg
attribute [local simp] Brun_skip Brun_exit Brun_ret Brun_seq Brun_cond Brun_block Brun_region bthen_normal bthen_ret bthen_exit bblock_normal bblock_ret bblock_exit bkeep_some andF_some onF_some onF_none guardF_none guardF_some guardV_tup putF_some putF_none stepsF_nil stepsF_cons upd_apply ofL_cons ofL_nil bown_normal bown_ret banswer_normal banswer_ret aresults ares List.replicate stepF_call stepF_callD stepF_move stepF_pick stepF_alloc stepF_allocV stepF_box stepF_boxV stepF_build stepF_buildSlice stepF_buildSliceV stepF_load stepF_store stepF_nilCheck stepF_bin stepF_eq stepF_un stepF_conv stepF_strId strIdV_str strIdV_int stepF_toStr stepF_toBytes stepF_fn stepF_mkSlice stepF_slice stepF_strSlice stepF_fieldAddr stepF_field stepF_idxAddr stepF_idxArr stepF_index stepF_strIndex stepF_extract stepF_len0 stepF_len1 stepF_min stepF_max stepF_append stepF_appendF appF_none appF_row stepF_mkMap stepF_mkIface stepF_lookup stepF_mapUpdate stepF_ext aext_idx aext_count aext_same cellsF newF abin_add abin_sub abin_mul abin_quo abin_rem abin_eql abin_neq abin_lss abin_leq abin_gtr abin_geq abin_and abin_or abin_xor abin_shl abin_shr abin_seql abin_sneq aun_not aun_neg aeq_bool aeq_agg eqCells_nil eqCells_int eqCells_bool eqCells_str cellsOf_agg cellsOf_int cellsOf_bool cellsOf_str cellsOf_is cellsOf_ms cellsOf_fn cellsOf_nilp cellsOf_mp cellsOf_mm cellsOf_nilm cellsOf_nili cellsOf_ifc cellsOf_ip cget_one cget_agg ev_t ev_c fillp_nil fillp_cons isSc_int isSc_bool isSc_str isSc_is isSc_ms isSc_fn isSc_mm isSc_mp isSc_ip isSc_nilp isSc_nilm isSc_nili isSc_nilf isSc_ifc splice chunk strip strip.stripL imm imm.immL Areify_int Areify_bool Areify_str Areify_is Areify_nilp Areify_tup Areify_agg AreifyL andF_chi andF_ch onF_chi onF_ch bthen_ch bthen_chi bblock_ch bblock_chi bkeep_ch bkeep_chi bown_ch bown_chi banswer_ch banswer_chi isSome_ch bcond_ch guardV_ch1 guardV_ch0 chF_true chF_false chF_not
attribute [local simp ↓] andF_some andF_chi andF_ch onF_some onF_none onF_chi onF_ch bthen_normal bthen_ret bthen_exit bthen_ch bthen_chi bblock_normal bblock_ret bblock_exit bblock_ch bblock_chi bkeep_some bkeep_ch bkeep_chi bown_normal bown_ret bown_ch bown_chi banswer_normal banswer_ret banswer_ch banswer_chi bcond_ch guardV_ch1 guardV_ch0 guardV_tup guardF_none guardF_some putF_some putF_none stepsF_nil stepsF_cons chF_true chF_false Brun_seq Brun_cond Brun_block Brun_region Brun_skip Brun_ret Brun_exit stepF_call stepF_callD stepF_move stepF_pick stepF_alloc stepF_allocV stepF_box stepF_boxV stepF_build stepF_buildSlice stepF_buildSliceV stepF_load stepF_store stepF_nilCheck stepF_bin stepF_eq stepF_un stepF_conv stepF_strId stepF_toStr stepF_toBytes stepF_fn stepF_mkSlice stepF_slice stepF_strSlice stepF_fieldAddr stepF_field stepF_idxAddr stepF_idxArr stepF_index stepF_strIndex stepF_extract stepF_len0 stepF_len1 stepF_min stepF_max stepF_append stepF_appendF stepF_mkMap stepF_mkIface stepF_lookup stepF_mapUpdate stepF_ext
set_option maxHeartbeats 2000000
def hasPre (p s : List UInt8) : Bool := decide (s.take p.length = p)
theorem hasPre_len {p s : List UInt8} (h : hasPre p s = true) : p.length ≤ s.length := by
  have h1 : s.take p.length = p := by simpa [hasPre] using h
  have := congrArg List.length h1
  simp only [List.length_take] at this
  omega
theorem prefix_ok' (h : Heap) (s p : List UInt8) (hs : s.length ≤ 16777216) : Ccall tab 59 [.str s, .str p] h = some (.bool (hasPre p s), h) := by
  refine Ccall_own rfl rfl rfl rfl ?_
  by_cases q : p.length ≤ s.length
  · have q1 : (p.length : Int) ≤ s.length := by omega
    clear hs
    repeat (any_goals first | simp (dsimp := false) (maxSteps := 4000000) (maxDischargeDepth := 8) (implicitDefEqProofs := false) [*, -Int.not_le, -Int.not_lt, amLt, f59c, f59r0, f59r1, hasPre, obound_some, obound_none, abound_int] | with_reducible refine ch_both (fun _ => ?_) (fun _ => ?_) | with_reducible refine ite_both (fun _ => ?_) (fun _ => ?_) | intro _)
  · have q1 : ¬ (p.length : Int) ≤ s.length := by omega
    have q2 : hasPre p s = false := by cases q3 : hasPre p s with | false => rfl | true => exact absurd (hasPre_len q3) q
    clear hs q
    repeat (any_goals first | simp (dsimp := false) (maxSteps := 4000000) (maxDischargeDepth := 8) (implicitDefEqProofs := false) [*, -Int.not_le, -Int.not_lt, amLt, f59c, f59r0, f59r1] | with_reducible refine ch_both (fun _ => ?_) (fun _ => ?_) | with_reducible refine ite_both (fun _ => ?_) (fun _ => ?_) | intro _)
theorem prefix_ok (h : Heap) (s p : List UInt8) (hs : s.length ≤ 16777216) : Ccall tab 43 [.str s, .str p] h = some (.bool (hasPre p s), h) := by
  have h1 := fun h => prefix_ok' h s p hs
  refine Ccall_own rfl rfl rfl rfl ?_
  clear hs
  repeat (any_goals first | simp (dsimp := false) (maxSteps := 4000000) (maxDischargeDepth := 8) (implicitDefEqProofs := false) [*, -Int.not_le, -Int.not_lt, amLt, f43c, f43r0, f43r1] | with_reducible refine ch_both (fun _ => ?_) (fun _ => ?_) | with_reducible refine ite_both (fun _ => ?_) (fun _ => ?_) | intro _)
theorem u8_back (b : UInt8) : ((b.toNat : Int)).toNat.toUInt8 = b := by
  rw [Int.toNat_natCast]
  exact UInt8.ofNat_toNat
theorem indexByte_ok' (h : Heap) (s : List UInt8) (b : UInt8) : Ccall tab 60 [.str s, .int .u8 b.toNat] h = some (.int .i64 (Go.Lib.indexByte s b), h) := by
  refine Ccall_own rfl rfl rfl rfl ?_
  repeat (any_goals first | simp (dsimp := false) (maxSteps := 4000000) (maxDischargeDepth := 8) (implicitDefEqProofs := false) [*, -Int.not_le, -Int.not_lt, amLt, f60c, f60r0, f60r1, u8_back] | with_reducible refine ch_both (fun _ => ?_) (fun _ => ?_) | with_reducible refine ite_both (fun _ => ?_) (fun _ => ?_) | intro _)
theorem indexByte_ok (h : Heap) (s : List UInt8) (b : UInt8) : Ccall tab 44 [.str s, .int .u8 b.toNat] h = some (.int .i64 (Go.Lib.indexByte s b), h) := by
  have h1 := fun h => indexByte_ok' h s b
  refine Ccall_own rfl rfl rfl rfl ?_
  repeat (any_goals first | simp (dsimp := false) (maxSteps := 4000000) (maxDischargeDepth := 8) (implicitDefEqProofs := false) [*, -Int.not_le, -Int.not_lt, amLt, f44c, f44r0, f44r1] | with_reducible refine ch_both (fun _ => ?_) (fun _ => ?_) | with_reducible refine ite_both (fun _ => ?_) (fun _ => ?_) | intro _)
theorem index_ok (h : Heap) (s p : List UInt8) (hs : s.length ≤ 16777216) : Ccall tab 37 [.str s, .str p] h = some (.int .i64 (Go.Lib.index s p), h) := by
  refine Ccall_ext (F := libIndex) rfl rfl rfl rfl ?_
  simp only [strip.stripL, strip, libIndex]
  rw [if_pos (by omega)]
/-- Up to the end of a line. -/
def lineEnd : List UInt8 → Nat
  | [] => 0
  | b :: t => if b = 10 then 0 else lineEnd t + 1
theorem lineEnd_le (r : List UInt8) : lineEnd r ≤ r.length := by
  induction r with
  | nil => exact Nat.le_refl _
  | cons b t ih => unfold lineEnd; split <;> simp only [List.length_cons] <;> omega
theorem indexByte_line (r : List UInt8) : Go.Lib.indexByte r 10 = if lineEnd r < r.length then (lineEnd r : Int) else -1 := by
  induction r with
  | nil => rfl
  | cons b t ih =>
    unfold Go.Lib.indexByte
    have hl : lineEnd (b :: t) = if b = 10 then 0 else lineEnd t + 1 := rfl
    by_cases q : b = 10
    · rw [hl, if_pos q]
      simp [q]
    · have hle := lineEnd_le t
      rw [ih]
      rw [hl, if_neg q]
      simp only [beq_iff_eq, q, if_false, List.length_cons]
      by_cases q2 : lineEnd t < t.length
      · rw [if_pos q2, if_neg (by omega), if_pos (by omega)]; omega
      · rw [if_neg q2, if_pos rfl, if_neg (by omega)]
/-- Where a comment's end begins. -/
def closeC : List UInt8 → Option Nat
  | [] => none
  | b :: t => if hasPre [42, 47] (b :: t) = true then some 0 else (closeC t).map (· + 1)
theorem isPre_iff (p s : List UInt8) : p.isPrefixOf s = hasPre p s := by
  unfold hasPre
  rw [Bool.eq_iff_iff, List.isPrefixOf_iff_prefix, decide_eq_true_eq, List.prefix_iff_eq_take]
  exact ⟨fun h => h.symm, fun h => h.symm⟩
theorem index_close (r : List UInt8) : Go.Lib.index r [42, 47] = match closeC r with | some n => (n : Int) | none => -1 := by
  induction r with
  | nil => rfl
  | cons b t ih =>
    unfold Go.Lib.index closeC
    rw [isPre_iff, ih]
    by_cases q : hasPre [42, 47] (b :: t) = true
    · simp [q]
    · simp only [q, if_false]
      cases closeC t with
      | none => rfl
      | some n =>
        have : (((n : Int)) == -1) = false := beq_eq_false_iff_ne.2 (by omega)
        simp [this]
theorem closeC_room {r : List UInt8} {n : Nat} (h : closeC r = some n) : n + 2 ≤ r.length := by
  have h1 := index_close r
  rw [h] at h1
  have := Go.Lib.index_room r [42, 47] (by rw [h1]; simp only; omega)
  rw [h1] at this
  simp only [List.length_cons, List.length_nil] at this
  omega
def isBlank (n : Nat) : Bool := decide (n = 32 ∨ (9 ≤ n ∧ n ≤ 13))
/-- How far blanks and comments reach; true: a comment without an end begins there. -/
def skipR : Nat → List UInt8 → Nat × Bool
  | 0, _ => (0, false)
  | f + 1, r => match r with
    | [] => (0, false)
    | b :: t =>
      if isBlank b.toNat = true then ((skipR f t).1 + 1, (skipR f t).2)
      else if hasPre [47, 47] (b :: t) = true then ((skipR f ((b :: t).drop (lineEnd (b :: t)))).1 + lineEnd (b :: t), (skipR f ((b :: t).drop (lineEnd (b :: t)))).2)
      else if hasPre [47, 42] (b :: t) = true then match closeC (t.tail) with
        | none => (0, true)
        | some n => ((skipR f ((b :: t).drop (n + 4))).1 + (n + 4), (skipR f ((b :: t).drop (n + 4))).2)
      else (0, false)
theorem space_from (s : List UInt8) (hs : s.length ≤ 16777216) (h : Heap) (F : Env → Heap → Option (Ex × Env × Heap)) (hF : ∀ (k : Int) x, F (ofL [(0, .str s), (1, .int .i64 k), x]) h = some (.ret, ofL [(4, .int .i64 k), (5, .int .i64 0)], h)) : ∀ (f at_ : Nat) (r : List UInt8), s.drop at_ = r → at_ ≤ s.length → r.length < f →
    bthen (bblock 0 (Brun tab 65 (.loop f29l1) (ofL [(0, .str s), (1, .int .i64 at_)]) h)) F =
      some (.ret, ofL [(4, .int .i64 (at_ + (skipR f r).1 : Nat)), (5, .int .i64 (if (skipR f r).2 = true then 25 else 0))], h) := by
  intro f
  induction f with
  | zero => intro at_ r _ _ hf; omega
  | succ f ih =>
    intro at_ r hr hat hf
    have hlen : r.length = s.length - at_ := by rw [← hr]; simp
    have hp1 := fun h => prefix_ok h r [47, 47] (by omega)
    have hp2 := fun h => prefix_ok h r [47, 42] (by omega)
    have hi := fun h => indexByte_ok h r 10
    rw [show (((10 : UInt8).toNat : Nat) : Int) = 10 from rfl, indexByte_line] at hi
    rw [Brun_loop]
    cases r with
    | nil =>
      have e3 : (s.length : Int) ≤ at_ := by simp only [List.length_nil] at hlen; omega
      clear ih hf hat hlen hp1 hp2 hi hs hr
      repeat (any_goals first | simp (dsimp := false) (maxSteps := 4000000) (maxDischargeDepth := 8) (implicitDefEqProofs := false) [*, -Int.not_le, -Int.not_lt, amLt, f29c, f29m1, f29r0, f29r1, f29r2, f29r3, f29r4, f29r5, f29r6, f29r7, f29r8, f29r9, f29r10, f29r11, f29r12, f29r13, f29r14, f29l1_b, skipR] | with_reducible refine ch_both (fun _ => ?_) (fun _ => ?_) | with_reducible refine ite_both (fun _ => ?_) (fun _ => ?_) | intro _)
    | cons b t =>
      have hlt : at_ < s.length := by simp only [List.length_cons] at hlen; omega
      have hb : s[at_]? = some b := by
        have := congrArg (·[0]?) hr
        simpa using this
      have e3 : ¬ (s.length : Int) ≤ at_ := by omega
      have ea : (at_ : Int) ≤ s.length := by omega
      have hw := w64 at_ (by omega)
      simp only [List.length_cons] at hlen hf
      have htl : s.drop (at_ + 1) = t := by
        have := congrArg List.tail hr
        simpa using this
      by_cases hbl : isBlank b.toNat = true
      · have hsk : skipR (f + 1) (b :: t) = ((skipR f t).1 + 1, (skipR f t).2) := by simp [skipR, hbl]
        rw [hsk]
        have ih2 := ih (at_ + 1) t htl (by omega) (by omega)
        rw [show at_ + 1 + (skipR f t).1 = at_ + ((skipR f t).1 + 1) by omega] at ih2
        push_cast at ih2
        have hb1 : b.toNat = 32 ∨ (9 ≤ b.toNat ∧ b.toNat ≤ 13) := by simpa [isBlank] using hbl
        clear ih hf hat hlen hp1 hp2 hi hs hr hsk htl hlt hbl
        by_cases q1 : (b.toNat : Int) = 32
        · repeat (any_goals first | simp (dsimp := false) (maxSteps := 4000000) (maxDischargeDepth := 8) (implicitDefEqProofs := false) [*, -Int.not_le, -Int.not_lt, amLt, f29c, f29m1, f29r0, f29r1, f29r2, f29r3, f29r4, f29r5, f29r6, f29r7, f29r8, f29r9, f29r10, f29r11, f29r12, f29r13, f29r14, f29l1_b] | with_reducible refine ch_both (fun _ => ?_) (fun _ => ?_) | with_reducible refine ite_both (fun _ => ?_) (fun _ => ?_) | intro _)
        · have q2 : 9 ≤ (b.toNat : Int) ∧ (b.toNat : Int) ≤ 13 := by omega
          have q3 := q2.1
          have q4 := q2.2
          clear hb1 q2
          repeat (any_goals first | simp (dsimp := false) (maxSteps := 4000000) (maxDischargeDepth := 8) (implicitDefEqProofs := false) [*, -Int.not_le, -Int.not_lt, amLt, f29c, f29m1, f29r0, f29r1, f29r2, f29r3, f29r4, f29r5, f29r6, f29r7, f29r8, f29r9, f29r10, f29r11, f29r12, f29r13, f29r14, f29l1_b] | with_reducible refine ch_both (fun _ => ?_) (fun _ => ?_) | with_reducible refine ite_both (fun _ => ?_) (fun _ => ?_) | intro _)
      · have hb0 : ¬ (b.toNat = 32 ∨ (9 ≤ b.toNat ∧ b.toNat ≤ 13)) := by simpa [isBlank] using hbl
        have q1 : ¬ (b.toNat : Int) = 32 := by omega
        have q2 : ¬ (9 ≤ (b.toNat : Int) ∧ (b.toNat : Int) ≤ 13) := by omega
        -- the blanks are out
        have key : (b.toNat : Int) < 9 ∨ (13 < (b.toNat : Int)) := by omega
        cases h1 : hasPre [47, 47] (b :: t) with
        | true =>
          rw [h1] at hp1
          have hsk : skipR (f + 1) (b :: t) = ((skipR f ((b :: t).drop (lineEnd (b :: t)))).1 + lineEnd (b :: t), (skipR f ((b :: t).drop (lineEnd (b :: t)))).2) := by simp [skipR, hbl, h1]
          rw [hsk]
          have hpos : 1 ≤ lineEnd (b :: t) := by
            have hb47 : b = 47 := by
              have : (b :: t).take 2 = [47, 47] := by simpa [hasPre] using h1
              simp only [List.take_succ_cons, List.cons.injEq] at this
              exact this.1
            subst hb47
            simp [lineEnd]
          have hle := lineEnd_le (b :: t)
          have hd2 : s.drop (at_ + lineEnd (b :: t)) = (b :: t).drop (lineEnd (b :: t)) := by rw [← hr, List.drop_drop]
          simp only [List.length_cons] at hle
          generalize hn : lineEnd (b :: t) = n at *
          have ih2 := ih (at_ + n) ((b :: t).drop n) hd2 (by omega) (by simp only [List.length_drop, List.length_cons]; omega)
          rw [show at_ + n + (skipR f ((b :: t).drop n)).1 = at_ + ((skipR f ((b :: t).drop n)).1 + n) by omega] at ih2
          by_cases hend : n < t.length + 1
          · have hi' : ∀ h, Ccall tab 44 [.str (b :: t), .int .u8 10] h = some (.int .i64 (n : Int), h) := by intro h; rw [hi, if_pos (by simpa using hend)]
            have hw2 : IntKind.i64.wrap ((at_ : Int) + n) = at_ + n := IntWalk.i64_in _ (by omega)
            push_cast at ih2
            have hn0 : ¬ (n : Int) < 0 := by omega
            have hn1 : 0 ≤ (n : Int) := by omega
            clear ih hf hat hlen hp2 hi hs hsk htl hlt hbl hb0 hpos hle hd2 hn hend h1
            rcases key with k | k
            · have k2 : ¬ 9 ≤ (b.toNat : Int) := by omega
              clear q2 k
              repeat (any_goals first | simp (dsimp := false) (maxSteps := 4000000) (maxDischargeDepth := 8) (implicitDefEqProofs := false) [*, -Int.not_le, -Int.not_lt, amLt, f29c, f29m1, f29r0, f29r1, f29r2, f29r3, f29r4, f29r5, f29r6, f29r7, f29r8, f29r9, f29r10, f29r11, f29r12, f29r13, f29r14, f29l1_b, obound_some, obound_none, abound_int] | with_reducible refine ch_both (fun _ => ?_) (fun _ => ?_) | with_reducible refine ite_both (fun _ => ?_) (fun _ => ?_) | intro _)
            · have k2 : ¬ (b.toNat : Int) ≤ 13 := by omega
              clear q2 k
              repeat (any_goals first | simp (dsimp := false) (maxSteps := 4000000) (maxDischargeDepth := 8) (implicitDefEqProofs := false) [*, -Int.not_le, -Int.not_lt, amLt, f29c, f29m1, f29r0, f29r1, f29r2, f29r3, f29r4, f29r5, f29r6, f29r7, f29r8, f29r9, f29r10, f29r11, f29r12, f29r13, f29r14, f29l1_b, obound_some, obound_none, abound_int] | with_reducible refine ch_both (fun _ => ?_) (fun _ => ?_) | with_reducible refine ite_both (fun _ => ?_) (fun _ => ?_) | intro _)
          · have hnl : n = t.length + 1 := by omega
            have hi' : ∀ h, Ccall tab 44 [.str (b :: t), .int .u8 10] h = some (.int .i64 (-1), h) := by intro h; rw [hi, if_neg (by simpa using hend)]
            have hsk2 : skipR f ((b :: t).drop n) = (0, false) := by
              rw [List.drop_of_length_le (by simp; omega)]
              cases f <;> rfl
            have hpos2 : ((at_ + (0 + n) : Nat) : Int) = s.length := by omega
            rw [hsk2]
            simp only [hpos2]
            clear ih ih2 hf hat hlen hp2 hi hs hsk htl hlt hbl hb0 hpos hle hd2 hn hend h1 hsk2
            rcases key with k | k
            · have k2 : ¬ 9 ≤ (b.toNat : Int) := by omega
              clear q2 k
              repeat (any_goals first | simp (dsimp := false) (maxSteps := 4000000) (maxDischargeDepth := 8) (implicitDefEqProofs := false) [*, -Int.not_le, -Int.not_lt, amLt, f29c, f29m1, f29r0, f29r1, f29r2, f29r3, f29r4, f29r5, f29r6, f29r7, f29r8, f29r9, f29r10, f29r11, f29r12, f29r13, f29r14, f29l1_b, obound_some, obound_none, abound_int] | with_reducible refine ch_both (fun _ => ?_) (fun _ => ?_) | with_reducible refine ite_both (fun _ => ?_) (fun _ => ?_) | intro _)
            · have k2 : ¬ (b.toNat : Int) ≤ 13 := by omega
              clear q2 k
              repeat (any_goals first | simp (dsimp := false) (maxSteps := 4000000) (maxDischargeDepth := 8) (implicitDefEqProofs := false) [*, -Int.not_le, -Int.not_lt, amLt, f29c, f29m1, f29r0, f29r1, f29r2, f29r3, f29r4, f29r5, f29r6, f29r7, f29r8, f29r9, f29r10, f29r11, f29r12, f29r13, f29r14, f29l1_b, obound_some, obound_none, abound_int] | with_reducible refine ch_both (fun _ => ?_) (fun _ => ?_) | with_reducible refine ite_both (fun _ => ?_) (fun _ => ?_) | intro _)
        | false =>
          rw [h1] at hp1
          cases h2 : hasPre [47, 42] (b :: t) with
          | false =>
            rw [h2] at hp2
            have hsk : skipR (f + 1) (b :: t) = (0, false) := by simp [skipR, hbl, h1, h2]
            rw [hsk]
            clear ih hf hat hlen hi hs hsk htl hlt hbl hb0 h1 h2
            rcases key with k | k
            · have k2 : ¬ 9 ≤ (b.toNat : Int) := by omega
              clear q2 k
              repeat (any_goals first | simp (dsimp := false) (maxSteps := 4000000) (maxDischargeDepth := 8) (implicitDefEqProofs := false) [*, -Int.not_le, -Int.not_lt, amLt, f29c, f29m1, f29r0, f29r1, f29r2, f29r3, f29r4, f29r5, f29r6, f29r7, f29r8, f29r9, f29r10, f29r11, f29r12, f29r13, f29r14, f29l1_b, obound_some, obound_none, abound_int] | with_reducible refine ch_both (fun _ => ?_) (fun _ => ?_) | with_reducible refine ite_both (fun _ => ?_) (fun _ => ?_) | intro _)
            · have k2 : ¬ (b.toNat : Int) ≤ 13 := by omega
              clear q2 k
              repeat (any_goals first | simp (dsimp := false) (maxSteps := 4000000) (maxDischargeDepth := 8) (implicitDefEqProofs := false) [*, -Int.not_le, -Int.not_lt, amLt, f29c, f29m1, f29r0, f29r1, f29r2, f29r3, f29r4, f29r5, f29r6, f29r7, f29r8, f29r9, f29r10, f29r11, f29r12, f29r13, f29r14, f29l1_b, obound_some, obound_none, abound_int] | with_reducible refine ch_both (fun _ => ?_) (fun _ => ?_) | with_reducible refine ite_both (fun _ => ?_) (fun _ => ?_) | intro _)
          | true =>
            rw [h2] at hp2
            have hl2 := hasPre_len h2
            simp only [List.length_cons, List.length_nil] at hl2
            have hd2 : s.drop (at_ + 2) = t.tail := by
              have : s.drop (at_ + 2) = (s.drop at_).drop 2 := by rw [List.drop_drop]
              rw [this, hr]; simp
            have hix := fun h => index_ok h (t.tail) [42, 47] (by simp; omega)
            rw [index_close] at hix
            have ea2 : (at_ : Int) + 2 ≤ s.length := by omega
            have hw3 : IntKind.i64.wrap ((at_ : Int) + 2) = at_ + 2 := IntWalk.i64_in _ (by omega)
            have e5 : ((at_ : Int) + 2).toNat = at_ + 2 := by omega
            have e6 : 0 ≤ (at_ : Int) + 2 := by omega
            cases hc : closeC (t.tail) with
            | none =>
              rw [hc] at hix
              have hsk : skipR (f + 1) (b :: t) = (0, true) := by simp [skipR, hbl, h1, h2, hc]
              rw [hsk]
              clear ih hf hat hlen hi hs hsk htl hlt hbl hb0 h1 h2 hl2 hc
              rcases key with k | k
              · have k2 : ¬ 9 ≤ (b.toNat : Int) := by omega
                clear q2 k
                repeat (any_goals first | simp (dsimp := false) (maxSteps := 4000000) (maxDischargeDepth := 8) (implicitDefEqProofs := false) [*, -Int.not_le, -Int.not_lt, amLt, f29c, f29m1, f29r0, f29r1, f29r2, f29r3, f29r4, f29r5, f29r6, f29r7, f29r8, f29r9, f29r10, f29r11, f29r12, f29r13, f29r14, f29l1_b, obound_some, obound_none, abound_int] | with_reducible refine ch_both (fun _ => ?_) (fun _ => ?_) | with_reducible refine ite_both (fun _ => ?_) (fun _ => ?_) | intro _)
              · have k2 : ¬ (b.toNat : Int) ≤ 13 := by omega
                clear q2 k
                repeat (any_goals first | simp (dsimp := false) (maxSteps := 4000000) (maxDischargeDepth := 8) (implicitDefEqProofs := false) [*, -Int.not_le, -Int.not_lt, amLt, f29c, f29m1, f29r0, f29r1, f29r2, f29r3, f29r4, f29r5, f29r6, f29r7, f29r8, f29r9, f29r10, f29r11, f29r12, f29r13, f29r14, f29l1_b, obound_some, obound_none, abound_int] | with_reducible refine ch_both (fun _ => ?_) (fun _ => ?_) | with_reducible refine ite_both (fun _ => ?_) (fun _ => ?_) | intro _)
            | some n =>
              rw [hc] at hix
              have hroom := closeC_room hc
              simp only [List.length_tail] at hroom
              have hsk : skipR (f + 1) (b :: t) = ((skipR f ((b :: t).drop (n + 4))).1 + (n + 4), (skipR f ((b :: t).drop (n + 4))).2) := by simp [skipR, hbl, h1, h2, hc]
              rw [hsk]
              have hd4 : s.drop (at_ + (n + 4)) = (b :: t).drop (n + 4) := by rw [← hr, List.drop_drop]
              have ih2 := ih (at_ + (n + 4)) ((b :: t).drop (n + 4)) hd4 (by omega) (by simp only [List.length_drop, List.length_cons]; omega)
              rw [show at_ + (n + 4) + (skipR f ((b :: t).drop (n + 4))).1 = at_ + ((skipR f ((b :: t).drop (n + 4))).1 + (n + 4)) by omega] at ih2
              have hw4 : IntKind.i64.wrap ((n : Int) + 4) = n + 4 := IntWalk.i64_in _ (by omega)
              have hw5 : IntKind.i64.wrap ((at_ : Int) + (n + 4)) = at_ + (n + 4) := IntWalk.i64_in _ (by omega)
              simp only [Int.natCast_add, show ((4 : Nat) : Int) = 4 from rfl, List.drop_succ_cons] at ih2
              have hn0 : ¬ (n : Int) < 0 := by omega
              have hn1 : 0 ≤ (n : Int) := by omega
              clear ih hf hat hlen hi hs hsk htl hlt hbl hb0 h1 h2 hl2 hc hd4 hroom
              rcases key with k | k
              · have k2 : ¬ 9 ≤ (b.toNat : Int) := by omega
                clear q2 k
                repeat (any_goals first | simp (dsimp := false) (maxSteps := 4000000) (maxDischargeDepth := 8) (implicitDefEqProofs := false) [*, -Int.not_le, -Int.not_lt, amLt, f29c, f29m1, f29r0, f29r1, f29r2, f29r3, f29r4, f29r5, f29r6, f29r7, f29r8, f29r9, f29r10, f29r11, f29r12, f29r13, f29r14, f29l1_b, obound_some, obound_none, abound_int] | with_reducible refine ch_both (fun _ => ?_) (fun _ => ?_) | with_reducible refine ite_both (fun _ => ?_) (fun _ => ?_) | intro _)
              · have k2 : ¬ (b.toNat : Int) ≤ 13 := by omega
                clear q2 k
                repeat (any_goals first | simp (dsimp := false) (maxSteps := 4000000) (maxDischargeDepth := 8) (implicitDefEqProofs := false) [*, -Int.not_le, -Int.not_lt, amLt, f29c, f29m1, f29r0, f29r1, f29r2, f29r3, f29r4, f29r5, f29r6, f29r7, f29r8, f29r9, f29r10, f29r11, f29r12, f29r13, f29r14, f29l1_b, obound_some, obound_none, abound_int] | with_reducible refine ch_both (fun _ => ?_) (fun _ => ?_) | with_reducible refine ite_both (fun _ => ?_) (fun _ => ?_) | intro _)
theorem space_ok (h : Heap) (s : List UInt8) (hs : s.length ≤ 16777216) (at_ : Nat) (hat : at_ ≤ s.length) :
    Ccall tab 29 [.str s, .int .i64 at_] h = some (.tup [.int .i64 (at_ + (skipR (s.length + 1) (s.drop at_)).1 : Nat), .int .i64 (if (skipR (s.length + 1) (s.drop at_)).2 = true then 25 else 0)], h) := by
  have hF : ∀ (k : Int) x, Brun tab 65 (.seq (.region false f29r14 [4, 5] 0) .ret) (ofL [(0, .str s), (1, .int .i64 k), x]) [] = some (.ret, ofL [(4, .int .i64 k), (5, .int .i64 0)], []) := by
    rintro k ⟨x1, x2⟩
    repeat (any_goals first | simp (dsimp := false) (maxSteps := 4000000) (maxDischargeDepth := 8) (implicitDefEqProofs := false) [*, -Int.not_le, -Int.not_lt, amLt, f29c, f29m1, f29r0, f29r1, f29r2, f29r3, f29r4, f29r5, f29r6, f29r7, f29r8, f29r9, f29r10, f29r11, f29r12, f29r13, f29r14, f29l1_b] | with_reducible refine ch_both (fun _ => ?_) (fun _ => ?_) | with_reducible refine ite_both (fun _ => ?_) (fun _ => ?_) | intro _)
  have hk := space_from s hs [] _ hF (s.length + 1) at_ (s.drop at_) rfl hat (by simp; omega)
  refine Ccall_own rfl rfl rfl rfl ?_
  clear hs hat hF
  simp only [f29r14] at hk
  push_cast at hk
  repeat (any_goals first | simp (dsimp := false) (maxSteps := 4000000) (maxDischargeDepth := 8) (implicitDefEqProofs := false) [*, -Int.not_le, -Int.not_lt, amLt, f29c, f29m1, f29r0, f29r1, f29r2, f29r3, f29r4, f29r5, f29r6, f29r7, f29r8, f29r9, f29r10, f29r11, f29r12, f29r13, f29r14, f29l1_b] | with_reducible refine ch_both (fun _ => ?_) (fun _ => ?_) | with_reducible refine ite_both (fun _ => ?_) (fun _ => ?_) | intro _)
def or32 (n : Nat) : Nat := if (n / 32) % 2 = 1 then n else n + 32
theorem or32_ok (b : UInt8) : orI .u8 (b.toNat : Int) 32 = (or32 b.toNat : Int) := by
  have h := byte_all (p := fun n => decide (orI .u8 (n : Int) 32 = (or32 n : Int))) (by decide +kernel) b
  simpa using h
def isX (b : UInt8) : Bool := decide (or32 b.toNat = 120)
/-- The value of digits, none of them too great; it stops growing at 2^33. -/
def digV (base : Nat) : Nat → List UInt8 → Option Nat
  | v, [] => some v
  | v, b :: t => if hexV b.toNat < base then digV base (min 8589934592 (v * base + hexV b.toNat)) t else none
theorem value_loop (s : List UInt8) (hs : s.length ≤ 16777216) (h : Heap) (base : Nat) (hb0 : base ≤ 16) (ten : Bool) : ∀ (r : List UInt8) (i v : Nat), s.drop i = r → i ≤ s.length → v ≤ 8589934592 →
    Brun tab 66 (.loop f64l10) (ofL [(0, .str s), (5, .int .i64 base), (6, .bool ten), (7, .int .i64 v), (39, .int .i64 s.length), (40, .int .i64 i)]) h =
      match digV base v r with
      | some w => some (.exit 1, ofL [(0, .str s), (5, .int .i64 base), (6, .bool ten), (7, .int .i64 w), (39, .int .i64 s.length), (40, .int .i64 s.length), (41, .bool false)], h)
      | none => some (.ret, ofL [(2, .int .i64 0), (3, .bool false), (4, .bool false)], h) := by
  intro r
  induction r with
  | nil =>
    intro i v hr hi hv
    have hlen := congrArg List.length hr
    simp only [List.length_drop, List.length_nil] at hlen
    have e3 : (s.length : Int) = i := by omega
    rw [Brun_loop]
    clear hr hi hv hlen hs
    repeat (any_goals first | simp (dsimp := false) (maxSteps := 4000000) (maxDischargeDepth := 8) (implicitDefEqProofs := false) [*, -Int.not_le, -Int.not_lt, amLt, f64c, f64r0, f64r1, f64r2, f64r3, f64r4, f64r5, f64r6, f64r7, f64r8, f64r9, f64m10, f64r10, f64r11, f64r12, f64r13, f64r14, f64r15, f64r16, f64r17, f64l10_b, digV] | with_reducible refine ch_both (fun _ => ?_) (fun _ => ?_) | with_reducible refine ite_both (fun _ => ?_) (fun _ => ?_) | intro _)
  | cons b t ih =>
    intro i v hr hi hv
    have hlen := congrArg List.length hr
    simp only [List.length_drop, List.length_cons] at hlen
    have hb : s[i]? = some b := by
      have := congrArg (·[0]?) hr
      simpa using this
    have htl : s.drop (i + 1) = t := by
      have := congrArg List.tail hr
      simpa using this
    have e3 : ¬ (s.length : Int) ≤ i := by omega
    have hw := w64 i (by omega)
    have hx := fun h => hex_ok h b
    rw [Brun_loop]
    by_cases hd : hexV b.toNat < base
    · have hq : isHex b.toNat = true := by simp [isHex]; omega
      have hv2 : v * base ≤ 8589934592 * 16 := Nat.mul_le_mul hv hb0
      have ih2 := ih (i + 1) (min 8589934592 (v * base + hexV b.toNat)) htl (by omega) (Nat.min_le_left _ _)
      have hdv : digV base v (b :: t) = digV base (min 8589934592 (v * base + hexV b.toNat)) t := by simp [digV, hd]
      rw [hdv, ← ih2]
      have em : ((v * base : Nat) : Int) = (v : Int) * base := by push_cast; rfl
      have hw1 : IntKind.i64.wrap ((v : Int) * base) = (v * base : Nat) := by rw [← em, IntWalk.i64_in _ (by omega)]
      have hw2 : IntKind.i64.wrap (((v * base : Nat) : Int) + hexV b.toNat) = ((v * base + hexV b.toNat : Nat) : Int) := by rw [IntWalk.i64_in _ (by omega)]; push_cast; rfl
      have hm : (if (8589934592 : Int) ≤ ((v * base + hexV b.toNat : Nat) : Int) then (8589934592 : Int) else ((v * base + hexV b.toNat : Nat) : Int)) = ((min 8589934592 (v * base + hexV b.toNat) : Nat) : Int) := by split <;> omega
      have hge : ¬ (base : Int) ≤ hexV b.toNat := by omega
      have ei : ((i + 1 : Nat) : Int) = i + 1 := by push_cast; rfl
      rw [ei]
      rw [hq] at hx
      simp only [if_true] at hx
      generalize min 8589934592 (v * base + hexV b.toNat) = m at *
      generalize v * base + hexV b.toNat = m2 at *
      generalize v * base = m1 at *
      generalize hexV b.toNat = d at *
      clear ih ih2 hr hi hv hlen htl hs hd hdv hv2 hb0 ei em
      repeat (any_goals first | simp (dsimp := false) (maxSteps := 4000000) (maxDischargeDepth := 8) (implicitDefEqProofs := false) [*, -Int.not_le, -Int.not_lt, amLt, f64c, f64r0, f64r1, f64r2, f64r3, f64r4, f64r5, f64r6, f64r7, f64r8, f64r9, f64m10, f64r10, f64r11, f64r12, f64r13, f64r14, f64r15, f64r16, f64r17, f64l10_b] | with_reducible refine ch_both (fun _ => ?_) (fun _ => ?_) | with_reducible refine ite_both (fun _ => ?_) (fun _ => ?_) | intro _)
    · have hdv : digV base v (b :: t) = none := by simp [digV, hd]
      rw [hdv]
      by_cases hq : isHex b.toNat = true
      · have hge : (base : Int) ≤ hexV b.toNat := by omega
        rw [hq] at hx
        simp only [if_true] at hx
        generalize hexV b.toNat = d at *
        clear ih hr hi hv hlen htl hs hd hdv hb0
        repeat (any_goals first | simp (dsimp := false) (maxSteps := 4000000) (maxDischargeDepth := 8) (implicitDefEqProofs := false) [*, -Int.not_le, -Int.not_lt, amLt, f64c, f64r0, f64r1, f64r2, f64r3, f64r4, f64r5, f64r6, f64r7, f64r8, f64r9, f64m10, f64r10, f64r11, f64r12, f64r13, f64r14, f64r15, f64r16, f64r17, f64l10_b] | with_reducible refine ch_both (fun _ => ?_) (fun _ => ?_) | with_reducible refine ite_both (fun _ => ?_) (fun _ => ?_) | intro _)
      · have hq' : isHex b.toNat = false := by simpa using hq
        rw [hq'] at hx
        clear ih hr hi hv hlen htl hs hd hdv hb0 hq
        repeat (any_goals first | simp (dsimp := false) (maxSteps := 4000000) (maxDischargeDepth := 8) (implicitDefEqProofs := false) [*, -Int.not_le, -Int.not_lt, amLt, f64c, f64r0, f64r1, f64r2, f64r3, f64r4, f64r5, f64r6, f64r7, f64r8, f64r9, f64m10, f64r10, f64r11, f64r12, f64r13, f64r14, f64r15, f64r16, f64r17, f64l10_b] | with_reducible refine ch_both (fun _ => ?_) (fun _ => ?_) | with_reducible refine ite_both (fun _ => ?_) (fun _ => ?_) | intro _)
def hexPre (s : List UInt8) : Bool := match s with
  | a :: x :: _ => decide (a = 48) && isX x
  | _ => false
def zeroPre (s : List UInt8) : Bool := match s with
  | a :: _ => decide (a = 48)
  | _ => false
def valueR (s : List UInt8) : Option (Nat × Bool) :=
  if hexPre s = true then (if s.drop 2 = [] then none else (digV 16 0 (s.drop 2)).map (·, false))
  else if zeroPre s = true then (digV 8 0 s).map (·, false)
  else if s = [] then none else (digV 10 0 s).map (·, true)
def valueV : Option (Nat × Bool) → AV
  | some (v, t) => .tup [.int .i64 v, .bool t, .bool true]
  | none => .tup [.int .i64 0, .bool false, .bool false]
theorem u48 (a : UInt8) : a = 48 ↔ (a.toNat : Int) = 48 := by
  constructor
  · rintro rfl; rfl
  · intro h; exact UInt8.toNat_inj.1 (by show a.toNat = 48; omega)
theorem hexPre_iff (s : List UInt8) : hexPre s = true ↔ ∃ x, s[0]? = some 48 ∧ s[1]? = some x ∧ or32 x.toNat = 120 := by
  match s with
  | [] => simp [hexPre]
  | [a] => simp [hexPre]
  | a :: x :: t => simp [hexPre, isX]
theorem zeroPre_iff (s : List UInt8) : zeroPre s = true ↔ s[0]? = some 48 := by
  match s with
  | [] => simp [zeroPre]
  | a :: t => simp [zeroPre]
theorem lt_get {s : List UInt8} {i : Nat} {b : UInt8} (h : s[i]? = some b) : i < s.length := (List.getElem?_eq_some_iff.1 h).1
theorem value_ok (h : Heap) (s : List UInt8) (hs : s.length ≤ 16777216) : Ccall tab 64 [.str s] h = some (valueV (valueR s), h) := by
  have lp := fun (u : List UInt8) (hu : u.length ≤ 16777216) (base : Nat) (hb : base ≤ 16) (ten : Bool) => value_loop u hu [] base hb ten u 0 0 rfl (by omega) (by omega)
  simp only [Int.natCast_zero] at lp
  unfold valueR
  by_cases hx : hexPre s = true
  · rw [if_pos hx]
    obtain ⟨x, h0, h1, h2⟩ := (hexPre_iff s).1 hx
    have e1 := lt_get h1
    have lq := lp (s.drop 2) (by simp only [List.length_drop]; omega) 16 (by omega) false
    push_cast at lq
    have e2 : 1 < (s.length : Int) := by omega
    have e3 : (2 : Int) ≤ s.length := by omega
    have e4 : ((or32 x.toNat : Nat) : Int) = 120 := by omega
    generalize hd : s.drop 2 = u at *
    refine Ccall_own rfl rfl rfl rfl ?_
    clear lp hx hs e1
    by_cases hu : u = []
    · rw [if_pos hu]
      subst hu
      repeat (any_goals first | simp (dsimp := false) (maxSteps := 4000000) (maxDischargeDepth := 8) (implicitDefEqProofs := false) [*, -Int.not_le, -Int.not_lt, amLt, f64c, f64r0, f64r1, f64r2, f64r3, f64r4, f64r5, f64r6, f64r7, f64r8, f64r9, f64m10, f64r10, f64r11, f64r12, f64r13, f64r14, f64r15, f64r16, f64r17, f64l10_b, or32_ok, obound_some, obound_none, abound_int, valueV] | with_reducible refine ch_both (fun _ => ?_) (fun _ => ?_) | with_reducible refine ite_both (fun _ => ?_) (fun _ => ?_) | intro _)
    · rw [if_neg hu]
      cases hv : digV 16 0 u with
      | none =>
        rw [hv] at lq
        repeat (any_goals first | simp (dsimp := false) (maxSteps := 4000000) (maxDischargeDepth := 8) (implicitDefEqProofs := false) [*, -Int.not_le, -Int.not_lt, amLt, f64c, f64r0, f64r1, f64r2, f64r3, f64r4, f64r5, f64r6, f64r7, f64r8, f64r9, f64m10, f64r10, f64r11, f64r12, f64r13, f64r14, f64r15, f64r16, f64r17, f64l10_b, or32_ok, obound_some, obound_none, abound_int, valueV] | with_reducible refine ch_both (fun _ => ?_) (fun _ => ?_) | with_reducible refine ite_both (fun _ => ?_) (fun _ => ?_) | intro _)
      | some w =>
        rw [hv] at lq
        repeat (any_goals first | simp (dsimp := false) (maxSteps := 4000000) (maxDischargeDepth := 8) (implicitDefEqProofs := false) [*, -Int.not_le, -Int.not_lt, amLt, f64c, f64r0, f64r1, f64r2, f64r3, f64r4, f64r5, f64r6, f64r7, f64r8, f64r9, f64m10, f64r10, f64r11, f64r12, f64r13, f64r14, f64r15, f64r16, f64r17, f64l10_b, or32_ok, obound_some, obound_none, abound_int, valueV] | with_reducible refine ch_both (fun _ => ?_) (fun _ => ?_) | with_reducible refine ite_both (fun _ => ?_) (fun _ => ?_) | intro _)
  · rw [if_neg hx]
    by_cases hz : zeroPre s = true
    · rw [if_pos hz]
      have h0 := (zeroPre_iff s).1 hz
      have lq := lp s hs 8 (by omega) false
      push_cast at lq
      have e0 := lt_get h0
      have e9 : ¬ s = [] := by rintro rfl; simp at h0
      cases h1 : s[1]? with
      | none =>
        have e1 := List.getElem?_eq_none_iff.1 h1
        have e2 : ¬ 1 < (s.length : Int) := by omega
        refine Ccall_own rfl rfl rfl rfl ?_
        clear lp hx hs e0 e1 hz
        cases hv : digV 8 0 s with
        | none =>
          rw [hv] at lq
          repeat (any_goals first | simp (dsimp := false) (maxSteps := 4000000) (maxDischargeDepth := 8) (implicitDefEqProofs := false) [*, -Int.not_le, -Int.not_lt, amLt, f64c, f64r0, f64r1, f64r2, f64r3, f64r4, f64r5, f64r6, f64r7, f64r8, f64r9, f64m10, f64r10, f64r11, f64r12, f64r13, f64r14, f64r15, f64r16, f64r17, f64l10_b, or32_ok, valueV] | with_reducible refine ch_both (fun _ => ?_) (fun _ => ?_) | with_reducible refine ite_both (fun _ => ?_) (fun _ => ?_) | intro _)
        | some w =>
          rw [hv] at lq
          repeat (any_goals first | simp (dsimp := false) (maxSteps := 4000000) (maxDischargeDepth := 8) (implicitDefEqProofs := false) [*, -Int.not_le, -Int.not_lt, amLt, f64c, f64r0, f64r1, f64r2, f64r3, f64r4, f64r5, f64r6, f64r7, f64r8, f64r9, f64m10, f64r10, f64r11, f64r12, f64r13, f64r14, f64r15, f64r16, f64r17, f64l10_b, or32_ok, valueV] | with_reducible refine ch_both (fun _ => ?_) (fun _ => ?_) | with_reducible refine ite_both (fun _ => ?_) (fun _ => ?_) | intro _)
      | some x =>
        have e1 := lt_get h1
        have e2 : 1 < (s.length : Int) := by omega
        have e4 : ¬ ((or32 x.toNat : Nat) : Int) = 120 := fun h => hx ((hexPre_iff s).2 ⟨x, h0, h1, by omega⟩)
        refine Ccall_own rfl rfl rfl rfl ?_
        clear lp hx hs e0 e1 hz
        cases hv : digV 8 0 s with
        | none =>
          rw [hv] at lq
          repeat (any_goals first | simp (dsimp := false) (maxSteps := 4000000) (maxDischargeDepth := 8) (implicitDefEqProofs := false) [*, -Int.not_le, -Int.not_lt, amLt, f64c, f64r0, f64r1, f64r2, f64r3, f64r4, f64r5, f64r6, f64r7, f64r8, f64r9, f64m10, f64r10, f64r11, f64r12, f64r13, f64r14, f64r15, f64r16, f64r17, f64l10_b, or32_ok, valueV] | with_reducible refine ch_both (fun _ => ?_) (fun _ => ?_) | with_reducible refine ite_both (fun _ => ?_) (fun _ => ?_) | intro _)
        | some w =>
          rw [hv] at lq
          repeat (any_goals first | simp (dsimp := false) (maxSteps := 4000000) (maxDischargeDepth := 8) (implicitDefEqProofs := false) [*, -Int.not_le, -Int.not_lt, amLt, f64c, f64r0, f64r1, f64r2, f64r3, f64r4, f64r5, f64r6, f64r7, f64r8, f64r9, f64m10, f64r10, f64r11, f64r12, f64r13, f64r14, f64r15, f64r16, f64r17, f64l10_b, or32_ok, valueV] | with_reducible refine ch_both (fun _ => ?_) (fun _ => ?_) | with_reducible refine ite_both (fun _ => ?_) (fun _ => ?_) | intro _)
    · rw [if_neg hz]
      have lq := lp s hs 10 (by omega) true
      push_cast at lq
      cases h0 : s[0]? with
      | none =>
        have e1 : s = [] := by cases s with | nil => rfl | cons a t => simp at h0
        rw [if_pos e1]
        subst e1
        refine Ccall_own rfl rfl rfl rfl ?_
        clear lp hx hs hz
        repeat (any_goals first | simp (dsimp := false) (maxSteps := 4000000) (maxDischargeDepth := 8) (implicitDefEqProofs := false) [*, -Int.not_le, -Int.not_lt, amLt, f64c, f64r0, f64r1, f64r2, f64r3, f64r4, f64r5, f64r6, f64r7, f64r8, f64r9, f64m10, f64r10, f64r11, f64r12, f64r13, f64r14, f64r15, f64r16, f64r17, f64l10_b, or32_ok, valueV] | with_reducible refine ch_both (fun _ => ?_) (fun _ => ?_) | with_reducible refine ite_both (fun _ => ?_) (fun _ => ?_) | intro _)
      | some a =>
        have e9 : ¬ s = [] := by rintro rfl; simp at h0
        have e8 : ¬ (a.toNat : Int) = 48 := fun h => hz ((zeroPre_iff s).2 (by rw [h0, (u48 a).2 h]))
        rw [if_neg e9]
        refine Ccall_own rfl rfl rfl rfl ?_
        clear lp hx hs hz
        by_cases e2 : 1 < (s.length : Int)
        · cases hv : digV 10 0 s with
          | none =>
            rw [hv] at lq
            repeat (any_goals first | simp (dsimp := false) (maxSteps := 4000000) (maxDischargeDepth := 8) (implicitDefEqProofs := false) [*, -Int.not_le, -Int.not_lt, amLt, f64c, f64r0, f64r1, f64r2, f64r3, f64r4, f64r5, f64r6, f64r7, f64r8, f64r9, f64m10, f64r10, f64r11, f64r12, f64r13, f64r14, f64r15, f64r16, f64r17, f64l10_b, or32_ok, valueV] | with_reducible refine ch_both (fun _ => ?_) (fun _ => ?_) | with_reducible refine ite_both (fun _ => ?_) (fun _ => ?_) | intro _)
          | some w =>
            rw [hv] at lq
            repeat (any_goals first | simp (dsimp := false) (maxSteps := 4000000) (maxDischargeDepth := 8) (implicitDefEqProofs := false) [*, -Int.not_le, -Int.not_lt, amLt, f64c, f64r0, f64r1, f64r2, f64r3, f64r4, f64r5, f64r6, f64r7, f64r8, f64r9, f64m10, f64r10, f64r11, f64r12, f64r13, f64r14, f64r15, f64r16, f64r17, f64l10_b, or32_ok, valueV] | with_reducible refine ch_both (fun _ => ?_) (fun _ => ?_) | with_reducible refine ite_both (fun _ => ?_) (fun _ => ?_) | intro _)
        · cases hv : digV 10 0 s with
          | none =>
            rw [hv] at lq
            repeat (any_goals first | simp (dsimp := false) (maxSteps := 4000000) (maxDischargeDepth := 8) (implicitDefEqProofs := false) [*, -Int.not_le, -Int.not_lt, amLt, f64c, f64r0, f64r1, f64r2, f64r3, f64r4, f64r5, f64r6, f64r7, f64r8, f64r9, f64m10, f64r10, f64r11, f64r12, f64r13, f64r14, f64r15, f64r16, f64r17, f64l10_b, or32_ok, valueV] | with_reducible refine ch_both (fun _ => ?_) (fun _ => ?_) | with_reducible refine ite_both (fun _ => ?_) (fun _ => ?_) | intro _)
          | some w =>
            rw [hv] at lq
            repeat (any_goals first | simp (dsimp := false) (maxSteps := 4000000) (maxDischargeDepth := 8) (implicitDefEqProofs := false) [*, -Int.not_le, -Int.not_lt, amLt, f64c, f64r0, f64r1, f64r2, f64r3, f64r4, f64r5, f64r6, f64r7, f64r8, f64r9, f64m10, f64r10, f64r11, f64r12, f64r13, f64r14, f64r15, f64r16, f64r17, f64l10_b, or32_ok, valueV] | with_reducible refine ch_both (fun _ => ?_) (fun _ => ?_) | with_reducible refine ite_both (fun _ => ?_) (fun _ => ?_) | intro _)

end Go.Proofs.YtmpdpjkblcdfkaaDoor
