/- The reference: blanks, spots, digits. -/
import Derived.Test.YtmpdpjkblcdfkaaGreatDoorZg
import Derived.Test.YtmpdpjkblcdfkaaGreatDoorAmW
namespace Go.Proofs.YtmpdpjkblcdfkaaGreatDoor
open Go.AM
set_option maxRecDepth 20000
set_option maxHeartbeats 4000000
set_option linter.unusedSimpArgs false
set_option linter.unusedVariables false
attribute [local congr] andF_cg onF_cg bthen_cg bkeep_cg bcond_cg guardV_cg putF_cg guardF_cg ite_cg stepsF_cg
attribute [local simp] Brun_skip Brun_exit Brun_ret Brun_seq Brun_cond Brun_block Brun_region bthen_normal bthen_ret bthen_exit bblock_normal bblock_ret bblock_exit bkeep_some andF_some onF_some onF_none guardF_none guardF_some guardV_tup putF_some putF_none stepsF_nil stepsF_cons upd_apply ofL_cons ofL_nil bown_normal bown_ret banswer_normal banswer_ret aresults ares List.replicate stepF_call stepF_callD stepF_move stepF_pick stepF_alloc stepF_allocV stepF_box stepF_boxV stepF_build stepF_buildSlice stepF_buildSliceV stepF_load stepF_store stepF_nilCheck stepF_bin stepF_eq stepF_un stepF_conv stepF_strId stepF_toStr stepF_toBytes stepF_fn stepF_mkSlice stepF_slice stepF_strSlice stepF_fieldAddr stepF_field stepF_idxAddr stepF_idxArr stepF_index stepF_strIndex stepF_extract stepF_len0 stepF_len1 stepF_min stepF_max stepF_append stepF_appendF appF_none appF_row stepF_mkMap stepF_mkIface stepF_lookup stepF_mapUpdate stepF_ext aext_idx aext_count aext_same cellsF newF abin_add abin_sub abin_mul abin_quo abin_rem abin_eql abin_neq abin_lss abin_leq abin_gtr abin_geq abin_and abin_or abin_xor abin_shl abin_shr abin_seql abin_sneq aun_not aun_neg aeq_bool aeq_agg eqCells_nil eqCells_int eqCells_bool eqCells_str cellsOf_agg cellsOf_int cellsOf_bool cellsOf_str cellsOf_is cellsOf_ms cellsOf_fn cellsOf_nilp cellsOf_mp cellsOf_mm cellsOf_nilm cellsOf_nili cellsOf_ifc cellsOf_ip cget_one cget_agg ev_t ev_c fillp_nil fillp_cons isSc_int isSc_bool isSc_str isSc_is isSc_ms isSc_fn isSc_mm isSc_mp isSc_ip isSc_nilp isSc_nilm isSc_nili isSc_nilf isSc_ifc splice chunk strip strip.stripL imm imm.immL Areify_int Areify_bool Areify_str Areify_is Areify_nilp Areify_tup Areify_agg AreifyL andF_chi andF_ch onF_chi onF_ch bthen_ch bthen_chi bblock_ch bblock_chi bkeep_ch bkeep_chi bown_ch bown_chi banswer_ch banswer_chi isSome_ch bcond_ch guardV_ch1 guardV_ch0 chF_true chF_false chF_not
attribute [local simp ↓] andF_some andF_chi andF_ch onF_some onF_none onF_chi onF_ch bthen_normal bthen_ret bthen_exit bthen_ch bthen_chi bblock_normal bblock_ret bblock_exit bblock_ch bblock_chi bkeep_some bkeep_ch bkeep_chi bown_normal bown_ret bown_ch bown_chi banswer_normal banswer_ret banswer_ch banswer_chi bcond_ch guardV_ch1 guardV_ch0 guardV_tup guardF_none guardF_some putF_some putF_none stepsF_nil stepsF_cons chF_true chF_false Brun_seq Brun_cond Brun_block Brun_region Brun_skip Brun_ret Brun_exit stepF_call stepF_callD stepF_move stepF_pick stepF_alloc stepF_allocV stepF_box stepF_boxV stepF_build stepF_buildSlice stepF_buildSliceV stepF_load stepF_store stepF_nilCheck stepF_bin stepF_eq stepF_un stepF_conv stepF_strId stepF_toStr stepF_toBytes stepF_fn stepF_mkSlice stepF_slice stepF_strSlice stepF_fieldAddr stepF_field stepF_idxAddr stepF_idxArr stepF_index stepF_strIndex stepF_extract stepF_len0 stepF_len1 stepF_min stepF_max stepF_append stepF_appendF stepF_mkMap stepF_mkIface stepF_lookup stepF_mapUpdate stepF_ext
set_option maxHeartbeats 2000000
theorem rat_ok (h : Heap) (s p : List UInt8) (i : Nat) (hs : s.length ≤ 16777216) (hp : p.length ≤ 1000) (hi : i ≤ s.length) : Ccall tab 39 [.str s, .int .i64 i, .str p] h = some (.bool (hasPre p (s.drop i)), h) := by
  have hl : (s.drop i).length = s.length - i := by simp
  have w1 : IntKind.i64.wrap ((s.length : Int) - i) = ((s.length - i : Nat) : Int) := by rw [IntWalk.i64_in _ (by omega)]; omega
  have w2 : IntKind.i64.wrap ((i : Int) + p.length) = ((i + p.length : Nat) : Int) := by rw [IntWalk.i64_in _ (by omega)]; omega
  have hsl : (s.take (i + p.length)).drop i = (s.drop i).take p.length := by rw [List.drop_take]; congr 1; omega
  refine Ccall_own rfl rfl rfl rfl ?_
  by_cases q : p.length ≤ s.length - i
  · have q1 : (p.length : Int) ≤ ((s.length - i : Nat) : Int) := by omega
    have e1 : ((i + p.length : Nat) : Int) ≤ s.length := by omega
    have e2 : (i : Int) ≤ ((i + p.length : Nat) : Int) := by omega
    have e3 : (0 : Int) ≤ ((i + p.length : Nat) : Int) := by omega
    have e4 : i ≤ i + p.length := by omega
    have hq : hasPre p (s.drop i) = decide ((s.take (i + p.length)).drop i = p) := by rw [hsl]; rfl
    rw [hq]
    generalize i + p.length = k at *
    generalize s.length - i = d at *
    clear hs hp hi q hsl hl hq
    repeat (any_goals first | simp (dsimp := false) (maxSteps := 4000000) (maxDischargeDepth := 8) (implicitDefEqProofs := false) [*, -Int.not_le, -Int.not_lt, amLt, f39c, f39r0, f39r1, obound_some, obound_none, abound_int] | with_reducible refine ch_both (fun _ => ?_) (fun _ => ?_) | with_reducible refine ite_both (fun _ => ?_) (fun _ => ?_) | intro _)
  · have q1 : ¬ (p.length : Int) ≤ ((s.length - i : Nat) : Int) := by omega
    have q2 : hasPre p (s.drop i) = false := by
      cases q3 : hasPre p (s.drop i) with
      | false => rfl
      | true => have := hasPre_len q3; omega
    rw [q2]
    generalize s.length - i = d at *
    clear hs hp hi q hsl hl q2
    repeat (any_goals first | simp (dsimp := false) (maxSteps := 4000000) (maxDischargeDepth := 8) (implicitDefEqProofs := false) [*, -Int.not_le, -Int.not_lt, amLt, f39c, f39r0, f39r1] | with_reducible refine ch_both (fun _ => ?_) (fun _ => ?_) | with_reducible refine ite_both (fun _ => ?_) (fun _ => ?_) | intro _)
theorem rend_loop (s : List UInt8) (hs : s.length ≤ 16777216) (h : Heap) (a : Int) : ∀ (r : List UInt8) (k : Nat), s.drop k = r → k ≤ s.length →
    Brun tab 71 (.loop f17l7) (ofL [(0, .str s), (1, .int .i64 a), (7, .int .i64 k)]) h =
      some (.exit 3, ofL [(0, .str s), (1, .int .i64 a), (7, .int .i64 (match closeC r with | some n => k + n | none => s.length : Nat)), (44, .bool false)], h) := by
  intro r
  induction r with
  | nil =>
    intro k hr hk
    have hlen := congrArg List.length hr
    simp only [List.length_drop, List.length_nil] at hlen
    have e3 : (s.length : Int) ≤ k := by omega
    have e4 : k = s.length := by omega
    rw [Brun_loop]
    simp only [closeC]
    clear hr hk hlen hs
    subst e4
    repeat (any_goals first | simp (dsimp := false) (maxSteps := 4000000) (maxDischargeDepth := 8) (implicitDefEqProofs := false) [*, -Int.not_le, -Int.not_lt, amLt, f17c, f17m1, f17m7, f17r0, f17r1, f17r2, f17r3, f17r4, f17r5, f17r6, f17r7, f17r8, f17r9, f17m13, f17r10, f17r11, f17r12, f17r13, f17r14, f17r15, f17r16, f17l1_b, f17l7_b, f17l13_b] | with_reducible refine ch_both (fun _ => ?_) (fun _ => ?_) | with_reducible refine ite_both (fun _ => ?_) (fun _ => ?_) | intro _)
  | cons b t ih =>
    intro k hr hk
    have hlen := congrArg List.length hr
    simp only [List.length_drop, List.length_cons] at hlen
    have htl : s.drop (k + 1) = t := by
      have := congrArg List.tail hr
      simpa using this
    have e3 : ¬ (s.length : Int) ≤ k := by omega
    have hw := w64 k (by omega)
    have hat := fun h => rat_ok h s [42, 47] k hs (by decide) hk
    rw [hr] at hat
    rw [Brun_loop]
    by_cases q : hasPre [42, 47] (b :: t) = true
    · have hc : closeC (b :: t) = some 0 := by simp [closeC, q]
      rw [hc]
      rw [q] at hat
      simp only [Nat.add_zero]
      clear hr hk hlen hs htl ih hc q
      repeat (any_goals first | simp (dsimp := false) (maxSteps := 4000000) (maxDischargeDepth := 8) (implicitDefEqProofs := false) [*, -Int.not_le, -Int.not_lt, amLt, f17c, f17m1, f17m7, f17r0, f17r1, f17r2, f17r3, f17r4, f17r5, f17r6, f17r7, f17r8, f17r9, f17m13, f17r10, f17r11, f17r12, f17r13, f17r14, f17r15, f17r16, f17l1_b, f17l7_b, f17l13_b] | with_reducible refine ch_both (fun _ => ?_) (fun _ => ?_) | with_reducible refine ite_both (fun _ => ?_) (fun _ => ?_) | intro _)
    · have q' : hasPre [42, 47] (b :: t) = false := by simpa using q
      have hc : closeC (b :: t) = (closeC t).map (· + 1) := by simp [closeC, q']
      rw [q'] at hat
      have ih2 := ih (k + 1) htl (by omega)
      have he : (match closeC (b :: t) with | some n => k + n | none => s.length) = (match closeC t with | some n => k + 1 + n | none => s.length) := by
        rw [hc]
        cases closeC t with
        | none => rfl
        | some n => show k + (n + 1) = k + 1 + n; omega
      rw [he, ← ih2]
      push_cast
      clear hr hk hlen hs htl ih ih2 hc he q q'
      repeat (any_goals first | simp (dsimp := false) (maxSteps := 4000000) (maxDischargeDepth := 8) (implicitDefEqProofs := false) [*, -Int.not_le, -Int.not_lt, amLt, f17c, f17m1, f17m7, f17r0, f17r1, f17r2, f17r3, f17r4, f17r5, f17r6, f17r7, f17r8, f17r9, f17m13, f17r10, f17r11, f17r12, f17r13, f17r14, f17r15, f17r16, f17l1_b, f17l7_b, f17l13_b] | with_reducible refine ch_both (fun _ => ?_) (fun _ => ?_) | with_reducible refine ite_both (fun _ => ?_) (fun _ => ?_) | intro _)
theorem rline_loop (s : List UInt8) (hs : s.length ≤ 16777216) (h : Heap) : ∀ (r : List UInt8) (k : Nat) (ex : List (Nat × AV)), s.drop k = r → k ≤ s.length →
    Brun tab 71 (.loop f17l13) (ofL ((0, .str s) :: (1, .int .i64 k) :: ex)) h =
      some (.exit 5, ofL [(0, .str s), (1, .int .i64 (k + lineEnd r : Nat)), (67, .bool false)], h) := by
  intro r
  induction r with
  | nil =>
    intro k ex hr hk
    have hlen := congrArg List.length hr
    simp only [List.length_drop, List.length_nil] at hlen
    have e3 : (s.length : Int) ≤ k := by omega
    rw [Brun_loop]
    simp only [lineEnd, Nat.add_zero]
    clear hr hk hlen hs
    repeat (any_goals first | simp (dsimp := false) (maxSteps := 4000000) (maxDischargeDepth := 8) (implicitDefEqProofs := false) [*, -Int.not_le, -Int.not_lt, amLt, f17c, f17m1, f17m7, f17r0, f17r1, f17r2, f17r3, f17r4, f17r5, f17r6, f17r7, f17r8, f17r9, f17m13, f17r10, f17r11, f17r12, f17r13, f17r14, f17r15, f17r16, f17l1_b, f17l7_b, f17l13_b] | with_reducible refine ch_both (fun _ => ?_) (fun _ => ?_) | with_reducible refine ite_both (fun _ => ?_) (fun _ => ?_) | intro _)
  | cons b t ih =>
    intro k ex hr hk
    have hlen := congrArg List.length hr
    simp only [List.length_drop, List.length_cons] at hlen
    have hb : s[k]? = some b := by
      have := congrArg (·[0]?) hr
      simpa using this
    have htl : s.drop (k + 1) = t := by
      have := congrArg List.tail hr
      simpa using this
    have e3 : ¬ (s.length : Int) ≤ k := by omega
    have hw := w64 k (by omega)
    rw [Brun_loop]
    by_cases q : b = 10
    · have hc : lineEnd (b :: t) = 0 := by simp [lineEnd, q]
      rw [hc, Nat.add_zero]
      have q' : (b.toNat : Int) = 10 := by rw [q]; rfl
      clear hr hk hlen hs htl ih hc q
      repeat (any_goals first | simp (dsimp := false) (maxSteps := 4000000) (maxDischargeDepth := 8) (implicitDefEqProofs := false) [*, -Int.not_le, -Int.not_lt, amLt, f17c, f17m1, f17m7, f17r0, f17r1, f17r2, f17r3, f17r4, f17r5, f17r6, f17r7, f17r8, f17r9, f17m13, f17r10, f17r11, f17r12, f17r13, f17r14, f17r15, f17r16, f17l1_b, f17l7_b, f17l13_b] | with_reducible refine ch_both (fun _ => ?_) (fun _ => ?_) | with_reducible refine ite_both (fun _ => ?_) (fun _ => ?_) | intro _)
    · have hc : lineEnd (b :: t) = lineEnd t + 1 := by simp [lineEnd, q]
      have q' : ¬ (b.toNat : Int) = 10 := fun h => q (UInt8.toNat_inj.1 (by show b.toNat = 10; omega))
      have ih2 := ih (k + 1) [] htl (by omega)
      rw [hc, show k + (lineEnd t + 1) = k + 1 + lineEnd t by omega, ← ih2]
      push_cast
      clear hr hk hlen hs htl ih ih2 hc q
      repeat (any_goals first | simp (dsimp := false) (maxSteps := 4000000) (maxDischargeDepth := 8) (implicitDefEqProofs := false) [*, -Int.not_le, -Int.not_lt, amLt, f17c, f17m1, f17m7, f17r0, f17r1, f17r2, f17r3, f17r4, f17r5, f17r6, f17r7, f17r8, f17r9, f17m13, f17r10, f17r11, f17r12, f17r13, f17r14, f17r15, f17r16, f17l1_b, f17l7_b, f17l13_b] | with_reducible refine ch_both (fun _ => ?_) (fun _ => ?_) | with_reducible refine ite_both (fun _ => ?_) (fun _ => ?_) | intro _)
theorem rskip_from (s : List UInt8) (hs : s.length ≤ 16777216) (h : Heap) (F : Env → Heap → Option (Ex × Env × Heap)) (hF : ∀ (k : Int) x, F (ofL [(0, .str s), (1, .int .i64 k), x]) h = some (.ret, ofL [(4, .int .i64 k), (5, .int .i64 0)], h)) : ∀ (f at_ : Nat) (r : List UInt8) (ex : List (Nat × AV)), s.drop at_ = r → at_ ≤ s.length → r.length < f →
    bthen (bblock 0 (Brun tab 71 (.loop f17l1) (ofL ((0, .str s) :: (1, .int .i64 at_) :: ex)) h)) F =
      some (.ret, ofL [(4, .int .i64 (if (skipR f r).2 = true then -1 else (at_ + (skipR f r).1 : Nat))), (5, .int .i64 (if (skipR f r).2 = true then (at_ + (skipR f r).1 : Nat) else 0))], h) := by
  intro f
  induction f with
  | zero => intro at_ r _ _ _ hf; omega
  | succ f ih =>
    intro at_ r ex hr hat hf
    have hlen : r.length = s.length - at_ := by rw [← hr]; simp
    have hp1 := fun h => rat_ok h s [47, 42] at_ hs (by decide) hat
    have hp2 := fun h => rat_ok h s [47, 47] at_ hs (by decide) hat
    rw [hr] at hp1 hp2
    rw [Brun_loop]
    cases r with
    | nil =>
      have e3 : (s.length : Int) ≤ at_ := by simp only [List.length_nil] at hlen; omega
      clear ih hf hat hlen hp1 hp2 hs hr
      repeat (any_goals first | simp (dsimp := false) (maxSteps := 4000000) (maxDischargeDepth := 8) (implicitDefEqProofs := false) [*, -Int.not_le, -Int.not_lt, amLt, f17c, f17m1, f17m7, f17r0, f17r1, f17r2, f17r3, f17r4, f17r5, f17r6, f17r7, f17r8, f17r9, f17m13, f17r10, f17r11, f17r12, f17r13, f17r14, f17r15, f17r16, f17l1_b, f17l7_b, f17l13_b, skipR] | with_reducible refine ch_both (fun _ => ?_) (fun _ => ?_) | with_reducible refine ite_both (fun _ => ?_) (fun _ => ?_) | intro _)
    | cons b t =>
      simp only [List.length_cons] at hlen hf
      have hb : s[at_]? = some b := by
        have := congrArg (·[0]?) hr
        simpa using this
      have htl : s.drop (at_ + 1) = t := by
        have := congrArg List.tail hr
        simpa using this
      have e3 : ¬ (s.length : Int) ≤ at_ := by omega
      have hw := w64 at_ (by omega)
      rw [skip_cons]
      by_cases hbl : isBlank b.toNat = true
      · rw [if_pos hbl]
        have ih2 := ih (at_ + 1) t [] htl (by omega) (by omega)
        dsimp only
        rw [show at_ + ((skipR f t).1 + 1) = at_ + 1 + (skipR f t).1 by omega]
        rw [← ih2]
        push_cast
        have hb1 : b.toNat = 32 ∨ (9 ≤ b.toNat ∧ b.toNat ≤ 13) := by simpa [isBlank] using hbl
        clear ih ih2 hf hat hlen hp1 hp2 hs hr htl hbl hF
        by_cases q1 : (b.toNat : Int) = 32
        · repeat (any_goals first | simp (dsimp := false) (maxSteps := 4000000) (maxDischargeDepth := 8) (implicitDefEqProofs := false) [*, -Int.not_le, -Int.not_lt, amLt, f17c, f17m1, f17m7, f17r0, f17r1, f17r2, f17r3, f17r4, f17r5, f17r6, f17r7, f17r8, f17r9, f17m13, f17r10, f17r11, f17r12, f17r13, f17r14, f17r15, f17r16, f17l1_b, f17l7_b, f17l13_b] | with_reducible refine ch_both (fun _ => ?_) (fun _ => ?_) | with_reducible refine ite_both (fun _ => ?_) (fun _ => ?_) | intro _)
        · have q3 : 9 ≤ (b.toNat : Int) := by omega
          have q4 : (b.toNat : Int) ≤ 13 := by omega
          clear hb1
          repeat (any_goals first | simp (dsimp := false) (maxSteps := 4000000) (maxDischargeDepth := 8) (implicitDefEqProofs := false) [*, -Int.not_le, -Int.not_lt, amLt, f17c, f17m1, f17m7, f17r0, f17r1, f17r2, f17r3, f17r4, f17r5, f17r6, f17r7, f17r8, f17r9, f17m13, f17r10, f17r11, f17r12, f17r13, f17r14, f17r15, f17r16, f17l1_b, f17l7_b, f17l13_b] | with_reducible refine ch_both (fun _ => ?_) (fun _ => ?_) | with_reducible refine ite_both (fun _ => ?_) (fun _ => ?_) | intro _)
      · rw [if_neg hbl]
        have hb0 : ¬ (b.toNat = 32 ∨ (9 ≤ b.toNat ∧ b.toNat ≤ 13)) := by simpa [isBlank] using hbl
        have q1 : ¬ (b.toNat : Int) = 32 := by omega
        by_cases h2 : hasPre [47, 42] (b :: t) = true
        · have h1 : ¬ hasPre [47, 47] (b :: t) = true := by
            intro h1
            obtain ⟨w, hw1⟩ := pre2 h1
            obtain ⟨w', hw2⟩ := pre2 h2
            rw [hw1] at hw2
            simp at hw2
          rw [if_neg h1, if_pos h2]
          rw [h2] at hp1
          obtain ⟨w, hw0⟩ := pre2 h2
          have h2l : 2 ≤ s.length - at_ := by rw [← hlen, (List.cons.inj hw0).2]; simp
          have hd2 : s.drop (at_ + 2) = t.tail := by
            have := congrArg List.tail htl
            simpa using this
          have lp := rend_loop s hs h at_ t.tail (at_ + 2) hd2 (by omega)
          have hw2 : IntKind.i64.wrap ((at_ : Int) + 2) = at_ + 2 := IntWalk.i64_in _ (by omega)
          rw [show ((at_ + 2 : Nat) : Int) = (at_ : Int) + 2 by omega] at lp
          cases hc : closeC t.tail with
          | none =>
            rw [hc] at lp
            dsimp only at lp ⊢
            rw [if_pos rfl, if_pos rfl, Nat.add_zero]
            have key : (b.toNat : Int) < 9 ∨ (13 < (b.toNat : Int)) := by omega
            clear ih hf hat hlen hp2 hs hr htl hbl hb0 h1 h2 hF hw0 h2l hd2 hc
            rcases key with k | k
            · have k2 : ¬ 9 ≤ (b.toNat : Int) := by omega
              clear k
              repeat (any_goals first | simp (dsimp := false) (maxSteps := 4000000) (maxDischargeDepth := 8) (implicitDefEqProofs := false) [*, -Int.not_le, -Int.not_lt, amLt, f17c, f17m1, f17m7, f17r0, f17r1, f17r2, f17r3, f17r4, f17r5, f17r6, f17r7, f17r8, f17r9, f17m13, f17r10, f17r11, f17r12, f17r13, f17r14, f17r15, f17r16, f17l1_b, f17l7_b, f17l13_b] | with_reducible refine ch_both (fun _ => ?_) (fun _ => ?_) | with_reducible refine ite_both (fun _ => ?_) (fun _ => ?_) | intro _)
            · have k2 : ¬ (b.toNat : Int) ≤ 13 := by omega
              clear k
              repeat (any_goals first | simp (dsimp := false) (maxSteps := 4000000) (maxDischargeDepth := 8) (implicitDefEqProofs := false) [*, -Int.not_le, -Int.not_lt, amLt, f17c, f17m1, f17m7, f17r0, f17r1, f17r2, f17r3, f17r4, f17r5, f17r6, f17r7, f17r8, f17r9, f17m13, f17r10, f17r11, f17r12, f17r13, f17r14, f17r15, f17r16, f17l1_b, f17l7_b, f17l13_b] | with_reducible refine ch_both (fun _ => ?_) (fun _ => ?_) | with_reducible refine ite_both (fun _ => ?_) (fun _ => ?_) | intro _)
          | some n =>
            have hroom := closeC_room hc
            simp only [List.length_tail] at hroom
            rw [hc] at lp
            dsimp only at lp ⊢
            have hd4 : s.drop (at_ + (n + 4)) = (b :: t).drop (n + 4) := by rw [← hr, List.drop_drop]
            have ih2 := ih (at_ + (n + 4)) ((b :: t).drop (n + 4)) [] hd4 (by omega) (by simp only [List.length_drop, List.length_cons]; omega)
            rw [show at_ + ((skipR f ((b :: t).drop (n + 4))).1 + (n + 4)) = at_ + (n + 4) + (skipR f ((b :: t).drop (n + 4))).1 by omega, ← ih2]
            have e5 : ¬ (s.length : Int) ≤ ((at_ + 2 + n : Nat) : Int) := by omega
            have hw3 : IntKind.i64.wrap (((at_ + 2 + n : Nat) : Int) + 2) = ((at_ + (n + 4) : Nat) : Int) := by rw [IntWalk.i64_in _ (by omega)]; omega
            have key : (b.toNat : Int) < 9 ∨ (13 < (b.toNat : Int)) := by omega
            generalize at_ + 2 + n = u at *
            generalize at_ + (n + 4) = u2 at *
            clear ih ih2 hf hat hlen hp2 hs hr htl hbl hb0 h1 h2 hF hw0 h2l hd2 hc hd4 hroom
            rcases key with k | k
            · have k2 : ¬ 9 ≤ (b.toNat : Int) := by omega
              clear k
              repeat (any_goals first | simp (dsimp := false) (maxSteps := 4000000) (maxDischargeDepth := 8) (implicitDefEqProofs := false) [*, -Int.not_le, -Int.not_lt, amLt, f17c, f17m1, f17m7, f17r0, f17r1, f17r2, f17r3, f17r4, f17r5, f17r6, f17r7, f17r8, f17r9, f17m13, f17r10, f17r11, f17r12, f17r13, f17r14, f17r15, f17r16, f17l1_b, f17l7_b, f17l13_b] | with_reducible refine ch_both (fun _ => ?_) (fun _ => ?_) | with_reducible refine ite_both (fun _ => ?_) (fun _ => ?_) | intro _)
            · have k2 : ¬ (b.toNat : Int) ≤ 13 := by omega
              clear k
              repeat (any_goals first | simp (dsimp := false) (maxSteps := 4000000) (maxDischargeDepth := 8) (implicitDefEqProofs := false) [*, -Int.not_le, -Int.not_lt, amLt, f17c, f17m1, f17m7, f17r0, f17r1, f17r2, f17r3, f17r4, f17r5, f17r6, f17r7, f17r8, f17r9, f17m13, f17r10, f17r11, f17r12, f17r13, f17r14, f17r15, f17r16, f17l1_b, f17l7_b, f17l13_b] | with_reducible refine ch_both (fun _ => ?_) (fun _ => ?_) | with_reducible refine ite_both (fun _ => ?_) (fun _ => ?_) | intro _)
        · have h2' : hasPre [47, 42] (b :: t) = false := by simpa using h2
          rw [h2'] at hp1
          by_cases h1 : hasPre [47, 47] (b :: t) = true
          · rw [if_pos h1]
            rw [h1] at hp2
            have lp := rline_loop s hs h (b :: t) at_ [(54, .bool true)] hr hat
            have hll := lineEnd_le (b :: t)
            simp only [List.length_cons] at hll
            obtain ⟨w, hw0⟩ := pre2 h1
            have hl2 : 2 ≤ lineEnd (b :: t) := by rw [hw0]; simp [lineEnd]
            have hd4 : s.drop (at_ + lineEnd (b :: t)) = (b :: t).drop (lineEnd (b :: t)) := by rw [← hr, List.drop_drop]
            have ih2 := ih (at_ + lineEnd (b :: t)) ((b :: t).drop (lineEnd (b :: t))) [(67, .bool false)] hd4 (by omega) (by simp only [List.length_drop, List.length_cons]; omega)
            dsimp only
            rw [show at_ + ((skipR f ((b :: t).drop (lineEnd (b :: t)))).1 + lineEnd (b :: t)) = at_ + lineEnd (b :: t) + (skipR f ((b :: t).drop (lineEnd (b :: t)))).1 by omega, ← ih2]
            have key : (b.toNat : Int) < 9 ∨ (13 < (b.toNat : Int)) := by omega
            generalize lineEnd (b :: t) = n at *
            clear ih ih2 hf hat hlen hs hr htl hbl hb0 h1 h2 h2' hF hw0 hl2 hd4 hll
            rcases key with k | k
            · have k2 : ¬ 9 ≤ (b.toNat : Int) := by omega
              clear k
              repeat (any_goals first | simp (dsimp := false) (maxSteps := 4000000) (maxDischargeDepth := 8) (implicitDefEqProofs := false) [*, -Int.not_le, -Int.not_lt, amLt, f17c, f17m1, f17m7, f17r0, f17r1, f17r2, f17r3, f17r4, f17r5, f17r6, f17r7, f17r8, f17r9, f17m13, f17r10, f17r11, f17r12, f17r13, f17r14, f17r15, f17r16, f17l1_b, f17l7_b, f17l13_b] | with_reducible refine ch_both (fun _ => ?_) (fun _ => ?_) | with_reducible refine ite_both (fun _ => ?_) (fun _ => ?_) | intro _)
            · have k2 : ¬ (b.toNat : Int) ≤ 13 := by omega
              clear k
              repeat (any_goals first | simp (dsimp := false) (maxSteps := 4000000) (maxDischargeDepth := 8) (implicitDefEqProofs := false) [*, -Int.not_le, -Int.not_lt, amLt, f17c, f17m1, f17m7, f17r0, f17r1, f17r2, f17r3, f17r4, f17r5, f17r6, f17r7, f17r8, f17r9, f17m13, f17r10, f17r11, f17r12, f17r13, f17r14, f17r15, f17r16, f17l1_b, f17l7_b, f17l13_b] | with_reducible refine ch_both (fun _ => ?_) (fun _ => ?_) | with_reducible refine ite_both (fun _ => ?_) (fun _ => ?_) | intro _)
          · rw [if_neg h1, if_neg h2]
            have h1' : hasPre [47, 47] (b :: t) = false := by simpa using h1
            rw [h1'] at hp2
            have key : (b.toNat : Int) < 9 ∨ (13 < (b.toNat : Int)) := by omega
            dsimp only
            rw [Nat.add_zero, if_neg (by simp), if_neg (by simp)]
            clear ih hf hat hlen hs hr htl hbl hb0 h1 h2 h2' h1' hF
            rcases key with k | k
            · have k2 : ¬ 9 ≤ (b.toNat : Int) := by omega
              clear k
              repeat (any_goals first | simp (dsimp := false) (maxSteps := 4000000) (maxDischargeDepth := 8) (implicitDefEqProofs := false) [*, -Int.not_le, -Int.not_lt, amLt, f17c, f17m1, f17m7, f17r0, f17r1, f17r2, f17r3, f17r4, f17r5, f17r6, f17r7, f17r8, f17r9, f17m13, f17r10, f17r11, f17r12, f17r13, f17r14, f17r15, f17r16, f17l1_b, f17l7_b, f17l13_b] | with_reducible refine ch_both (fun _ => ?_) (fun _ => ?_) | with_reducible refine ite_both (fun _ => ?_) (fun _ => ?_) | intro _)
            · have k2 : ¬ (b.toNat : Int) ≤ 13 := by omega
              clear k
              repeat (any_goals first | simp (dsimp := false) (maxSteps := 4000000) (maxDischargeDepth := 8) (implicitDefEqProofs := false) [*, -Int.not_le, -Int.not_lt, amLt, f17c, f17m1, f17m7, f17r0, f17r1, f17r2, f17r3, f17r4, f17r5, f17r6, f17r7, f17r8, f17r9, f17m13, f17r10, f17r11, f17r12, f17r13, f17r14, f17r15, f17r16, f17l1_b, f17l7_b, f17l13_b] | with_reducible refine ch_both (fun _ => ?_) (fun _ => ?_) | with_reducible refine ite_both (fun _ => ?_) (fun _ => ?_) | intro _)
theorem rskip_ok (h : Heap) (s : List UInt8) (hs : s.length ≤ 16777216) (at_ : Nat) (hat : at_ ≤ s.length) :
    Ccall tab 17 [.str s, .int .i64 at_] h = some (.tup [.int .i64 (if badC s at_ = true then -1 else (nextR s at_ : Nat)), .int .i64 (if badC s at_ = true then (nextR s at_ : Nat) else 0)], h) := by
  have hF : ∀ (k : Int) x, Brun tab 71 (.seq (.region false f17r16 [4, 5] 0) .ret) (ofL [(0, .str s), (1, .int .i64 k), x]) [] = some (.ret, ofL [(4, .int .i64 k), (5, .int .i64 0)], []) := by
    rintro k ⟨x1, x2⟩
    repeat (any_goals first | simp (dsimp := false) (maxSteps := 4000000) (maxDischargeDepth := 8) (implicitDefEqProofs := false) [*, -Int.not_le, -Int.not_lt, amLt, f17c, f17m1, f17m7, f17r0, f17r1, f17r2, f17r3, f17r4, f17r5, f17r6, f17r7, f17r8, f17r9, f17m13, f17r10, f17r11, f17r12, f17r13, f17r14, f17r15, f17r16, f17l1_b, f17l7_b, f17l13_b] | with_reducible refine ch_both (fun _ => ?_) (fun _ => ?_) | with_reducible refine ite_both (fun _ => ?_) (fun _ => ?_) | intro _)
  have hk := rskip_from s hs [] _ hF (s.length + 1) at_ (s.drop at_) [] rfl hat (by simp; omega)
  refine Ccall_own rfl rfl rfl rfl ?_
  have hk2 : bthen (bblock 0 (Brun tab 71 (.loop f17l1) (ofL [(0, .str s), (1, .int .i64 at_)]) [])) (Brun tab 71 (.seq (.region false f17r16 [4, 5] 0) .ret)) =
      some (.ret, ofL [(4, .int .i64 (if badC s at_ = true then -1 else (nextR s at_ : Nat))), (5, .int .i64 (if badC s at_ = true then (nextR s at_ : Nat) else 0))], []) := hk
  generalize (if badC s at_ = true then (-1 : Int) else (nextR s at_ : Nat)) = v1 at *
  generalize (if badC s at_ = true then ((nextR s at_ : Nat) : Int) else 0) = v2 at *
  clear hs hat hF hk
  simp only [f17r16] at hk2
  repeat (any_goals first | simp (dsimp := false) (maxSteps := 4000000) (maxDischargeDepth := 8) (implicitDefEqProofs := false) [*, -Int.not_le, -Int.not_lt, amLt, f17c, f17m1, f17m7, f17r0, f17r1, f17r2, f17r3, f17r4, f17r5, f17r6, f17r7, f17r8, f17r9, f17m13, f17r10, f17r11, f17r12, f17r13, f17r14, f17r15, f17r16, f17l1_b, f17l7_b, f17l13_b] | with_reducible refine ch_both (fun _ => ?_) (fun _ => ?_) | with_reducible refine ite_both (fun _ => ?_) (fun _ => ?_) | intro _)
theorem rmoved_loop (s : List UInt8) (hs : s.length ≤ 16777216) (tgt : Nat) (htg : tgt ≤ s.length) (o : Int) (Z : Blk) : ∀ (m off l c : Nat), off + m = tgt → l + m ≤ 100000000 → c + m ≤ 100000000 →
    Brun tab 31 (.loop f18l2) (ofL [(0, .str s), (2, .int .i64 tgt), (4, .mp 0 0), (6, .mp 1 0), (7, .int .i64 off)]) [.cells [.int .i64 l, .int .i64 c, .int .i64 o], Z] =
      some (.exit 0, ofL [(0, .str s), (2, .int .i64 tgt), (4, .mp 0 0), (6, .mp 1 0), (7, .int .i64 tgt), (12, .bool false)], [.cells [.int .i64 (goS (l, c) ((s.drop off).take m)).1, .int .i64 (goS (l, c) ((s.drop off).take m)).2, .int .i64 o], Z]) := by
  intro m
  induction m with
  | zero =>
    intro off l c ho hl hc
    have e3 : (off : Int) = tgt := by omega
    rw [Brun_loop, e3]
    simp only [List.take_zero, goS, List.foldl_nil]
    clear ho hl hc hs htg
    repeat (any_goals first | simp (dsimp := false) (maxSteps := 4000000) (maxDischargeDepth := 8) (implicitDefEqProofs := false) [*, -Int.not_le, -Int.not_lt, amLt, f18c, f18m2, f18r0, f18r1, f18r2, f18r3, f18r4, f18r5, f18r6, f18r7, f18r8, f18r9, f18l2_b] | with_reducible refine ch_both (fun _ => ?_) (fun _ => ?_) | with_reducible refine ite_both (fun _ => ?_) (fun _ => ?_) | intro _)
  | succ m ih =>
    intro off l c ho hl hc
    have hlt : off < s.length := by omega
    have hb : s[off]? = some s[off] := List.getElem?_eq_getElem hlt
    have hd : (s.drop off).take (m + 1) = s[off] :: (s.drop (off + 1)).take m := by
      rw [List.drop_eq_getElem_cons hlt, List.take_succ_cons]
    rw [hd]
    generalize s[off] = b at *
    have hg : goS (l, c) (b :: (s.drop (off + 1)).take m) = goS (stepS (l, c) b) ((s.drop (off + 1)).take m) := rfl
    rw [hg]
    have e3 : (off : Int) < tgt := by omega
    have e4 : ¬ (tgt : Int) ≤ off := by omega
    have w1 := w64 off (by omega)
    have w2 := w64 l (by omega)
    have w3 := w64 c (by omega)
    have eo : ((off + 1 : Nat) : Int) = off + 1 := by push_cast; rfl
    have el : ((l + 1 : Nat) : Int) = l + 1 := by push_cast; rfl
    have ec : ((c + 1 : Nat) : Int) = c + 1 := by push_cast; rfl
    rw [Brun_loop]
    by_cases h10 : b = 10
    · have hst : stepS (l, c) b = (l + 1, 1) := by simp [stepS, h10]
      have ih2 := ih (off + 1) (l + 1) 1 (by omega) (by omega) (by omega)
      rw [hst, ← ih2, eo, el]
      have h10' : (b.toNat : Int) = 10 := by rw [h10]; rfl
      have e1 : ((1 : Nat) : Int) = 1 := rfl
      rw [e1]
      clear ih ih2 ho hl hc hs htg hd hg hlt hst eo el ec
      repeat (any_goals first | simp (dsimp := false) (maxSteps := 4000000) (maxDischargeDepth := 8) (implicitDefEqProofs := false) [*, -Int.not_le, -Int.not_lt, amLt, f18c, f18m2, f18r0, f18r1, f18r2, f18r3, f18r4, f18r5, f18r6, f18r7, f18r8, f18r9, f18l2_b] | with_reducible refine ch_both (fun _ => ?_) (fun _ => ?_) | with_reducible refine ite_both (fun _ => ?_) (fun _ => ?_) | intro _)
    · have hst : stepS (l, c) b = (l, c + 1) := by simp [stepS, h10]
      have ih2 := ih (off + 1) l (c + 1) (by omega) (by omega) (by omega)
      rw [hst, ← ih2, eo, ec]
      have h10' : ¬ (b.toNat : Int) = 10 := fun h => h10 (UInt8.toNat_inj.1 (by show b.toNat = 10; omega))
      clear ih ih2 ho hl hc hs htg hd hg hlt hst eo el ec
      repeat (any_goals first | simp (dsimp := false) (maxSteps := 4000000) (maxDischargeDepth := 8) (implicitDefEqProofs := false) [*, -Int.not_le, -Int.not_lt, amLt, f18c, f18m2, f18r0, f18r1, f18r2, f18r3, f18r4, f18r5, f18r6, f18r7, f18r8, f18r9, f18l2_b] | with_reducible refine ch_both (fun _ => ?_) (fun _ => ?_) | with_reducible refine ite_both (fun _ => ?_) (fun _ => ?_) | intro _)
theorem rmoved_ok (h : Heap) (s : List UInt8) (hs : s.length ≤ 16777216) (tgt off : Nat) (htg : tgt ≤ s.length) (ho : off ≤ tgt) :
    Ccall tab 18 [.str s, .agg [.int .i64 (spotOf s off).1, .int .i64 (spotOf s off).2, .int .i64 off], .int .i64 tgt] h = some (.agg [.int .i64 (spotOf s tgt).1, .int .i64 (spotOf s tgt).2, .int .i64 tgt], h) := by
  have hb := goS_le (s.take off) (1, 1) 1 (Nat.le_refl _) (Nat.le_refl _)
  have hb2 : (s.take off).length ≤ off := by simp only [List.length_take]; omega
  have lp := fun Z => rmoved_loop s hs tgt htg off Z (tgt - off) off (spotOf s off).1 (spotOf s off).2 (by omega) (by unfold spotOf; omega) (by unfold spotOf; omega)
  rw [spot_step s ho] at lp
  generalize spotOf s off = p at *
  generalize spotOf s tgt = q at *
  refine Ccall_own rfl rfl rfl rfl ?_
  clear hs htg ho hb hb2
  repeat (any_goals first | simp (dsimp := false) (maxSteps := 4000000) (maxDischargeDepth := 8) (implicitDefEqProofs := false) [*, -Int.not_le, -Int.not_lt, amLt, f18c, f18m2, f18r0, f18r1, f18r2, f18r3, f18r4, f18r5, f18r6, f18r7, f18r8, f18r9, f18l2_b] | with_reducible refine ch_both (fun _ => ?_) (fun _ => ?_) | with_reducible refine ite_both (fun _ => ?_) (fun _ => ?_) | intro _)
theorem rvalue_ok (h : Heap) (b : UInt8) : Ccall tab 64 [.int .u8 b.toNat] h = some (.int .i64 (hexV b.toNat), h) :=
  Ccall_nil rfl (chkI_ok (byte_all (p := fun n => chkI (acall tab 100 64 [.int .u8 n] []) (hexV n)) (by kernel_rfl) b)) h
theorem rtype_ok (h : Heap) (u l : Bool) : Ccall tab 65 [.bool u, .bool l] h = some (.str (typT u l), h) := by
  refine Ccall_own rfl rfl rfl rfl ?_
  cases u <;> cases l
  · repeat (any_goals first | simp (dsimp := false) (maxSteps := 4000000) (maxDischargeDepth := 8) (implicitDefEqProofs := false) [*, -Int.not_le, -Int.not_lt, amLt, f65c, f65r0, f65r1, f65r2, f65r3, f65r4, f65r5, f65r6, typT, unsT, uns_int, uns_long] | with_reducible refine ch_both (fun _ => ?_) (fun _ => ?_) | with_reducible refine ite_both (fun _ => ?_) (fun _ => ?_) | intro _)
  · repeat (any_goals first | simp (dsimp := false) (maxSteps := 4000000) (maxDischargeDepth := 8) (implicitDefEqProofs := false) [*, -Int.not_le, -Int.not_lt, amLt, f65c, f65r0, f65r1, f65r2, f65r3, f65r4, f65r5, f65r6, typT, unsT, uns_int, uns_long] | with_reducible refine ch_both (fun _ => ?_) (fun _ => ?_) | with_reducible refine ite_both (fun _ => ?_) (fun _ => ?_) | intro _)
  · repeat (any_goals first | simp (dsimp := false) (maxSteps := 4000000) (maxDischargeDepth := 8) (implicitDefEqProofs := false) [*, -Int.not_le, -Int.not_lt, amLt, f65c, f65r0, f65r1, f65r2, f65r3, f65r4, f65r5, f65r6, typT, unsT, uns_int, uns_long] | with_reducible refine ch_both (fun _ => ?_) (fun _ => ?_) | with_reducible refine ite_both (fun _ => ?_) (fun _ => ?_) | intro _)
  · repeat (any_goals first | simp (dsimp := false) (maxSteps := 4000000) (maxDischargeDepth := 8) (implicitDefEqProofs := false) [*, -Int.not_le, -Int.not_lt, amLt, f65c, f65r0, f65r1, f65r2, f65r3, f65r4, f65r5, f65r6, typT, unsT, uns_int, uns_long] | with_reducible refine ch_both (fun _ => ?_) (fun _ => ?_) | with_reducible refine ite_both (fun _ => ?_) (fun _ => ?_) | intro _)
/-- Digits from the beginning on, and what is left; none: too great. -/
def digN (base : Nat) : Nat → List UInt8 → Option (Nat × List UInt8)
  | n, [] => some (n, [])
  | n, b :: t => if hexV b.toNat < base then (if 4294967295 < n * base + hexV b.toNat then none else digN base (n * base + hexV b.toNat) t) else some (n, b :: t)
theorem hexV_le (n : Nat) : hexV n ≤ 99 := by unfold hexV; split <;> (try split) <;> (try split) <;> omega
theorem rnum_loop (s : List UInt8) (hs : s.length ≤ 16777216) (base first : Nat) (hb0 : base ≤ 16) (t0 t1 t2 t3 t4 t5 : AV) : ∀ (r : List UInt8) (i n : Nat), s.drop i = r → i ≤ s.length → n ≤ 4294967295 →
    Brun tab 139 (.loop f42l8) (ofL [(0, .str s), (2, .mp 0 0), (4, .int .i64 base), (5, .int .i64 i), (6, .int .i64 first), (7, .int .i64 n)]) [.cells [t0, t1, t2, t3, t4, t5]] =
      match digN base n r with
      | some (m, rest) => some (.exit 0, ofL [(0, .str s), (2, .mp 0 0), (4, .int .i64 base), (5, .int .i64 (s.length - rest.length : Nat)), (6, .int .i64 first), (7, .int .i64 m), (39, .bool false)], [.cells [t0, t1, t2, t3, t4, t5]])
      | none => some (.ret, ofL [(2, .mp 0 0), (3, .bool false)], [.cells [.int .i64 0, .str [], .int .i64 0, .int .i64 0, .int .i64 0, .int .i64 0]]) := by
  intro r
  induction r with
  | nil =>
    intro i n hr hi hn
    have hlen := congrArg List.length hr
    simp only [List.length_drop, List.length_nil] at hlen
    have e3 : (s.length : Int) ≤ i := by omega
    have e4 : s.length - ([] : List UInt8).length = i := by simp; omega
    rw [Brun_loop]
    simp only [digN, e4]
    clear hr hi hn hlen hs e4
    repeat (any_goals first | simp (dsimp := false) (maxSteps := 4000000) (maxDischargeDepth := 8) (implicitDefEqProofs := false) [*, -Int.not_le, -Int.not_lt, amLt, f42c, f42m8, f42r0, f42r1, f42r2, f42r3, f42r4, f42r5, f42r6, f42r7, f42r8, f42r9, f42r10, f42r11, f42r12, f42r13, f42r14, f42r15, f42r16, f42r17, f42r18, f42r19, f42r20, f42r21, f42r22, f42r23, f42r24, f42r25, f42r26, f42r27, f42r28, f42r29, f42r30, f42l8_b] | with_reducible refine ch_both (fun _ => ?_) (fun _ => ?_) | with_reducible refine ite_both (fun _ => ?_) (fun _ => ?_) | intro _)
  | cons b t ih =>
    intro i n hr hi hn
    have hlen := congrArg List.length hr
    simp only [List.length_drop, List.length_cons] at hlen
    have hb : s[i]? = some b := by
      have := congrArg (·[0]?) hr
      simpa using this
    have htl : s.drop (i + 1) = t := by
      have := congrArg List.tail hr
      simpa using this
    have e3 : ¬ (s.length : Int) ≤ i := by omega
    have hw := w64 i (by omega)
    have hx := fun h => rvalue_ok h b
    have hD : digN base n (b :: t) = if hexV b.toNat < base then (if 4294967295 < n * base + hexV b.toNat then none else digN base (n * base + hexV b.toNat) t) else some (n, b :: t) := rfl
    rw [Brun_loop, hD]
    by_cases hd : hexV b.toNat < base
    · rw [if_pos hd]
      have hv2 : n * base ≤ 4294967295 * 16 := Nat.mul_le_mul hn hb0
      have em : ((n * base : Nat) : Int) = (n : Int) * base := by push_cast; rfl
      have hw1 : IntKind.i64.wrap ((n : Int) * base) = (n * base : Nat) := by rw [← em, IntWalk.i64_in _ (by omega)]
      have hw2 : IntKind.i64.wrap (((n * base : Nat) : Int) + hexV b.toNat) = ((n * base + hexV b.toNat : Nat) : Int) := by rw [IntWalk.i64_in _ (by omega)]; push_cast; rfl
      have hge : ¬ (base : Int) ≤ hexV b.toNat := by omega
      have hlt2 : (hexV b.toNat : Int) < base := by omega
      by_cases hbig : 4294967295 < n * base + hexV b.toNat
      · rw [if_pos hbig]
        have hbig' : 4294967295 < ((n * base + hexV b.toNat : Nat) : Int) := by omega
        generalize n * base + hexV b.toNat = m2 at *
        generalize n * base = m1 at *
        generalize hexV b.toNat = d at *
        clear ih hr hi hn hlen htl hs hd hv2 em hb0 hbig hD
        repeat (any_goals first | simp (dsimp := false) (maxSteps := 4000000) (maxDischargeDepth := 8) (implicitDefEqProofs := false) [*, -Int.not_le, -Int.not_lt, amLt, f42c, f42m8, f42r0, f42r1, f42r2, f42r3, f42r4, f42r5, f42r6, f42r7, f42r8, f42r9, f42r10, f42r11, f42r12, f42r13, f42r14, f42r15, f42r16, f42r17, f42r18, f42r19, f42r20, f42r21, f42r22, f42r23, f42r24, f42r25, f42r26, f42r27, f42r28, f42r29, f42r30, f42l8_b] | with_reducible refine ch_both (fun _ => ?_) (fun _ => ?_) | with_reducible refine ite_both (fun _ => ?_) (fun _ => ?_) | intro _)
      · rw [if_neg hbig]
        have hbig' : ¬ 4294967295 < ((n * base + hexV b.toNat : Nat) : Int) := by omega
        have ih2 := ih (i + 1) (n * base + hexV b.toNat) htl (by omega) (by omega)
        rw [← ih2]
        have ei : ((i + 1 : Nat) : Int) = i + 1 := by push_cast; rfl
        rw [ei]
        generalize n * base + hexV b.toNat = m2 at *
        generalize n * base = m1 at *
        generalize hexV b.toNat = d at *
        clear ih ih2 hr hi hn hlen htl hs hd hv2 em hb0 hbig hD ei
        repeat (any_goals first | simp (dsimp := false) (maxSteps := 4000000) (maxDischargeDepth := 8) (implicitDefEqProofs := false) [*, -Int.not_le, -Int.not_lt, amLt, f42c, f42m8, f42r0, f42r1, f42r2, f42r3, f42r4, f42r5, f42r6, f42r7, f42r8, f42r9, f42r10, f42r11, f42r12, f42r13, f42r14, f42r15, f42r16, f42r17, f42r18, f42r19, f42r20, f42r21, f42r22, f42r23, f42r24, f42r25, f42r26, f42r27, f42r28, f42r29, f42r30, f42l8_b] | with_reducible refine ch_both (fun _ => ?_) (fun _ => ?_) | with_reducible refine ite_both (fun _ => ?_) (fun _ => ?_) | intro _)
    · rw [if_neg hd]
      have hge : (base : Int) ≤ hexV b.toNat := by omega
      have e4 : s.length - (b :: t).length = i := by simp only [List.length_cons]; omega
      dsimp only
      rw [e4]
      generalize hexV b.toNat = d at *
      clear ih hr hi hn hlen htl hs hd hb0 hD e4
      repeat (any_goals first | simp (dsimp := false) (maxSteps := 4000000) (maxDischargeDepth := 8) (implicitDefEqProofs := false) [*, -Int.not_le, -Int.not_lt, amLt, f42c, f42m8, f42r0, f42r1, f42r2, f42r3, f42r4, f42r5, f42r6, f42r7, f42r8, f42r9, f42r10, f42r11, f42r12, f42r13, f42r14, f42r15, f42r16, f42r17, f42r18, f42r19, f42r20, f42r21, f42r22, f42r23, f42r24, f42r25, f42r26, f42r27, f42r28, f42r29, f42r30, f42l8_b] | with_reducible refine ch_both (fun _ => ?_) (fun _ => ?_) | with_reducible refine ite_both (fun _ => ?_) (fun _ => ?_) | intro _)

end Go.Proofs.YtmpdpjkblcdfkaaGreatDoor
