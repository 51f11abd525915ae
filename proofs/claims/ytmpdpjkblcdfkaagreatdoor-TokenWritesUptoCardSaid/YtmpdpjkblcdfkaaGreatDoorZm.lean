/- The reference: one token. -/
import Derived.Test.YtmpdpjkblcdfkaaGreatDoorZl
import Derived.Test.YtmpdpjkblcdfkaaGreatDoorAmW
namespace Go.Proofs.YtmpdpjkblcdfkaaGreatDoor
open Go.AM
set_option maxRecDepth 20000
set_option maxHeartbeats 4000000
set_option linter.unusedSimpArgs false
set_option linter.unusedVariables false
attribute [local congr] andF_cg onF_cg bthen_cg bkeep_cg bcond_cg guardV_cg putF_cg guardF_cg ite_cg stepsF_cg
attribute [local simp] Brun_skip Brun_exit Brun_ret Brun_seq Brun_cond Brun_block Brun_region bthen_normal bthen_ret bthen_exit bblock_normal bblock_ret bblock_exit bkeep_some andF_some onF_some onF_none guardF_none guardF_some guardV_tup putF_some putF_none stepsF_nil stepsF_cons upd_apply ofL_cons ofL_nil bown_normal bown_ret banswer_normal banswer_ret aresults ares List.replicate stepF_call stepF_callD stepF_move stepF_pick stepF_alloc stepF_allocV stepF_box stepF_boxV stepF_build stepF_buildSlice stepF_buildSliceV stepF_load stepF_store stepF_nilCheck stepF_bin stepF_eq stepF_un stepF_conv stepF_strId stepF_toStr stepF_toBytes stepF_fn stepF_mkSlice stepF_slice stepF_strSlice stepF_fieldAddr stepF_field stepF_idxAddr stepF_idxArr stepF_index stepF_strIndex stepF_extract stepF_len0 stepF_len1 stepF_min stepF_max stepF_append stepF_appendF appF_none appF_row stepF_mkMap stepF_mkIface stepF_lookup stepF_mapUpdate stepF_ext aext_idx aext_count aext_same cellsF newF abin_add abin_sub abin_mul abin_quo abin_rem abin_eql abin_neq abin_lss abin_leq abin_gtr abin_geq abin_and abin_or abin_xor abin_shl abin_shr abin_seql abin_sneq aun_not aun_neg aeq_bool aeq_agg eqCells_nil eqCells_int eqCells_bool eqCells_str cellsOf_agg cellsOf_int cellsOf_bool cellsOf_str cellsOf_is cellsOf_ms cellsOf_fn cellsOf_nilp cellsOf_mp cellsOf_mm cellsOf_nilm cellsOf_nili cellsOf_ifc cellsOf_ip cget_one cget_agg ev_t ev_c fillp_nil fillp_cons isSc_int isSc_bool isSc_str isSc_is isSc_ms isSc_fn isSc_mm isSc_mp isSc_ip isSc_nilp isSc_nilm isSc_nili isSc_nilf isSc_ifc splice chunk strip strip.stripL imm imm.immL Areify_int Areify_bool Areify_str Areify_is Areify_nilp Areify_tup Areify_agg AreifyL andF_chi andF_ch onF_chi onF_ch bthen_ch bthen_chi bblock_ch bblock_chi bkeep_ch bkeep_chi bown_ch bown_chi banswer_ch banswer_chi isSome_ch bcond_ch guardV_ch1 guardV_ch0 chF_true chF_false chF_not
attribute [local simp ↓] andF_some andF_chi andF_ch onF_some onF_none onF_chi onF_ch bthen_normal bthen_ret bthen_exit bthen_ch bthen_chi bblock_normal bblock_ret bblock_exit bblock_ch bblock_chi bkeep_some bkeep_ch bkeep_chi bown_normal bown_ret bown_ch bown_chi banswer_normal banswer_ret banswer_ch banswer_chi bcond_ch guardV_ch1 guardV_ch0 guardV_tup guardF_none guardF_some putF_some putF_none stepsF_nil stepsF_cons chF_true chF_false Brun_seq Brun_cond Brun_block Brun_region Brun_skip Brun_ret Brun_exit stepF_call stepF_callD stepF_move stepF_pick stepF_alloc stepF_allocV stepF_box stepF_boxV stepF_build stepF_buildSlice stepF_buildSliceV stepF_load stepF_store stepF_nilCheck stepF_bin stepF_eq stepF_un stepF_conv stepF_strId stepF_toStr stepF_toBytes stepF_fn stepF_mkSlice stepF_slice stepF_strSlice stepF_fieldAddr stepF_field stepF_idxAddr stepF_idxArr stepF_index stepF_strIndex stepF_extract stepF_len0 stepF_len1 stepF_min stepF_max stepF_append stepF_appendF stepF_mkMap stepF_mkIface stepF_lookup stepF_mapUpdate stepF_ext
set_option maxHeartbeats 2000000
theorem rrun_loop (s : List UInt8) (hs : s.length ≤ 16777216) (a : Int) (h : Heap) : ∀ (r : List UInt8) (k : Nat), s.drop k = r → k ≤ s.length →
    Brun tab 139 (.loop f19l4) (ofL [(0, .str s), (1, .int .i64 a), (4, .mp 0 0), (7, .int .i64 k)]) h =
      some (.exit 0, ofL [(0, .str s), (1, .int .i64 a), (4, .mp 0 0), (7, .int .i64 (k + runLen isTail r : Nat)), (37, .bool false)], h) := by
  intro r
  induction r with
  | nil =>
    intro k hr hk
    have hlen := congrArg List.length hr
    simp only [List.length_drop, List.length_nil] at hlen
    have e3 : (s.length : Int) ≤ k := by omega
    rw [Brun_loop]
    rw [show runLen isTail [] = 0 from rfl, Nat.add_zero]
    clear hr hk hlen hs
    repeat (any_goals first | simp (dsimp := false) (maxSteps := 4000000) (maxDischargeDepth := 8) (implicitDefEqProofs := false) [*, -Int.not_le, -Int.not_lt, amLt, f19c, f19m4, f19r0, f19r1, f19r2, f19r3, f19r4, f19r5, f19r6, f19r7, f19r8, f19r9, f19m24, f19r10, f19r11, f19r12, f19r13, f19r14, f19r15, f19r16, f19r17, f19r18, f19r19, f19r20, f19r21, f19r22, f19r23, f19r24, f19r25, f19r27, f19r28, f19l4_b, f19l24_b] | with_reducible refine ch_both (fun _ => ?_) (fun _ => ?_) | with_reducible refine ite_both (fun _ => ?_) (fun _ => ?_) | intro _)
  | cons b t ih =>
    intro k hr hk
    have hlen := congrArg List.length hr
    simp only [List.length_drop, List.length_cons] at hlen
    have hb : s[k]? = some b := by
      have := congrArg (·[0]?) hr
      simpa using this
    have htl : s.drop (k + 1) = t := by
      have := congrArg List.tail hr
      simpa using this
    have e3 : ¬ (s.length : Int) ≤ k := by omega
    have hw := w64 k (by omega)
    rw [Brun_loop, runLen_cons, tail_or]
    have ih2 := ih (k + 1) htl (by omega)
    have ek : ((k + 1 : Nat) : Int) = k + 1 := by push_cast; rfl
    cases h1 : isLet b.toNat with
    | true =>
      rw [Bool.true_or, if_pos rfl, show k + (runLen isTail t + 1) = k + 1 + runLen isTail t by omega, ← ih2, ek]
      clear hr hk hlen hs htl ih ih2 ek
      repeat (any_goals first | simp (dsimp := false) (maxSteps := 4000000) (maxDischargeDepth := 8) (implicitDefEqProofs := false) [*, -Int.not_le, -Int.not_lt, amLt, f19c, f19m4, f19r0, f19r1, f19r2, f19r3, f19r4, f19r5, f19r6, f19r7, f19r8, f19r9, f19m24, f19r10, f19r11, f19r12, f19r13, f19r14, f19r15, f19r16, f19r17, f19r18, f19r19, f19r20, f19r21, f19r22, f19r23, f19r24, f19r25, f19r27, f19r28, f19l4_b, f19l24_b, rletter_ok, rdigit_ok] | with_reducible refine ch_both (fun _ => ?_) (fun _ => ?_) | with_reducible refine ite_both (fun _ => ?_) (fun _ => ?_) | intro _)
    | false =>
      cases h2 : isDig b.toNat with
      | true =>
        rw [Bool.false_or, if_pos rfl, show k + (runLen isTail t + 1) = k + 1 + runLen isTail t by omega, ← ih2, ek]
        clear hr hk hlen hs htl ih ih2 ek
        repeat (any_goals first | simp (dsimp := false) (maxSteps := 4000000) (maxDischargeDepth := 8) (implicitDefEqProofs := false) [*, -Int.not_le, -Int.not_lt, amLt, f19c, f19m4, f19r0, f19r1, f19r2, f19r3, f19r4, f19r5, f19r6, f19r7, f19r8, f19r9, f19m24, f19r10, f19r11, f19r12, f19r13, f19r14, f19r15, f19r16, f19r17, f19r18, f19r19, f19r20, f19r21, f19r22, f19r23, f19r24, f19r25, f19r27, f19r28, f19l4_b, f19l24_b, rletter_ok, rdigit_ok] | with_reducible refine ch_both (fun _ => ?_) (fun _ => ?_) | with_reducible refine ite_both (fun _ => ?_) (fun _ => ?_) | intro _)
      | false =>
        rw [Bool.false_or, if_neg (by simp), Nat.add_zero]
        clear hr hk hlen hs htl ih ih2 ek
        repeat (any_goals first | simp (dsimp := false) (maxSteps := 4000000) (maxDischargeDepth := 8) (implicitDefEqProofs := false) [*, -Int.not_le, -Int.not_lt, amLt, f19c, f19m4, f19r0, f19r1, f19r2, f19r3, f19r4, f19r5, f19r6, f19r7, f19r8, f19r9, f19m24, f19r10, f19r11, f19r12, f19r13, f19r14, f19r15, f19r16, f19r17, f19r18, f19r19, f19r20, f19r21, f19r22, f19r23, f19r24, f19r25, f19r27, f19r28, f19l4_b, f19l24_b, rletter_ok, rdigit_ok] | with_reducible refine ch_both (fun _ => ?_) (fun _ => ?_) | with_reducible refine ite_both (fun _ => ?_) (fun _ => ?_) | intro _)
def rsgs : List (List UInt8) := sgs ++ [[91], [93], [40], [41], [123], [125], [46], [38], [42], [43], [45], [126], [33], [47], [37], [60], [62], [94], [124], [63], [58], [59], [61], [44]]
theorem rsgs_ok (h : Heap) : Ccall tab 45 [] h = some (.is (strs rsgs) .no, h) := by
  refine Ccall_run (w := []) 100 ?_
  kernel_rfl
theorem r26_told (s : List UInt8) (i k : Nat) (rows : List (List AV)) (cap : Cap) (x : List UInt8) (hg : rows[k]? = some [.str x]) (hw2 : IntKind.i64.wrap ((i : Int) + x.length) = ((i + x.length : Nat) : Int)) (z0 z1 z2 z3 z4 z5 : AV) :
    Brun tab 139 (.region true f19r26 [4, 5, 6] 0) (ofL [(0, .str s), (1, .int .i64 i), (4, .mp 0 0), (13, .is rows cap), (14, .int .i64 k), (124, .bool true)]) [.cells [z0, z1, z2, z3, z4, z5]] =
      some (.normal, ofL [(4, .mp 0 0), (5, .int .i64 (i + x.length : Nat)), (6, .int .i64 0)], [.cells [.int .i64 6, .str x, .int .i64 0, .int .i64 0, .int .i64 0, .int .i64 0]]) := by
  generalize i + x.length = u at *
  refine Brun_told ?_
  simp [f19r26, asteps, astep, stepRun, aop, HC.run, HC.rds, HC.wrs, HC.ofOpt, Blk.isFree, wanted, put, isPure, drawOK, freeOf, Rec.indep, disj, apart, AOper.looks, AOp.tmps, AO.tmps, pTmps, oTmps, Nat.testBit, hg, hw2, fillp, cget, cellsOf, splice, abin]
theorem rsign_loop (s : List UInt8) (hs : s.length ≤ 16777216) (i : Nat) (hi : i ≤ s.length) (L : List (List UInt8)) (hL : L.length ≤ 1000) (hp : ∀ x ∈ L, x.length ≤ 10) (cap : Cap) (z0 z1 z2 z3 z4 z5 : AV) : ∀ (r : List (List UInt8)) (k : Nat), L.drop k = r → k ≤ L.length →
    Brun tab 139 (.loop f19l24) (ofL [(0, .str s), (1, .int .i64 i), (4, .mp 0 0), (13, .is (strs L) cap), (14, .int .i64 k)]) [.cells [z0, z1, z2, z3, z4, z5]] =
      match r.find? (fun x => hasPre x (s.drop i)) with
      | some x => some (.ret, ofL [(4, .mp 0 0), (5, .int .i64 (i + x.length : Nat)), (6, .int .i64 0)], [.cells [.int .i64 6, .str x, .int .i64 0, .int .i64 0, .int .i64 0, .int .i64 0]])
      | none => some (.exit 3, ofL [(0, .str s), (1, .int .i64 i), (4, .mp 0 0), (13, .is (strs L) cap), (14, .int .i64 L.length), (115, .bool false)], [.cells [z0, z1, z2, z3, z4, z5]]) := by
  intro r
  have hl := strs_len L
  induction r with
  | nil =>
    intro k hr hk
    have hlen := congrArg List.length hr
    simp only [List.length_drop, List.length_nil] at hlen
    have e3 : k = L.length := by omega
    rw [Brun_loop]
    dsimp only [List.find?_nil]
    subst e3
    generalize strs L = rows at *
    clear hr hk hlen hs hp hL
    repeat (any_goals first | simp (dsimp := false) (maxSteps := 4000000) (maxDischargeDepth := 8) (implicitDefEqProofs := false) [*, -Int.not_le, -Int.not_lt, amLt, f19c, f19m4, f19r0, f19r1, f19r2, f19r3, f19r4, f19r5, f19r6, f19r7, f19r8, f19r9, f19m24, f19r10, f19r11, f19r12, f19r13, f19r14, f19r15, f19r16, f19r17, f19r18, f19r19, f19r20, f19r21, f19r22, f19r23, f19r24, f19r25, f19r27, f19r28, f19l4_b, f19l24_b] | with_reducible refine ch_both (fun _ => ?_) (fun _ => ?_) | with_reducible refine ite_both (fun _ => ?_) (fun _ => ?_) | intro _)
  | cons x t ih =>
    intro k hr hk
    have hlen := congrArg List.length hr
    simp only [List.length_drop, List.length_cons] at hlen
    have hb : L[k]? = some x := by
      have := congrArg (·[0]?) hr
      simpa using this
    have htl : L.drop (k + 1) = t := by
      have := congrArg List.tail hr
      simpa using this
    have hg := strs_get hb
    have hxl := hp x (List.mem_of_getElem? hb)
    have e3 : ¬ (L.length : Int) ≤ k := by omega
    have e3' : (k : Int) < L.length := by omega
    have hw := w64 k (by omega)
    have hat := fun h => rat_ok h s x i hs (by omega) hi
    have hw2 : IntKind.i64.wrap ((i : Int) + x.length) = ((i + x.length : Nat) : Int) := by rw [IntWalk.i64_in _ (by omega)]; push_cast; rfl
    have ih2 := ih (k + 1) htl (by omega)
    have ek : ((k + 1 : Nat) : Int) = k + 1 := by push_cast; rfl
    rw [Brun_loop, List.find?_cons]
    cases hq : hasPre x (s.drop i) with
    | true =>
      rw [hq] at hat
      dsimp only
      have ht := r26_told s i k (strs L) cap x hg hw2 z0 z1 z2 z3 z4 z5
      generalize i + x.length = u at *
      generalize strs L = rows at *
      clear hr hk hlen hs hp hL htl ih ih2 hb hxl hi ek
      repeat (any_goals first | simp (dsimp := false) (maxSteps := 4000000) (maxDischargeDepth := 8) (implicitDefEqProofs := false) [*, -Int.not_le, -Int.not_lt, amLt, f19c, f19m4, f19r0, f19r1, f19r2, f19r3, f19r4, f19r5, f19r6, f19r7, f19r8, f19r9, f19m24, f19r10, f19r11, f19r12, f19r13, f19r14, f19r15, f19r16, f19r17, f19r18, f19r19, f19r20, f19r21, f19r22, f19r23, f19r24, f19r25, f19r27, f19r28, f19l4_b, f19l24_b] | with_reducible refine ch_both (fun _ => ?_) (fun _ => ?_) | with_reducible refine ite_both (fun _ => ?_) (fun _ => ?_) | intro _)
    | false =>
      rw [hq] at hat
      dsimp only
      rw [← ih2, ek]
      generalize strs L = rows at *
      clear hr hk hlen hs hp hL htl ih ih2 hb hxl hi ek
      repeat (any_goals first | simp (dsimp := false) (maxSteps := 4000000) (maxDischargeDepth := 8) (implicitDefEqProofs := false) [*, -Int.not_le, -Int.not_lt, amLt, f19c, f19m4, f19r0, f19r1, f19r2, f19r3, f19r4, f19r5, f19r6, f19r7, f19r8, f19r9, f19m24, f19r10, f19r11, f19r12, f19r13, f19r14, f19r15, f19r16, f19r17, f19r18, f19r19, f19r20, f19r21, f19r22, f19r23, f19r24, f19r25, f19r27, f19r28, f19l4_b, f19l24_b] | with_reducible refine ch_both (fun _ => ?_) (fun _ => ?_) | with_reducible refine ite_both (fun _ => ?_) (fun _ => ?_) | intro _)
theorem find_ones (b : UInt8) (t : List UInt8) : ∀ L : List UInt8, (L.map fun c => [c]).find? (fun x => hasPre x (b :: t)) = if 0 ≤ Go.Lib.indexByte L b then some [b] else none := by
  intro L
  induction L with
  | nil => rfl
  | cons c r ih =>
    have hp : hasPre [c] (b :: t) = decide (b = c) := by simp [hasPre]
    rw [List.map_cons, List.find?_cons, hp]
    unfold Go.Lib.indexByte
    by_cases q : b = c
    · subst q; simp
    · have q2 : ¬ c = b := fun h => q h.symm
      have hge := Go.Lib.indexByte_ge r b
      rw [decide_eq_false q]
      dsimp only
      rw [ih]
      simp only [beq_iff_eq, q2, if_false]
      by_cases z : Go.Lib.indexByte r b = -1
      · rw [if_neg (by omega), if_pos z, if_neg (by omega)]
      · rw [if_pos (by omega), if_neg z, if_pos (by omega)]
theorem sign_find {r : List UInt8} (hr : r ≠ []) : rsgs.find? (fun x => hasPre x r) = if signR r = [] then none else some (signR r) := by
  cases r with
  | nil => exact absurd rfl hr
  | cons b t =>
    have h1 : rsgs = sgs ++ chs.map fun c => [c] := rfl
    rw [h1, List.find?_append, find_ones]
    have hR : signR (b :: t) = match sgs.find? (fun x => hasPre x (b :: t)) with
      | some x => x
      | none => if 0 ≤ Go.Lib.indexByte chs b then [b] else [] := rfl
    rw [hR]
    cases hf : sgs.find? (fun x => hasPre x (b :: t)) with
    | some x =>
      have hne : x ≠ [] := by
        have := List.mem_of_find?_eq_some hf
        have hall : ∀ y ∈ sgs, y ≠ [] := by decide
        exact hall x this
      dsimp only
      rw [if_neg hne]
      rfl
    | none =>
      dsimp only
      by_cases q : 0 ≤ Go.Lib.indexByte chs b
      · rw [if_pos q, if_neg (by rw [if_pos q]; simp)]
        rw [if_pos q]
        rfl
      · rw [if_neg q, if_pos (by rw [if_neg q])]
        rfl
def ROne (h : Heap) (i : Nat) (x : Option (AV × Heap)) : Except Nat ((Int × List UInt8 × Int) × Nat) → Prop
  | .ok ((k, t, v), n) => x = some (.tup [tokV k t v 0 0 0, .int .i64 (i + n : Nat), .int .i64 0], h)
  | .error e => ∃ k : Int, x = some (.tup [tokV 0 [] 0 0 0 0, .int .i64 k, .int .i64 e], h)
def quoQ (b : UInt8) (r : Option (List UInt8 × Nat)) : Option ((Int × List UInt8 × Int) × Nat) := match r with | none => none | some (o, m) => quoT b o m
theorem let39r (h : Heap) : Ccall tab 40 [.int .u8 39] h = some (.bool false, h) := rletter_ok h 39
theorem let34r (h : Heap) : Ccall tab 40 [.int .u8 34] h = some (.bool false, h) := rletter_ok h 34
theorem dig39r (h : Heap) : Ccall tab 41 [.int .u8 39] h = some (.bool false, h) := rdigit_ok h 39
theorem dig34r (h : Heap) : Ccall tab 41 [.int .u8 34] h = some (.bool false, h) := rdigit_ok h 34
theorem rone_end (h : Heap) (s : List UInt8) : Ccall tab 19 [.str s, .int .i64 s.length] h = some (.tup [tokV 0 [] 0 0 0 0, .int .i64 s.length, .int .i64 0], h) := by
  refine Ccall_own rfl rfl rfl rfl ?_
  repeat (any_goals first | simp (dsimp := false) (maxSteps := 4000000) (maxDischargeDepth := 8) (implicitDefEqProofs := false) [*, -Int.not_le, -Int.not_lt, amLt, f19c, f19m4, f19r0, f19r1, f19r2, f19r3, f19r4, f19r5, f19r6, f19r7, f19r8, f19r9, f19m24, f19r10, f19r11, f19r12, f19r13, f19r14, f19r15, f19r16, f19r17, f19r18, f19r19, f19r20, f19r21, f19r22, f19r23, f19r24, f19r25, f19r27, f19r28, f19l4_b, f19l24_b, tokV] | with_reducible refine ch_both (fun _ => ?_) (fun _ => ?_) | with_reducible refine ite_both (fun _ => ?_) (fun _ => ?_) | intro _)
theorem rone_ok (h : Heap) (s : List UInt8) (i : Nat) (hs : s.length ≤ 16777216) (hi : i < s.length) : ROne h i (Ccall tab 19 [.str s, .int .i64 i] h) (oneR (s.drop i)) := by
  have hb : s[i]? = some s[i] := List.getElem?_eq_getElem hi
  generalize s[i] = b at hb
  have hdr : s.drop i = b :: s.drop (i + 1) := drop_get hb
  have hlr : (s.drop i).length = s.length - i := by simp
  have e1 : ¬ (s.length : Int) ≤ i := by omega
  have lp := fun a h => rrun_loop s hs a h (s.drop i) i rfl (by omega)
  have hle := runLen_le isTail (s.drop i)
  have hR : oneR (s.drop i) = if isLet b.toNat = true then (if 63 < runLen isTail (s.drop i) then .error 22 else .ok ((if isKw ((s.drop i).take (runLen isTail (s.drop i))) = true then 2 else 1, (s.drop i).take (runLen isTail (s.drop i)), 0), runLen isTail (s.drop i)))
    else if isDig b.toNat = true then (match numberR ((s.drop i).take (runLen isTail (s.drop i))) with
      | none => .error 21
      | some (t, v) => .ok ((3, t, v), runLen isTail (s.drop i)))
    else if b = 39 ∨ b = 34 then (match quoR b (s.drop i).length ((s.drop i).drop 1) with
      | none => .error 26
      | some (o, m) => if b = 34 then .ok ((5, o, 0), m + 1) else match o with
        | [x] => .ok ((4, [], sgn x), m + 1)
        | _ => .error 26)
    else if signR (s.drop i) = [] then .error 20 else .ok ((6, signR (s.drop i), 0), (signR (s.drop i)).length) := by
    rw [hdr]; rfl
  rw [hR]
  by_cases hd : isDig b.toNat = true
  · have hl : ¬ isLet b.toNat = true := by
      intro h
      simp [isDig] at hd
      simp [isLet] at h
      omega
    rw [if_neg hl, if_pos hd]
    have hrp : 0 < runLen isTail (s.drop i) := by rw [hdr]; exact run_pos (by unfold isTail; simp [hd])
    have hsl : (s.take (i + runLen isTail (s.drop i))).drop i = (s.drop i).take (runLen isTail (s.drop i)) := by rw [List.drop_take]; congr 1; omega
    have h0 : ((s.drop i).take (runLen isTail (s.drop i)))[0]? = some b := by rw [get0_take hrp, hdr]; rfl
    have hnum := fun h => rnumber_ok h ((s.drop i).take (runLen isTail (s.drop i))) b h0 (by simp only [List.length_take]; omega)
    rw [← number_eq _ b h0 hd] at hnum
    rw [← hsl] at hnum ⊢
    have hk1 : ((i + runLen isTail (s.drop i) : Nat) : Int) ≤ s.length := by omega
    have hk2 : (i : Int) ≤ ((i + runLen isTail (s.drop i) : Nat) : Int) := by omega
    have hk3 : (0 : Int) ≤ ((i + runLen isTail (s.drop i) : Nat) : Int) := by omega
    have hk4 : i ≤ i + runLen isTail (s.drop i) := by omega
    cases hN : numberR ((s.take (i + runLen isTail (s.drop i))).drop i) with
    | none =>
      rw [hN] at hnum
      unfold numV at hnum
      dsimp only at hnum ⊢
      refine ⟨((i + runLen isTail (s.drop i) : Nat) : Int), ?_⟩
      generalize i + runLen isTail (s.drop i) = k at *
      refine Ccall_own rfl rfl rfl rfl ?_
      clear hs hi hdr hlr hle hR hl hrp hsl h0 hN
      repeat (any_goals first | simp (dsimp := false) (maxSteps := 4000000) (maxDischargeDepth := 8) (implicitDefEqProofs := false) [*, -Int.not_le, -Int.not_lt, amLt, f19c, f19m4, f19r0, f19r1, f19r2, f19r3, f19r4, f19r5, f19r6, f19r7, f19r8, f19r9, f19m24, f19r10, f19r11, f19r12, f19r13, f19r14, f19r15, f19r16, f19r17, f19r18, f19r19, f19r20, f19r21, f19r22, f19r23, f19r24, f19r25, f19r27, f19r28, f19l4_b, f19l24_b, rletter_ok, rdigit_ok, obound_some, obound_none, abound_int, tokV] | with_reducible refine ch_both (fun _ => ?_) (fun _ => ?_) | with_reducible refine ite_both (fun _ => ?_) (fun _ => ?_) | intro _)
    | some p =>
      obtain ⟨t, v⟩ := p
      rw [hN] at hnum
      unfold numV at hnum
      dsimp only at hnum ⊢
      show Ccall tab 19 _ h = _
      generalize i + runLen isTail (s.drop i) = k at *
      refine Ccall_own rfl rfl rfl rfl ?_
      clear hs hi hdr hlr hle hR hl hrp hsl h0 hN
      repeat (any_goals first | simp (dsimp := false) (maxSteps := 4000000) (maxDischargeDepth := 8) (implicitDefEqProofs := false) [*, -Int.not_le, -Int.not_lt, amLt, f19c, f19m4, f19r0, f19r1, f19r2, f19r3, f19r4, f19r5, f19r6, f19r7, f19r8, f19r9, f19m24, f19r10, f19r11, f19r12, f19r13, f19r14, f19r15, f19r16, f19r17, f19r18, f19r19, f19r20, f19r21, f19r22, f19r23, f19r24, f19r25, f19r27, f19r28, f19l4_b, f19l24_b, rletter_ok, rdigit_ok, obound_some, obound_none, abound_int, tokV] | with_reducible refine ch_both (fun _ => ?_) (fun _ => ?_) | with_reducible refine ite_both (fun _ => ?_) (fun _ => ?_) | intro _)
  · have hd' : isDig b.toNat = false := by simpa using hd
    by_cases hl : isLet b.toNat = true
    · rw [if_pos hl]
      have hsl : (s.take (i + runLen isTail (s.drop i))).drop i = (s.drop i).take (runLen isTail (s.drop i)) := by rw [List.drop_take]; congr 1; omega
      rw [← hsl]
      have hk1 : ((i + runLen isTail (s.drop i) : Nat) : Int) ≤ s.length := by omega
      have hk2 : (i : Int) ≤ ((i + runLen isTail (s.drop i) : Nat) : Int) := by omega
      have hk3 : (0 : Int) ≤ ((i + runLen isTail (s.drop i) : Nat) : Int) := by omega
      have hk4 : i ≤ i + runLen isTail (s.drop i) := by omega
      have hw : IntKind.i64.wrap (((i + runLen isTail (s.drop i) : Nat) : Int) - i) = ((runLen isTail (s.drop i) : Nat) : Int) := by rw [IntWalk.i64_in _ (by omega)]; omega
      have hkw := fun h => rkw_ok h ((s.take (i + runLen isTail (s.drop i))).drop i)
      by_cases q : 63 < runLen isTail (s.drop i)
      · rw [if_pos q]
        have q' : 63 < ((runLen isTail (s.drop i) : Nat) : Int) := by omega
        refine ⟨((i + runLen isTail (s.drop i) : Nat) : Int), ?_⟩
        generalize i + runLen isTail (s.drop i) = k at *
        generalize runLen isTail (s.drop i) = n at *
        refine Ccall_own rfl rfl rfl rfl ?_
        clear hs hi hdr hlr hle hR hd hsl q
        repeat (any_goals first | simp (dsimp := false) (maxSteps := 4000000) (maxDischargeDepth := 8) (implicitDefEqProofs := false) [*, -Int.not_le, -Int.not_lt, amLt, f19c, f19m4, f19r0, f19r1, f19r2, f19r3, f19r4, f19r5, f19r6, f19r7, f19r8, f19r9, f19m24, f19r10, f19r11, f19r12, f19r13, f19r14, f19r15, f19r16, f19r17, f19r18, f19r19, f19r20, f19r21, f19r22, f19r23, f19r24, f19r25, f19r27, f19r28, f19l4_b, f19l24_b, rletter_ok, rdigit_ok, obound_some, obound_none, abound_int, tokV] | with_reducible refine ch_both (fun _ => ?_) (fun _ => ?_) | with_reducible refine ite_both (fun _ => ?_) (fun _ => ?_) | intro _)
      · rw [if_neg q]
        have q' : ¬ 63 < ((runLen isTail (s.drop i) : Nat) : Int) := by omega
        show Ccall tab 19 _ h = _
        cases hK : isKw ((s.take (i + runLen isTail (s.drop i))).drop i) with
        | true =>
          rw [hK] at hkw
          rw [if_pos rfl]
          generalize i + runLen isTail (s.drop i) = k at *
          generalize runLen isTail (s.drop i) = n at *
          refine Ccall_own rfl rfl rfl rfl ?_
          clear hs hi hdr hlr hle hR hd hsl q hK
          repeat (any_goals first | simp (dsimp := false) (maxSteps := 4000000) (maxDischargeDepth := 8) (implicitDefEqProofs := false) [*, -Int.not_le, -Int.not_lt, amLt, f19c, f19m4, f19r0, f19r1, f19r2, f19r3, f19r4, f19r5, f19r6, f19r7, f19r8, f19r9, f19m24, f19r10, f19r11, f19r12, f19r13, f19r14, f19r15, f19r16, f19r17, f19r18, f19r19, f19r20, f19r21, f19r22, f19r23, f19r24, f19r25, f19r27, f19r28, f19l4_b, f19l24_b, rletter_ok, rdigit_ok, obound_some, obound_none, abound_int, tokV] | with_reducible refine ch_both (fun _ => ?_) (fun _ => ?_) | with_reducible refine ite_both (fun _ => ?_) (fun _ => ?_) | intro _)
        | false =>
          rw [hK] at hkw
          rw [if_neg (by simp)]
          generalize i + runLen isTail (s.drop i) = k at *
          generalize runLen isTail (s.drop i) = n at *
          refine Ccall_own rfl rfl rfl rfl ?_
          clear hs hi hdr hlr hle hR hd hsl q hK
          repeat (any_goals first | simp (dsimp := false) (maxSteps := 4000000) (maxDischargeDepth := 8) (implicitDefEqProofs := false) [*, -Int.not_le, -Int.not_lt, amLt, f19c, f19m4, f19r0, f19r1, f19r2, f19r3, f19r4, f19r5, f19r6, f19r7, f19r8, f19r9, f19m24, f19r10, f19r11, f19r12, f19r13, f19r14, f19r15, f19r16, f19r17, f19r18, f19r19, f19r20, f19r21, f19r22, f19r23, f19r24, f19r25, f19r27, f19r28, f19l4_b, f19l24_b, rletter_ok, rdigit_ok, obound_some, obound_none, abound_int, tokV] | with_reducible refine ch_both (fun _ => ?_) (fun _ => ?_) | with_reducible refine ite_both (fun _ => ?_) (fun _ => ?_) | intro _)
    · rw [if_neg hl, if_neg hd]
      have hl' : isLet b.toNat = false := by simpa using hl
      by_cases hq : b = 39 ∨ b = 34
      · rw [if_pos hq]
        have hquo := fun h => rquoted_ok h s i b hs hb hq
        have hdd : (s.drop i).drop 1 = s.drop (i + 1) := by rw [List.drop_drop]
        rw [hlr, hdd]
        have hE : (match quoR b (s.length - i) (s.drop (i + 1)) with
          | none => (.error 26 : Except Nat ((Int × List UInt8 × Int) × Nat))
          | some (o, m) => if b = 34 then .ok ((5, o, 0), m + 1) else match o with
            | [x] => .ok ((4, [], sgn x), m + 1)
            | _ => .error 26) = (match quoQ b (quoR b (s.length - i) (s.drop (i + 1))) with
          | none => .error 26
          | some p => .ok p) := by
          cases quoR b (s.length - i) (s.drop (i + 1)) with
          | none => rfl
          | some p =>
            obtain ⟨o, m⟩ := p
            show _ = (match quoT b o m with | none => _ | some p => _)
            unfold quoT
            dsimp only
            by_cases h34 : b = 34
            · rw [if_pos h34, if_pos h34]
            · rw [if_neg h34, if_neg h34]
              match o with
              | [] => rfl
              | [x] => rfl
              | x :: y :: u => rfl
        refine Eq.mpr (congrArg _ hE) ?_
        have hquo2 : RQO [.cells [.int .i64 0, .str [], .int .i64 0, .int .i64 0, .int .i64 0, .int .i64 0], .free] i (Ccall tab 44 [.str s, .int .i64 i] [.cells [.int .i64 0, .str [], .int .i64 0, .int .i64 0, .int .i64 0, .int .i64 0], .free]) (quoQ b (quoR b (s.length - i) (s.drop (i + 1)))) := hquo _
        clear hquo
        generalize quoQ b (quoR b (s.length - i) (s.drop (i + 1))) = Q at *
        cases Q with
        | none =>
          obtain ⟨k, hk⟩ := hquo2
          refine ⟨k, ?_⟩
          unfold tokV at hk
          rcases hq with rfl | rfl
          · refine Ccall_own rfl rfl rfl rfl ?_
            clear hs hi hdr hlr hle hR hd hl hE hdd
            repeat (any_goals first | simp (dsimp := false) (maxSteps := 4000000) (maxDischargeDepth := 8) (implicitDefEqProofs := false) [*, -Int.not_le, -Int.not_lt, amLt, f19c, f19m4, f19r0, f19r1, f19r2, f19r3, f19r4, f19r5, f19r6, f19r7, f19r8, f19r9, f19m24, f19r10, f19r11, f19r12, f19r13, f19r14, f19r15, f19r16, f19r17, f19r18, f19r19, f19r20, f19r21, f19r22, f19r23, f19r24, f19r25, f19r27, f19r28, f19l4_b, f19l24_b, let39r, let34r, dig39r, dig34r, rletter_ok, rdigit_ok, tokV] | with_reducible refine ch_both (fun _ => ?_) (fun _ => ?_) | with_reducible refine ite_both (fun _ => ?_) (fun _ => ?_) | intro _)
          · refine Ccall_own rfl rfl rfl rfl ?_
            clear hs hi hdr hlr hle hR hd hl hE hdd
            repeat (any_goals first | simp (dsimp := false) (maxSteps := 4000000) (maxDischargeDepth := 8) (implicitDefEqProofs := false) [*, -Int.not_le, -Int.not_lt, amLt, f19c, f19m4, f19r0, f19r1, f19r2, f19r3, f19r4, f19r5, f19r6, f19r7, f19r8, f19r9, f19m24, f19r10, f19r11, f19r12, f19r13, f19r14, f19r15, f19r16, f19r17, f19r18, f19r19, f19r20, f19r21, f19r22, f19r23, f19r24, f19r25, f19r27, f19r28, f19l4_b, f19l24_b, let39r, let34r, dig39r, dig34r, rletter_ok, rdigit_ok, tokV] | with_reducible refine ch_both (fun _ => ?_) (fun _ => ?_) | with_reducible refine ite_both (fun _ => ?_) (fun _ => ?_) | intro _)
        | some p =>
          obtain ⟨⟨k, t, v⟩, n⟩ := p
          have hk : Ccall tab 44 _ _ = _ := hquo2
          show Ccall tab 19 _ h = _
          unfold tokV at hk
          generalize i + n = u at *
          rcases hq with rfl | rfl
          · refine Ccall_own rfl rfl rfl rfl ?_
            clear hs hi hdr hlr hle hR hd hl hE hdd hquo2
            repeat (any_goals first | simp (dsimp := false) (maxSteps := 4000000) (maxDischargeDepth := 8) (implicitDefEqProofs := false) [*, -Int.not_le, -Int.not_lt, amLt, f19c, f19m4, f19r0, f19r1, f19r2, f19r3, f19r4, f19r5, f19r6, f19r7, f19r8, f19r9, f19m24, f19r10, f19r11, f19r12, f19r13, f19r14, f19r15, f19r16, f19r17, f19r18, f19r19, f19r20, f19r21, f19r22, f19r23, f19r24, f19r25, f19r27, f19r28, f19l4_b, f19l24_b, let39r, let34r, dig39r, dig34r, rletter_ok, rdigit_ok, tokV] | with_reducible refine ch_both (fun _ => ?_) (fun _ => ?_) | with_reducible refine ite_both (fun _ => ?_) (fun _ => ?_) | intro _)
          · refine Ccall_own rfl rfl rfl rfl ?_
            clear hs hi hdr hlr hle hR hd hl hE hdd hquo2
            repeat (any_goals first | simp (dsimp := false) (maxSteps := 4000000) (maxDischargeDepth := 8) (implicitDefEqProofs := false) [*, -Int.not_le, -Int.not_lt, amLt, f19c, f19m4, f19r0, f19r1, f19r2, f19r3, f19r4, f19r5, f19r6, f19r7, f19r8, f19r9, f19m24, f19r10, f19r11, f19r12, f19r13, f19r14, f19r15, f19r16, f19r17, f19r18, f19r19, f19r20, f19r21, f19r22, f19r23, f19r24, f19r25, f19r27, f19r28, f19l4_b, f19l24_b, let39r, let34r, dig39r, dig34r, rletter_ok, rdigit_ok, tokV] | with_reducible refine ch_both (fun _ => ?_) (fun _ => ?_) | with_reducible refine ite_both (fun _ => ?_) (fun _ => ?_) | intro _)
      · rw [if_neg hq]
        have h39 : ¬ (b.toNat : Int) = 39 := fun h => hq (.inl (UInt8.toNat_inj.1 (by show b.toNat = 39; omega)))
        have h34 : ¬ (b.toNat : Int) = 34 := fun h => hq (.inr (UInt8.toNat_inj.1 (by show b.toNat = 34; omega)))
        have hsf := sign_find (r := s.drop i) (by rw [hdr]; simp)
        have hsl := rsign_loop s hs i (by omega) rsgs (by decide) (by decide) .no (.int .i64 0) (.str []) (.int .i64 0) (.int .i64 0) (.int .i64 0) (.int .i64 0) rsgs 0 rfl (by omega)
        rw [hsf] at hsl
        have hsg := rsgs_ok
        push_cast at hsl
        generalize signR (s.drop i) = x at *
        by_cases hx : x = []
        · rw [if_pos hx] at hsl ⊢
          dsimp only at hsl
          refine ⟨(i : Int), ?_⟩
          refine Ccall_own rfl rfl rfl rfl ?_
          generalize strs rsgs = rows at *
          clear hs hi hdr hlr hle hR hd hl hsf hq hx
          repeat (any_goals first | simp (dsimp := false) (maxSteps := 4000000) (maxDischargeDepth := 8) (implicitDefEqProofs := false) [*, -Int.not_le, -Int.not_lt, amLt, f19c, f19m4, f19r0, f19r1, f19r2, f19r3, f19r4, f19r5, f19r6, f19r7, f19r8, f19r9, f19m24, f19r10, f19r11, f19r12, f19r13, f19r14, f19r15, f19r16, f19r17, f19r18, f19r19, f19r20, f19r21, f19r22, f19r23, f19r24, f19r25, f19r27, f19r28, f19l4_b, f19l24_b, rletter_ok, rdigit_ok, tokV] | with_reducible refine ch_both (fun _ => ?_) (fun _ => ?_) | with_reducible refine ite_both (fun _ => ?_) (fun _ => ?_) | intro _)
        · rw [if_neg hx] at hsl ⊢
          dsimp only at hsl
          show Ccall tab 19 _ h = _
          push_cast
          refine Ccall_own rfl rfl rfl rfl ?_
          generalize strs rsgs = rows at *
          clear hs hi hdr hlr hle hR hd hl hsf hq hx
          repeat (any_goals first | simp (dsimp := false) (maxSteps := 4000000) (maxDischargeDepth := 8) (implicitDefEqProofs := false) [*, -Int.not_le, -Int.not_lt, amLt, f19c, f19m4, f19r0, f19r1, f19r2, f19r3, f19r4, f19r5, f19r6, f19r7, f19r8, f19r9, f19m24, f19r10, f19r11, f19r12, f19r13, f19r14, f19r15, f19r16, f19r17, f19r18, f19r19, f19r20, f19r21, f19r22, f19r23, f19r24, f19r25, f19r27, f19r28, f19l4_b, f19l24_b, rletter_ok, rdigit_ok, tokV] | with_reducible refine ch_both (fun _ => ?_) (fun _ => ?_) | with_reducible refine ite_both (fun _ => ?_) (fun _ => ?_) | intro _)

end Go.Proofs.YtmpdpjkblcdfkaaGreatDoor
