/- A number. -/
import Derived.Test.YtmpdpjkblcdfkaaDoorZc
import Derived.Test.YtmpdpjkblcdfkaaDoorAmW
namespace Go.Proofs.YtmpdpjkblcdfkaaDoor
open Go.AM
set_option maxRecDepth 20000
set_option maxHeartbeats 4000000
set_option linter.unusedSimpArgs false
set_option linter.unusedVariables false
attribute [local congr] andF_cg onF_cg bthen_cg bkeep_cg bcond_cg guardV_cg putF_cg guardF_cg ite_cg stepsF_cg
attribute [local simp] Brun_skip Brun_exit Brun_ret Brun_seq Brun_cond Brun_block Brun_region bthen_normal bthen_ret bthen_exit bblock_normal bblock_ret bblock_exit bkeep_some andF_some onF_some onF_none guardF_none guardF_some guardV_tup putF_some putF_none stepsF_nil stepsF_cons upd_apply ofL_cons ofL_nil bown_normal bown_ret banswer_normal banswer_ret aresults ares List.replicate stepF_call stepF_callD stepF_move stepF_pick stepF_alloc stepF_allocV stepF_box stepF_boxV stepF_build stepF_buildSlice stepF_buildSliceV stepF_load stepF_store stepF_nilCheck stepF_bin stepF_eq stepF_un stepF_conv stepF_strId strIdV_str strIdV_int stepF_toStr stepF_toBytes stepF_fn stepF_mkSlice stepF_slice stepF_strSlice stepF_fieldAddr stepF_field stepF_idxAddr stepF_idxArr stepF_index stepF_strIndex stepF_extract stepF_len0 stepF_len1 stepF_min stepF_max stepF_append stepF_appendF appF_none appF_row stepF_mkMap stepF_mkIface stepF_lookup stepF_mapUpdate stepF_ext aext_idx aext_count aext_same cellsF newF abin_add abin_sub abin_mul abin_quo abin_rem abin_eql abin_neq abin_lss abin_leq abin_gtr abin_geq abin_and abin_or abin_xor abin_shl abin_shr abin_seql abin_sneq aun_not aun_neg aeq_bool aeq_agg eqCells_nil eqCells_int eqCells_bool eqCells_str cellsOf_agg cellsOf_int cellsOf_bool cellsOf_str cellsOf_is cellsOf_ms cellsOf_fn cellsOf_nilp cellsOf_mp cellsOf_mm cellsOf_nilm cellsOf_nili cellsOf_ifc cellsOf_ip cget_one cget_agg ev_t ev_c fillp_nil fillp_cons isSc_int isSc_bool isSc_str isSc_is isSc_ms isSc_fn isSc_mm isSc_mp isSc_ip isSc_nilp isSc_nilm isSc_nili isSc_nilf isSc_ifc splice chunk strip strip.stripL imm imm.immL Areify_int Areify_bool Areify_str Areify_is Areify_nilp Areify_tup Areify_agg AreifyL andF_chi andF_ch onF_chi onF_ch bthen_ch bthen_chi bblock_ch bblock_chi bkeep_ch bkeep_chi bown_ch bown_chi banswer_ch banswer_chi isSome_ch bcond_ch guardV_ch1 guardV_ch0 chF_true chF_false chF_not
attribute [local simp ↓] andF_some andF_chi andF_ch onF_some onF_none onF_chi onF_ch bthen_normal bthen_ret bthen_exit bthen_ch bthen_chi bblock_normal bblock_ret bblock_exit bblock_ch bblock_chi bkeep_some bkeep_ch bkeep_chi bown_normal bown_ret bown_ch bown_chi banswer_normal banswer_ret banswer_ch banswer_chi bcond_ch guardV_ch1 guardV_ch0 guardV_tup guardF_none guardF_some putF_some putF_none stepsF_nil stepsF_cons chF_true chF_false Brun_seq Brun_cond Brun_block Brun_region Brun_skip Brun_ret Brun_exit stepF_call stepF_callD stepF_move stepF_pick stepF_alloc stepF_allocV stepF_box stepF_boxV stepF_build stepF_buildSlice stepF_buildSliceV stepF_load stepF_store stepF_nilCheck stepF_bin stepF_eq stepF_un stepF_conv stepF_strId stepF_toStr stepF_toBytes stepF_fn stepF_mkSlice stepF_slice stepF_strSlice stepF_fieldAddr stepF_field stepF_idxAddr stepF_idxArr stepF_index stepF_strIndex stepF_extract stepF_len0 stepF_len1 stepF_min stepF_max stepF_append stepF_appendF stepF_mkMap stepF_mkIface stepF_lookup stepF_mapUpdate stepF_ext
set_option maxHeartbeats 2000000
def bys (s : List UInt8) : List (List AV) := s.map fun b => [.int .u8 b.toNat]
theorem chunk_bys (s : List UInt8) : chunk 1 s.length (ofBytes s) = bys s := by
  induction s with
  | nil => rfl
  | cons b t ih =>
    show chunk 1 (t.length + 1) (.int .u8 b.toNat :: ofBytes t) = [.int .u8 b.toNat] :: bys t
    unfold chunk
    rw [← ih]
    rfl
theorem bys_len (s : List UInt8) : (bys s).length = s.length := by simp [bys]
theorem bys_get {s : List UInt8} {i : Nat} {b : UInt8} (h : s[i]? = some b) : (bys s)[i]? = some [.int .u8 b.toNat] := by simp [bys, h]
def sufR : Bool → Bool → List UInt8 → Option (Bool × Bool)
  | u, l, [] => some (u, l)
  | u, l, b :: t => if or32 b.toNat = 108 then (if l = true then none else sufR u true t)
    else if or32 b.toNat = 117 then (if u = true then none else sufR true l t) else none
def SufOut (T : Blk) (body all : List UInt8) (cap : Cap) (x : Option (Ex × Env × Heap)) : Option (Bool × Bool) → Prop
  | some (u, l) => x = some (.exit 0, ofL [(2, .mp 0 0), (4, .str body), (5, .mp 1 0), (6, .mp 2 0), (40, .is (bys all) cap), (41, .int .i64 all.length), (42, .int .i64 all.length), (43, .bool false)], [T, .cells [.bool u], .cells [.bool l], .tok])
  | none => ∃ u l, x = some (.ret, ofL [(2, .mp 0 0), (3, .bool false)], [.cells [.int .i64 0, .str [], .int .i64 0, .int .i64 0, .int .i64 0, .int .i64 0], .cells [.bool u], .cells [.bool l], .tok])
theorem suf_loop (t0 t1 t2 t3 t4 t5 : AV) (body all : List UInt8) (cap : Cap) (hs : all.length ≤ 16777216) : ∀ (r : List UInt8) (i : Nat) (u l : Bool), all.drop i = r → i ≤ all.length →
    SufOut (.cells [t0, t1, t2, t3, t4, t5]) body all cap (Brun tab 94 (.loop f49l6) (ofL [(2, .mp 0 0), (4, .str body), (5, .mp 1 0), (6, .mp 2 0), (40, .is (bys all) cap), (41, .int .i64 all.length), (42, .int .i64 i)]) [.cells [t0, t1, t2, t3, t4, t5], .cells [.bool u], .cells [.bool l], .tok]) (sufR u l r) := by
  intro r
  induction r with
  | nil =>
    intro i u l hr hi
    have hlen := congrArg List.length hr
    simp only [List.length_drop, List.length_nil] at hlen
    have e3 : (all.length : Int) = i := by omega
    rw [Brun_loop]
    show _ = _
    clear hr hi hlen hs
    repeat (any_goals first | simp (dsimp := false) (maxSteps := 4000000) (maxDischargeDepth := 8) (implicitDefEqProofs := false) [*, -Int.not_le, -Int.not_lt, amLt, f49c, f49m6, f49r0, f49r1, f49r2, f49r3, f49r4, f49r5, f49r6, f49r7, f49r8, f49r9, f49r10, f49r11, f49r12, f49r13, f49r14, f49r15, f49r16, f49r17, f49r18, f49r19, f49r20, f49r21, f49r22, f49r23, f49r24, f49r25, f49r26, f49r27, f49r28, f49r29, f49l6_b] | with_reducible refine ch_both (fun _ => ?_) (fun _ => ?_) | with_reducible refine ite_both (fun _ => ?_) (fun _ => ?_) | intro _)
  | cons b t ih =>
    intro i u l hr hi
    have hlen := congrArg List.length hr
    simp only [List.length_drop, List.length_cons] at hlen
    have hb : all[i]? = some b := by
      have := congrArg (·[0]?) hr
      simpa using this
    have htl : all.drop (i + 1) = t := by
      have := congrArg List.tail hr
      simpa using this
    have e3 : ¬ (all.length : Int) ≤ i := by omega
    have hw := w64 i (by omega)
    have hg := bys_get hb
    have ih2 := fun u l => ih (i + 1) u l htl (by omega)
    have ei : ((i + 1 : Nat) : Int) = i + 1 := by push_cast; rfl
    simp only [ei] at ih2
    generalize bys all = rows at *
    rw [Brun_loop]
    by_cases q1 : or32 b.toNat = 108
    · have q1' : ((or32 b.toNat : Nat) : Int) = 108 := by omega
      cases l with
      | true =>
        have hS : sufR u true (b :: t) = none := by simp [sufR, q1]
        rw [hS]
        refine ⟨u, true, ?_⟩
        clear ih ih2 hr hi hlen htl hs hS hb
        repeat (any_goals first | simp (dsimp := false) (maxSteps := 4000000) (maxDischargeDepth := 8) (implicitDefEqProofs := false) [*, -Int.not_le, -Int.not_lt, amLt, f49c, f49m6, f49r0, f49r1, f49r2, f49r3, f49r4, f49r5, f49r6, f49r7, f49r8, f49r9, f49r10, f49r11, f49r12, f49r13, f49r14, f49r15, f49r16, f49r17, f49r18, f49r19, f49r20, f49r21, f49r22, f49r23, f49r24, f49r25, f49r26, f49r27, f49r28, f49r29, f49l6_b, or32_ok] | with_reducible refine ch_both (fun _ => ?_) (fun _ => ?_) | with_reducible refine ite_both (fun _ => ?_) (fun _ => ?_) | intro _)
      | false =>
        have hS : sufR u false (b :: t) = sufR u true t := by simp [sufR, q1]
        rw [hS]
        refine Eq.mp (congrArg (fun x => SufOut _ body all cap x _) ?_) (ih2 u true)
        symm
        clear ih ih2 hr hi hlen htl hs hS hb
        repeat (any_goals first | simp (dsimp := false) (maxSteps := 4000000) (maxDischargeDepth := 8) (implicitDefEqProofs := false) [*, -Int.not_le, -Int.not_lt, amLt, f49c, f49m6, f49r0, f49r1, f49r2, f49r3, f49r4, f49r5, f49r6, f49r7, f49r8, f49r9, f49r10, f49r11, f49r12, f49r13, f49r14, f49r15, f49r16, f49r17, f49r18, f49r19, f49r20, f49r21, f49r22, f49r23, f49r24, f49r25, f49r26, f49r27, f49r28, f49r29, f49l6_b, or32_ok] | with_reducible refine ch_both (fun _ => ?_) (fun _ => ?_) | with_reducible refine ite_both (fun _ => ?_) (fun _ => ?_) | intro _)
    · have q1' : ¬ ((or32 b.toNat : Nat) : Int) = 108 := by omega
      by_cases q2 : or32 b.toNat = 117
      · have q2' : ((or32 b.toNat : Nat) : Int) = 117 := by omega
        cases u with
        | true =>
          have hS : sufR true l (b :: t) = none := by simp [sufR, q1, q2]
          rw [hS]
          refine ⟨true, l, ?_⟩
          clear ih ih2 hr hi hlen htl hs hS hb
          repeat (any_goals first | simp (dsimp := false) (maxSteps := 4000000) (maxDischargeDepth := 8) (implicitDefEqProofs := false) [*, -Int.not_le, -Int.not_lt, amLt, f49c, f49m6, f49r0, f49r1, f49r2, f49r3, f49r4, f49r5, f49r6, f49r7, f49r8, f49r9, f49r10, f49r11, f49r12, f49r13, f49r14, f49r15, f49r16, f49r17, f49r18, f49r19, f49r20, f49r21, f49r22, f49r23, f49r24, f49r25, f49r26, f49r27, f49r28, f49r29, f49l6_b, or32_ok] | with_reducible refine ch_both (fun _ => ?_) (fun _ => ?_) | with_reducible refine ite_both (fun _ => ?_) (fun _ => ?_) | intro _)
        | false =>
          have hS : sufR false l (b :: t) = sufR true l t := by simp [sufR, q1, q2]
          rw [hS]
          refine Eq.mp (congrArg (fun x => SufOut _ body all cap x _) ?_) (ih2 true l)
          symm
          clear ih ih2 hr hi hlen htl hs hS hb
          repeat (any_goals first | simp (dsimp := false) (maxSteps := 4000000) (maxDischargeDepth := 8) (implicitDefEqProofs := false) [*, -Int.not_le, -Int.not_lt, amLt, f49c, f49m6, f49r0, f49r1, f49r2, f49r3, f49r4, f49r5, f49r6, f49r7, f49r8, f49r9, f49r10, f49r11, f49r12, f49r13, f49r14, f49r15, f49r16, f49r17, f49r18, f49r19, f49r20, f49r21, f49r22, f49r23, f49r24, f49r25, f49r26, f49r27, f49r28, f49r29, f49l6_b, or32_ok] | with_reducible refine ch_both (fun _ => ?_) (fun _ => ?_) | with_reducible refine ite_both (fun _ => ?_) (fun _ => ?_) | intro _)
      · have q2' : ¬ ((or32 b.toNat : Nat) : Int) = 117 := by omega
        have hS : sufR u l (b :: t) = none := by simp [sufR, q1, q2]
        rw [hS]
        refine ⟨u, l, ?_⟩
        clear ih ih2 hr hi hlen htl hs hS hb
        repeat (any_goals first | simp (dsimp := false) (maxSteps := 4000000) (maxDischargeDepth := 8) (implicitDefEqProofs := false) [*, -Int.not_le, -Int.not_lt, amLt, f49c, f49m6, f49r0, f49r1, f49r2, f49r3, f49r4, f49r5, f49r6, f49r7, f49r8, f49r9, f49r10, f49r11, f49r12, f49r13, f49r14, f49r15, f49r16, f49r17, f49r18, f49r19, f49r20, f49r21, f49r22, f49r23, f49r24, f49r25, f49r26, f49r27, f49r28, f49r29, f49l6_b, or32_ok] | with_reducible refine ch_both (fun _ => ?_) (fun _ => ?_) | with_reducible refine ite_both (fun _ => ?_) (fun _ => ?_) | intro _)
def ulS : List UInt8 := [117, 85, 108, 76]
theorem trimRight_ok (h : Heap) (s : List UInt8) (hs : s.length ≤ 16777216) : Ccall tab 61 [.str s, .str [117, 85, 108, 76]] h = some (.str (Go.Lib.trimRightS s ulS), h) := by
  refine Ccall_ext (F := libTrimRight) rfl rfl rfl rfl ?_
  simp only [strip.stripL, strip, libTrimRight]
  rw [if_pos ⟨by omega, by decide, by decide⟩]
  rfl
def bodyR (s : List UInt8) : List UInt8 :=
  if 2 < s.length ∧ hexPre s = true then s.take (2 + runLen isHex (s.drop 2)) else Go.Lib.trimRightS s ulS
theorem trim_len (s : List UInt8) : (Go.Lib.trimRightS s ulS).length ≤ s.length := by
  unfold Go.Lib.trimRightS
  have := (List.dropWhile_suffix (fun x => ulS.contains x) (l := s.reverse)).length_le
  simpa using this
theorem body_len (s : List UInt8) : (bodyR s).length ≤ s.length := by
  unfold bodyR
  split
  · simp only [List.length_take]; omega
  · exact trim_len s
def unsT : List UInt8 := [117, 110, 115, 105, 103, 110, 101, 100, 32]
def typT (u l : Bool) : List UInt8 := (if u = true then unsT else []) ++ (if l = true then [108, 111, 110, 103] else [105, 110, 116])
def numberR (s : List UInt8) : Option (List UInt8 × Nat) := match sufR false false (s.drop (bodyR s).length) with
  | none => none
  | some (u, l) => match valueR (bodyR s) with
    | none => none
    | some (v, ten) => if 4294967295 < v then none else if u = false ∧ 2147483647 < v ∧ ten = true then none else some (typT (u || decide (2147483647 < v)) l, v)
def numV : Option (List UInt8 × Nat) → AV
  | none => .tup [.agg [.int .i64 0, .str [], .int .i64 0, .int .i64 0, .int .i64 0, .int .i64 0], .bool false]
  | some (t, v) => .tup [.agg [.int .i64 3, .str t, .int .i64 v, .int .i64 0, .int .i64 0, .int .i64 0], .bool true]
theorem uns_int : abin .add (.str [117, 110, 115, 105, 103, 110, 101, 100, 32]) (.str [105, 110, 116]) = some (.str [117, 110, 115, 105, 103, 110, 101, 100, 32, 105, 110, 116]) := by rfl
theorem uns_long : abin .add (.str [117, 110, 115, 105, 103, 110, 101, 100, 32]) (.str [108, 111, 110, 103]) = some (.str [117, 110, 115, 105, 103, 110, 101, 100, 32, 108, 111, 110, 103]) := by rfl
/-- From the body on. -/
theorem number_rest (s : List UInt8) (hs : s.length ≤ 16777216) (z0 z1 z2 z3 z4 z5 : AV) (ex : List (Nat × AV)) (body : List UInt8) (hb : body.length ≤ s.length) :
    bown [.cell 2 true 6, .tmp 3] (Brun tab 94 (.seq (.region false f49r4 [0, 2, 4, 5, 6] 2)
  (.seq (.seq (.region false f49r5 [2, 4, 5, 6, 40, 41, 42] 1)
  (.block 0 (.loop f49l6)))
  (.seq (.region false f49r17 [2, 5, 6, 10, 11, 12] 0)
  (.seq (.seq (.region false f49r18 [2, 5, 6, 10, 11, 71] 0)
  (.cond (.t 71)
    (.seq (.region false f49r19 [2, 3] 0)
    (.ret))
    (.skip)))
  (.seq (.block 2 (.seq (.region false f49r20 [2, 5, 6, 10, 73] 0)
    (.cond (.t 73)
      (.seq (.region false f49r21 [2, 3] 0)
      (.ret))
      (.seq (.region false f49r22 [2, 5, 6, 10, 84] 0)
      (.cond (.t 84)
        (.region false f49r23 [2, 5, 6, 10] 0)
        (.skip))))))
  (.seq (.region false f49r24 [2, 5, 6, 10, 13] 0)
  (.seq (.seq (.region false f49r25 [2, 5, 10, 13, 87] 0)
  (.cond (.t 87)
    (.region false f49r26 [2, 5, 10, 13] 0)
    (.skip)))
  (.seq (.seq (.region false f49r27 [2, 10, 13, 88] 0)
  (.cond (.t 88)
    (.region false f49r28 [2, 10, 13] 0)
    (.skip)))
  (.seq (.region false f49r29 [2, 3] 0)
  (.ret)))))))))) (ofL ((0, .str s) :: (2, .mp 0 0) :: (4, .str body) :: ex)) [.cells [z0, z1, z2, z3, z4, z5]]) =
    some (numV (match sufR false false (s.drop body.length) with
  | none => none
  | some (u, l) => match valueR body with
    | none => none
    | some (v, ten) => if 4294967295 < v then none else if u = false ∧ 2147483647 < v ∧ ten = true then none else some (typT (u || decide (2147483647 < v)) l, v))) := by
  have hd : ((s.drop body.length).length : Int) = s.length - body.length := by simp only [List.length_drop]; omega
  have lp := suf_loop z0 z1 z2 z3 z4 z5 body (s.drop body.length) (.tok 3 1) (by simp only [List.length_drop]; omega) (s.drop body.length) 0 false false rfl (by omega)
  have hv := fun h => value_ok h body (by omega)
  have hb1 : (body.length : Int) ≤ s.length := by omega
  push_cast at lp
  have hch := chunk_bys (s.drop body.length)
  generalize hall : s.drop body.length = all at *
  cases hS : sufR false false all with
  | none =>
    rw [hS] at lp
    obtain ⟨u, l, lp⟩ := lp
    clear hS hd hb hs hv
    repeat (any_goals first | simp (dsimp := false) (maxSteps := 4000000) (maxDischargeDepth := 8) (implicitDefEqProofs := false) [*, -Int.not_le, -Int.not_lt, amLt, f49c, f49m6, f49r0, f49r1, f49r2, f49r3, f49r4, f49r5, f49r6, f49r7, f49r8, f49r9, f49r10, f49r11, f49r12, f49r13, f49r14, f49r15, f49r16, f49r17, f49r18, f49r19, f49r20, f49r21, f49r22, f49r23, f49r24, f49r25, f49r26, f49r27, f49r28, f49r29, f49l6_b, obound_some, obound_none, abound_int, bys_len, numV] | with_reducible refine ch_both (fun _ => ?_) (fun _ => ?_) | with_reducible refine ite_both (fun _ => ?_) (fun _ => ?_) | intro _)
  | some p =>
    obtain ⟨u, l⟩ := p
    rw [hS] at lp
    unfold SufOut at lp
    simp only
    clear hS hd hb hs
    cases hV : valueR body with
    | none =>
      rw [hV] at hv
      unfold valueV at hv
      repeat (any_goals first | simp (dsimp := false) (maxSteps := 4000000) (maxDischargeDepth := 8) (implicitDefEqProofs := false) [*, -Int.not_le, -Int.not_lt, amLt, f49c, f49m6, f49r0, f49r1, f49r2, f49r3, f49r4, f49r5, f49r6, f49r7, f49r8, f49r9, f49r10, f49r11, f49r12, f49r13, f49r14, f49r15, f49r16, f49r17, f49r18, f49r19, f49r20, f49r21, f49r22, f49r23, f49r24, f49r25, f49r26, f49r27, f49r28, f49r29, f49l6_b, obound_some, obound_none, abound_int, bys_len, numV] | with_reducible refine ch_both (fun _ => ?_) (fun _ => ?_) | with_reducible refine ite_both (fun _ => ?_) (fun _ => ?_) | intro _)
    | some q =>
      obtain ⟨v, ten⟩ := q
      rw [hV] at hv
      unfold valueV at hv
      simp only
      clear hV
      by_cases q1 : 4294967295 < v
      · have q1' : 4294967295 < (v : Int) := by omega
        rw [if_pos q1]
        clear q1
        repeat (any_goals first | simp (dsimp := false) (maxSteps := 4000000) (maxDischargeDepth := 8) (implicitDefEqProofs := false) [*, -Int.not_le, -Int.not_lt, amLt, f49c, f49m6, f49r0, f49r1, f49r2, f49r3, f49r4, f49r5, f49r6, f49r7, f49r8, f49r9, f49r10, f49r11, f49r12, f49r13, f49r14, f49r15, f49r16, f49r17, f49r18, f49r19, f49r20, f49r21, f49r22, f49r23, f49r24, f49r25, f49r26, f49r27, f49r28, f49r29, f49l6_b, obound_some, obound_none, abound_int, bys_len, numV] | with_reducible refine ch_both (fun _ => ?_) (fun _ => ?_) | with_reducible refine ite_both (fun _ => ?_) (fun _ => ?_) | intro _)
      · have q1' : ¬ 4294967295 < (v : Int) := by omega
        rw [if_neg q1]
        clear q1
        by_cases q2 : 2147483647 < v
        · have q2' : 2147483647 < (v : Int) := by omega
          cases u <;> cases ten <;> cases l <;> simp only [q2] <;> clear q2
          · repeat (any_goals first | simp (dsimp := false) (maxSteps := 4000000) (maxDischargeDepth := 8) (implicitDefEqProofs := false) [*, -Int.not_le, -Int.not_lt, amLt, f49c, f49m6, f49r0, f49r1, f49r2, f49r3, f49r4, f49r5, f49r6, f49r7, f49r8, f49r9, f49r10, f49r11, f49r12, f49r13, f49r14, f49r15, f49r16, f49r17, f49r18, f49r19, f49r20, f49r21, f49r22, f49r23, f49r24, f49r25, f49r26, f49r27, f49r28, f49r29, f49l6_b, obound_some, obound_none, abound_int, bys_len, numV, typT, unsT, uns_int, uns_long] | with_reducible refine ch_both (fun _ => ?_) (fun _ => ?_) | with_reducible refine ite_both (fun _ => ?_) (fun _ => ?_) | intro _)
          · repeat (any_goals first | simp (dsimp := false) (maxSteps := 4000000) (maxDischargeDepth := 8) (implicitDefEqProofs := false) [*, -Int.not_le, -Int.not_lt, amLt, f49c, f49m6, f49r0, f49r1, f49r2, f49r3, f49r4, f49r5, f49r6, f49r7, f49r8, f49r9, f49r10, f49r11, f49r12, f49r13, f49r14, f49r15, f49r16, f49r17, f49r18, f49r19, f49r20, f49r21, f49r22, f49r23, f49r24, f49r25, f49r26, f49r27, f49r28, f49r29, f49l6_b, obound_some, obound_none, abound_int, bys_len, numV, typT, unsT, uns_int, uns_long] | with_reducible refine ch_both (fun _ => ?_) (fun _ => ?_) | with_reducible refine ite_both (fun _ => ?_) (fun _ => ?_) | intro _)
          · repeat (any_goals first | simp (dsimp := false) (maxSteps := 4000000) (maxDischargeDepth := 8) (implicitDefEqProofs := false) [*, -Int.not_le, -Int.not_lt, amLt, f49c, f49m6, f49r0, f49r1, f49r2, f49r3, f49r4, f49r5, f49r6, f49r7, f49r8, f49r9, f49r10, f49r11, f49r12, f49r13, f49r14, f49r15, f49r16, f49r17, f49r18, f49r19, f49r20, f49r21, f49r22, f49r23, f49r24, f49r25, f49r26, f49r27, f49r28, f49r29, f49l6_b, obound_some, obound_none, abound_int, bys_len, numV, typT, unsT, uns_int, uns_long] | with_reducible refine ch_both (fun _ => ?_) (fun _ => ?_) | with_reducible refine ite_both (fun _ => ?_) (fun _ => ?_) | intro _)
          · repeat (any_goals first | simp (dsimp := false) (maxSteps := 4000000) (maxDischargeDepth := 8) (implicitDefEqProofs := false) [*, -Int.not_le, -Int.not_lt, amLt, f49c, f49m6, f49r0, f49r1, f49r2, f49r3, f49r4, f49r5, f49r6, f49r7, f49r8, f49r9, f49r10, f49r11, f49r12, f49r13, f49r14, f49r15, f49r16, f49r17, f49r18, f49r19, f49r20, f49r21, f49r22, f49r23, f49r24, f49r25, f49r26, f49r27, f49r28, f49r29, f49l6_b, obound_some, obound_none, abound_int, bys_len, numV, typT, unsT, uns_int, uns_long] | with_reducible refine ch_both (fun _ => ?_) (fun _ => ?_) | with_reducible refine ite_both (fun _ => ?_) (fun _ => ?_) | intro _)
          · repeat (any_goals first | simp (dsimp := false) (maxSteps := 4000000) (maxDischargeDepth := 8) (implicitDefEqProofs := false) [*, -Int.not_le, -Int.not_lt, amLt, f49c, f49m6, f49r0, f49r1, f49r2, f49r3, f49r4, f49r5, f49r6, f49r7, f49r8, f49r9, f49r10, f49r11, f49r12, f49r13, f49r14, f49r15, f49r16, f49r17, f49r18, f49r19, f49r20, f49r21, f49r22, f49r23, f49r24, f49r25, f49r26, f49r27, f49r28, f49r29, f49l6_b, obound_some, obound_none, abound_int, bys_len, numV, typT, unsT, uns_int, uns_long] | with_reducible refine ch_both (fun _ => ?_) (fun _ => ?_) | with_reducible refine ite_both (fun _ => ?_) (fun _ => ?_) | intro _)
          · repeat (any_goals first | simp (dsimp := false) (maxSteps := 4000000) (maxDischargeDepth := 8) (implicitDefEqProofs := false) [*, -Int.not_le, -Int.not_lt, amLt, f49c, f49m6, f49r0, f49r1, f49r2, f49r3, f49r4, f49r5, f49r6, f49r7, f49r8, f49r9, f49r10, f49r11, f49r12, f49r13, f49r14, f49r15, f49r16, f49r17, f49r18, f49r19, f49r20, f49r21, f49r22, f49r23, f49r24, f49r25, f49r26, f49r27, f49r28, f49r29, f49l6_b, obound_some, obound_none, abound_int, bys_len, numV, typT, unsT, uns_int, uns_long] | with_reducible refine ch_both (fun _ => ?_) (fun _ => ?_) | with_reducible refine ite_both (fun _ => ?_) (fun _ => ?_) | intro _)
          · repeat (any_goals first | simp (dsimp := false) (maxSteps := 4000000) (maxDischargeDepth := 8) (implicitDefEqProofs := false) [*, -Int.not_le, -Int.not_lt, amLt, f49c, f49m6, f49r0, f49r1, f49r2, f49r3, f49r4, f49r5, f49r6, f49r7, f49r8, f49r9, f49r10, f49r11, f49r12, f49r13, f49r14, f49r15, f49r16, f49r17, f49r18, f49r19, f49r20, f49r21, f49r22, f49r23, f49r24, f49r25, f49r26, f49r27, f49r28, f49r29, f49l6_b, obound_some, obound_none, abound_int, bys_len, numV, typT, unsT, uns_int, uns_long] | with_reducible refine ch_both (fun _ => ?_) (fun _ => ?_) | with_reducible refine ite_both (fun _ => ?_) (fun _ => ?_) | intro _)
          · repeat (any_goals first | simp (dsimp := false) (maxSteps := 4000000) (maxDischargeDepth := 8) (implicitDefEqProofs := false) [*, -Int.not_le, -Int.not_lt, amLt, f49c, f49m6, f49r0, f49r1, f49r2, f49r3, f49r4, f49r5, f49r6, f49r7, f49r8, f49r9, f49r10, f49r11, f49r12, f49r13, f49r14, f49r15, f49r16, f49r17, f49r18, f49r19, f49r20, f49r21, f49r22, f49r23, f49r24, f49r25, f49r26, f49r27, f49r28, f49r29, f49l6_b, obound_some, obound_none, abound_int, bys_len, numV, typT, unsT, uns_int, uns_long] | with_reducible refine ch_both (fun _ => ?_) (fun _ => ?_) | with_reducible refine ite_both (fun _ => ?_) (fun _ => ?_) | intro _)
        · have q2' : ¬ 2147483647 < (v : Int) := by omega
          cases u <;> cases ten <;> cases l <;> simp only [q2] <;> clear q2
          · repeat (any_goals first | simp (dsimp := false) (maxSteps := 4000000) (maxDischargeDepth := 8) (implicitDefEqProofs := false) [*, -Int.not_le, -Int.not_lt, amLt, f49c, f49m6, f49r0, f49r1, f49r2, f49r3, f49r4, f49r5, f49r6, f49r7, f49r8, f49r9, f49r10, f49r11, f49r12, f49r13, f49r14, f49r15, f49r16, f49r17, f49r18, f49r19, f49r20, f49r21, f49r22, f49r23, f49r24, f49r25, f49r26, f49r27, f49r28, f49r29, f49l6_b, obound_some, obound_none, abound_int, bys_len, numV, typT, unsT, uns_int, uns_long] | with_reducible refine ch_both (fun _ => ?_) (fun _ => ?_) | with_reducible refine ite_both (fun _ => ?_) (fun _ => ?_) | intro _)
          · repeat (any_goals first | simp (dsimp := false) (maxSteps := 4000000) (maxDischargeDepth := 8) (implicitDefEqProofs := false) [*, -Int.not_le, -Int.not_lt, amLt, f49c, f49m6, f49r0, f49r1, f49r2, f49r3, f49r4, f49r5, f49r6, f49r7, f49r8, f49r9, f49r10, f49r11, f49r12, f49r13, f49r14, f49r15, f49r16, f49r17, f49r18, f49r19, f49r20, f49r21, f49r22, f49r23, f49r24, f49r25, f49r26, f49r27, f49r28, f49r29, f49l6_b, obound_some, obound_none, abound_int, bys_len, numV, typT, unsT, uns_int, uns_long] | with_reducible refine ch_both (fun _ => ?_) (fun _ => ?_) | with_reducible refine ite_both (fun _ => ?_) (fun _ => ?_) | intro _)
          · repeat (any_goals first | simp (dsimp := false) (maxSteps := 4000000) (maxDischargeDepth := 8) (implicitDefEqProofs := false) [*, -Int.not_le, -Int.not_lt, amLt, f49c, f49m6, f49r0, f49r1, f49r2, f49r3, f49r4, f49r5, f49r6, f49r7, f49r8, f49r9, f49r10, f49r11, f49r12, f49r13, f49r14, f49r15, f49r16, f49r17, f49r18, f49r19, f49r20, f49r21, f49r22, f49r23, f49r24, f49r25, f49r26, f49r27, f49r28, f49r29, f49l6_b, obound_some, obound_none, abound_int, bys_len, numV, typT, unsT, uns_int, uns_long] | with_reducible refine ch_both (fun _ => ?_) (fun _ => ?_) | with_reducible refine ite_both (fun _ => ?_) (fun _ => ?_) | intro _)
          · repeat (any_goals first | simp (dsimp := false) (maxSteps := 4000000) (maxDischargeDepth := 8) (implicitDefEqProofs := false) [*, -Int.not_le, -Int.not_lt, amLt, f49c, f49m6, f49r0, f49r1, f49r2, f49r3, f49r4, f49r5, f49r6, f49r7, f49r8, f49r9, f49r10, f49r11, f49r12, f49r13, f49r14, f49r15, f49r16, f49r17, f49r18, f49r19, f49r20, f49r21, f49r22, f49r23, f49r24, f49r25, f49r26, f49r27, f49r28, f49r29, f49l6_b, obound_some, obound_none, abound_int, bys_len, numV, typT, unsT, uns_int, uns_long] | with_reducible refine ch_both (fun _ => ?_) (fun _ => ?_) | with_reducible refine ite_both (fun _ => ?_) (fun _ => ?_) | intro _)
          · repeat (any_goals first | simp (dsimp := false) (maxSteps := 4000000) (maxDischargeDepth := 8) (implicitDefEqProofs := false) [*, -Int.not_le, -Int.not_lt, amLt, f49c, f49m6, f49r0, f49r1, f49r2, f49r3, f49r4, f49r5, f49r6, f49r7, f49r8, f49r9, f49r10, f49r11, f49r12, f49r13, f49r14, f49r15, f49r16, f49r17, f49r18, f49r19, f49r20, f49r21, f49r22, f49r23, f49r24, f49r25, f49r26, f49r27, f49r28, f49r29, f49l6_b, obound_some, obound_none, abound_int, bys_len, numV, typT, unsT, uns_int, uns_long] | with_reducible refine ch_both (fun _ => ?_) (fun _ => ?_) | with_reducible refine ite_both (fun _ => ?_) (fun _ => ?_) | intro _)
          · repeat (any_goals first | simp (dsimp := false) (maxSteps := 4000000) (maxDischargeDepth := 8) (implicitDefEqProofs := false) [*, -Int.not_le, -Int.not_lt, amLt, f49c, f49m6, f49r0, f49r1, f49r2, f49r3, f49r4, f49r5, f49r6, f49r7, f49r8, f49r9, f49r10, f49r11, f49r12, f49r13, f49r14, f49r15, f49r16, f49r17, f49r18, f49r19, f49r20, f49r21, f49r22, f49r23, f49r24, f49r25, f49r26, f49r27, f49r28, f49r29, f49l6_b, obound_some, obound_none, abound_int, bys_len, numV, typT, unsT, uns_int, uns_long] | with_reducible refine ch_both (fun _ => ?_) (fun _ => ?_) | with_reducible refine ite_both (fun _ => ?_) (fun _ => ?_) | intro _)
          · repeat (any_goals first | simp (dsimp := false) (maxSteps := 4000000) (maxDischargeDepth := 8) (implicitDefEqProofs := false) [*, -Int.not_le, -Int.not_lt, amLt, f49c, f49m6, f49r0, f49r1, f49r2, f49r3, f49r4, f49r5, f49r6, f49r7, f49r8, f49r9, f49r10, f49r11, f49r12, f49r13, f49r14, f49r15, f49r16, f49r17, f49r18, f49r19, f49r20, f49r21, f49r22, f49r23, f49r24, f49r25, f49r26, f49r27, f49r28, f49r29, f49l6_b, obound_some, obound_none, abound_int, bys_len, numV, typT, unsT, uns_int, uns_long] | with_reducible refine ch_both (fun _ => ?_) (fun _ => ?_) | with_reducible refine ite_both (fun _ => ?_) (fun _ => ?_) | intro _)
          · repeat (any_goals first | simp (dsimp := false) (maxSteps := 4000000) (maxDischargeDepth := 8) (implicitDefEqProofs := false) [*, -Int.not_le, -Int.not_lt, amLt, f49c, f49m6, f49r0, f49r1, f49r2, f49r3, f49r4, f49r5, f49r6, f49r7, f49r8, f49r9, f49r10, f49r11, f49r12, f49r13, f49r14, f49r15, f49r16, f49r17, f49r18, f49r19, f49r20, f49r21, f49r22, f49r23, f49r24, f49r25, f49r26, f49r27, f49r28, f49r29, f49l6_b, obound_some, obound_none, abound_int, bys_len, numV, typT, unsT, uns_int, uns_long] | with_reducible refine ch_both (fun _ => ?_) (fun _ => ?_) | with_reducible refine ite_both (fun _ => ?_) (fun _ => ?_) | intro _)
theorem number_head (s : List UInt8) (hs : s.length ≤ 16777216) (X : ACode) : ∃ ex, Brun tab 94 (.seq (.region false f49r0 [0, 2] 1)
  (.seq (.region false f49r1 [0, 2, 4] 0)
  (.seq (.seq (.region false f49r2 [0, 2, 4, 29] 0)
  (.cond (.t 29)
    (.region false f49r3 [0, 2, 4] 0)
    (.skip))) X))) (ofL [(0, .str s)]) [] = Brun tab 94 X (ofL ((0, .str s) :: (2, .mp 0 0) :: (4, .str (bodyR s)) :: ex)) [.cells [.int .i64 0, .str [], .int .i64 0, .int .i64 0, .int .i64 0, .int .i64 0]] := by
  have ht := fun h => trimRight_ok h s hs
  unfold bodyR
  by_cases h2 : 2 < s.length
  · have h2' : 2 < (s.length : Int) := by omega
    have h3 : (2 : Int) ≤ s.length := by omega
    by_cases hx : hexPre s = true
    · rw [if_pos ⟨h2, hx⟩]
      obtain ⟨x, h0, h1, hx2⟩ := (hexPre_iff s).1 hx
      have hrun := fun h => run_ok 62 isHex hexF_ok h (s.drop 2) (by simp only [List.length_drop]; omega)
      have hle := runLen_le isHex (s.drop 2)
      have hdl : (s.drop 2).length = s.length - 2 := by simp
      have e4 : ((or32 x.toNat : Nat) : Int) = 120 := by omega
      generalize runLen isHex (s.drop 2) = n at *
      have hw : IntKind.i64.wrap (2 + (n : Int)) = ((2 + n : Nat) : Int) := by rw [IntWalk.i64_in _ (by omega)]; push_cast; rfl
      have hb : ((2 + n : Nat) : Int) ≤ s.length := by omega
      have e5 : (((2 + n : Nat) : Int)).toNat = 2 + n := by omega
      generalize hm : 2 + n = m at *
      clear hx hx2 hle h2 hs hm
      refine ⟨[], ?_⟩
      repeat (any_goals first | simp (dsimp := false) (maxSteps := 4000000) (maxDischargeDepth := 8) (implicitDefEqProofs := false) [*, -Int.not_le, -Int.not_lt, amLt, f49c, f49m6, f49r0, f49r1, f49r2, f49r3, f49r4, f49r5, f49r6, f49r7, f49r8, f49r9, f49r10, f49r11, f49r12, f49r13, f49r14, f49r15, f49r16, f49r17, f49r18, f49r19, f49r20, f49r21, f49r22, f49r23, f49r24, f49r25, f49r26, f49r27, f49r28, f49r29, f49l6_b, or32_ok, obound_some, obound_none, abound_int] | with_reducible refine ch_both (fun _ => ?_) (fun _ => ?_) | with_reducible refine ite_both (fun _ => ?_) (fun _ => ?_) | intro _)
    · rw [if_neg (fun h => hx h.2)]
      have h0 : s[0]? = some s[0] := List.getElem?_eq_getElem (by omega)
      have h1 : s[1]? = some s[1] := List.getElem?_eq_getElem (by omega)
      generalize s[0] = a at h0
      generalize s[1] = x at h1
      by_cases q : (a.toNat : Int) = 48
      · have e4 : ¬ ((or32 x.toNat : Nat) : Int) = 120 := fun h => hx ((hexPre_iff s).2 ⟨x, by rw [h0, (u48 a).2 q], h1, by omega⟩)
        clear hx h2 hs
        refine ⟨[(29, .bool false)], ?_⟩
        repeat (any_goals first | simp (dsimp := false) (maxSteps := 4000000) (maxDischargeDepth := 8) (implicitDefEqProofs := false) [*, -Int.not_le, -Int.not_lt, amLt, f49c, f49m6, f49r0, f49r1, f49r2, f49r3, f49r4, f49r5, f49r6, f49r7, f49r8, f49r9, f49r10, f49r11, f49r12, f49r13, f49r14, f49r15, f49r16, f49r17, f49r18, f49r19, f49r20, f49r21, f49r22, f49r23, f49r24, f49r25, f49r26, f49r27, f49r28, f49r29, f49l6_b, or32_ok, obound_some, obound_none, abound_int] | with_reducible refine ch_both (fun _ => ?_) (fun _ => ?_) | with_reducible refine ite_both (fun _ => ?_) (fun _ => ?_) | intro _)
      · clear hx h2 hs
        refine ⟨[(29, .bool false)], ?_⟩
        repeat (any_goals first | simp (dsimp := false) (maxSteps := 4000000) (maxDischargeDepth := 8) (implicitDefEqProofs := false) [*, -Int.not_le, -Int.not_lt, amLt, f49c, f49m6, f49r0, f49r1, f49r2, f49r3, f49r4, f49r5, f49r6, f49r7, f49r8, f49r9, f49r10, f49r11, f49r12, f49r13, f49r14, f49r15, f49r16, f49r17, f49r18, f49r19, f49r20, f49r21, f49r22, f49r23, f49r24, f49r25, f49r26, f49r27, f49r28, f49r29, f49l6_b, or32_ok, obound_some, obound_none, abound_int] | with_reducible refine ch_both (fun _ => ?_) (fun _ => ?_) | with_reducible refine ite_both (fun _ => ?_) (fun _ => ?_) | intro _)
  · have h2' : ¬ 2 < (s.length : Int) := by omega
    rw [if_neg (fun h => h2 h.1)]
    clear h2 hs
    refine ⟨[(29, .bool false)], ?_⟩
    repeat (any_goals first | simp (dsimp := false) (maxSteps := 4000000) (maxDischargeDepth := 8) (implicitDefEqProofs := false) [*, -Int.not_le, -Int.not_lt, amLt, f49c, f49m6, f49r0, f49r1, f49r2, f49r3, f49r4, f49r5, f49r6, f49r7, f49r8, f49r9, f49r10, f49r11, f49r12, f49r13, f49r14, f49r15, f49r16, f49r17, f49r18, f49r19, f49r20, f49r21, f49r22, f49r23, f49r24, f49r25, f49r26, f49r27, f49r28, f49r29, f49l6_b, or32_ok, obound_some, obound_none, abound_int] | with_reducible refine ch_both (fun _ => ?_) (fun _ => ?_) | with_reducible refine ite_both (fun _ => ?_) (fun _ => ?_) | intro _)
theorem number_ok (h : Heap) (s : List UInt8) (hs : s.length ≤ 16777216) : Ccall tab 49 [.str s] h = some (numV (numberR s), h) := by
  refine Ccall_own rfl rfl rfl rfl ?_
  obtain ⟨ex, he⟩ := number_head s hs _
  exact (congrArg _ he).trans (number_rest s hs (.int .i64 0) (.str []) (.int .i64 0) (.int .i64 0) (.int .i64 0) (.int .i64 0) ex (bodyR s) (body_len s))

end Go.Proofs.YtmpdpjkblcdfkaaDoor
