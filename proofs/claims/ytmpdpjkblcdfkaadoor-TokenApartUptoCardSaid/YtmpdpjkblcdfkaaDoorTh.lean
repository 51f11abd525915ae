/- A number and its end. -/
import Derived.Test.YtmpdpjkblcdfkaaDoorTg
import Derived.Test.YtmpdpjkblcdfkaaDoorAmW
namespace Go.Proofs.YtmpdpjkblcdfkaaDoor
open Go.AM
set_option maxRecDepth 20000
set_option maxHeartbeats 4000000
set_option linter.unusedSimpArgs false
set_option linter.unusedVariables false
attribute [local congr] andF_cg onF_cg bthen_cg bkeep_cg bcond_cg guardV_cg putF_cg guardF_cg ite_cg stepsF_cg
attribute [local simp] Brun_skip Brun_exit Brun_ret Brun_seq Brun_cond Brun_block Brun_region bthen_normal bthen_ret bthen_exit bblock_normal bblock_ret bblock_exit bkeep_some andF_some onF_some onF_none guardF_none guardF_some guardV_tup putF_some putF_none stepsF_nil stepsF_cons upd_apply ofL_cons ofL_nil bown_normal bown_ret banswer_normal banswer_ret aresults ares List.replicate stepF_call stepF_callD stepF_move stepF_pick stepF_alloc stepF_allocV stepF_box stepF_boxV stepF_build stepF_buildSlice stepF_buildSliceV stepF_load stepF_store stepF_nilCheck stepF_bin stepF_eq stepF_un stepF_conv stepF_strId stepF_toStr stepF_toBytes stepF_fn stepF_mkSlice stepF_slice stepF_strSlice stepF_fieldAddr stepF_field stepF_idxAddr stepF_idxArr stepF_index stepF_strIndex stepF_extract stepF_len0 stepF_len1 stepF_min stepF_max stepF_append stepF_appendF appF_none appF_row stepF_mkMap stepF_mkIface stepF_lookup stepF_mapUpdate stepF_ext aext_idx aext_count aext_same cellsF newF abin_add abin_sub abin_mul abin_quo abin_rem abin_eql abin_neq abin_lss abin_leq abin_gtr abin_geq abin_and abin_or abin_xor abin_shl abin_shr abin_seql abin_sneq aun_not aun_neg aeq_bool aeq_agg eqCells_nil eqCells_int eqCells_bool eqCells_str cellsOf_agg cellsOf_int cellsOf_bool cellsOf_str cellsOf_is cellsOf_ms cellsOf_fn cellsOf_nilp cellsOf_mp cellsOf_mm cellsOf_nilm cellsOf_nili cellsOf_ifc cellsOf_ip cget_one cget_agg ev_t ev_c fillp_nil fillp_cons isSc_int isSc_bool isSc_str isSc_is isSc_ms isSc_fn isSc_mm isSc_mp isSc_ip isSc_nilp isSc_nilm isSc_nili isSc_nilf isSc_ifc splice chunk strip strip.stripL imm imm.immL Areify_int Areify_bool Areify_str Areify_is Areify_nilp Areify_tup Areify_agg AreifyL andF_chi andF_ch onF_chi onF_ch bthen_ch bthen_chi bblock_ch bblock_chi bkeep_ch bkeep_chi bown_ch bown_chi banswer_ch banswer_chi isSome_ch bcond_ch guardV_ch1 guardV_ch0 chF_true chF_false chF_not
attribute [local simp ↓] andF_some andF_chi andF_ch onF_some onF_none onF_chi onF_ch bthen_normal bthen_ret bthen_exit bthen_ch bthen_chi bblock_normal bblock_ret bblock_exit bblock_ch bblock_chi bkeep_some bkeep_ch bkeep_chi bown_normal bown_ret bown_ch bown_chi banswer_normal banswer_ret banswer_ch banswer_chi bcond_ch guardV_ch1 guardV_ch0 guardV_tup guardF_none guardF_some putF_some putF_none stepsF_nil stepsF_cons chF_true chF_false Brun_seq Brun_cond Brun_block Brun_region Brun_skip Brun_ret Brun_exit stepF_call stepF_callD stepF_move stepF_pick stepF_alloc stepF_allocV stepF_box stepF_boxV stepF_build stepF_buildSlice stepF_buildSliceV stepF_load stepF_store stepF_nilCheck stepF_bin stepF_eq stepF_un stepF_conv stepF_strId stepF_toStr stepF_toBytes stepF_fn stepF_mkSlice stepF_slice stepF_strSlice stepF_fieldAddr stepF_field stepF_idxAddr stepF_idxArr stepF_index stepF_strIndex stepF_extract stepF_len0 stepF_len1 stepF_min stepF_max stepF_append stepF_appendF stepF_mkMap stepF_mkIface stepF_lookup stepF_mapUpdate stepF_ext
def bys (s : List UInt8) : List (List AV) := s.map fun b => [.int .u8 b.toNat]
theorem chunk_bys (s : List UInt8) : chunk 1 s.length (ofBytes s) = bys s := by
  induction s with
  | nil => rfl
  | cons b t ih =>
    show chunk 1 (t.length + 1) (.int .u8 b.toNat :: ofBytes t) = [.int .u8 b.toNat] :: bys t
    unfold chunk
    rw [← ih]
    rfl
theorem bys_len (s : List UInt8) : (bys s).length = s.length := by simp [bys]
theorem bys_get {s : List UInt8} {i : Nat} {b : UInt8} (h : s[i]? = some b) : (bys s)[i]? = some [.int .u8 b.toNat] := by simp [bys, h]
def sufR : Bool → Bool → List UInt8 → Option (Bool × Bool)
  | u, l, [] => some (u, l)
  | u, l, b :: t => if or32 b.toNat = 108 then (if l = true then none else sufR u true t)
    else if or32 b.toNat = 117 then (if u = true then none else sufR true l t) else none
def SufOut (T : Blk) (body all : List UInt8) (cap : Cap) (x : Option (Ex × Env × Heap)) : Option (Bool × Bool) → Prop
  | some (u, l) => x = some (.exit 0, ofL [(2, .mp 0 0), (4, .str body), (5, .mp 1 0), (6, .mp 2 0), (40, .is (bys all) cap), (41, .int .i64 all.length), (42, .int .i64 all.length), (43, .bool false)], [T, .cells [.bool u], .cells [.bool l], .tok])
  | none => ∃ u l, x = some (.ret, ofL [(2, .mp 0 0), (3, .bool false)], [.cells [.int .i64 0, .str [], .int .i64 0, .int .i64 0, .int .i64 0, .int .i64 0], .cells [.bool u], .cells [.bool l], .tok])
theorem suf_loop (t0 t1 t2 t3 t4 t5 : AV) (body all : List UInt8) (cap : Cap) (hs : all.length ≤ 4194304) : ∀ (r : List UInt8) (i : Nat) (u l : Bool), all.drop i = r → i ≤ all.length →
    SufOut (.cells [t0, t1, t2, t3, t4, t5]) body all cap (Brun tab 94 (.loop f49l6) (ofL [(2, .mp 0 0), (4, .str body), (5, .mp 1 0), (6, .mp 2 0), (40, .is (bys all) cap), (41, .int .i64 all.length), (42, .int .i64 i)]) [.cells [t0, t1, t2, t3, t4, t5], .cells [.bool u], .cells [.bool l], .tok]) (sufR u l r) := by
  intro r
  induction r with
  | nil =>
    intro i u l hr hi
    have hlen := congrArg List.length hr
    simp only [List.length_drop, List.length_nil] at hlen
    have e3 : (all.length : Int) = i := by omega
    rw [Brun_loop]
    show _ = _
    clear hr hi hlen hs
    repeat (any_goals first | simp (dsimp := false) (maxSteps := 4000000) (maxDischargeDepth := 8) (implicitDefEqProofs := false) [*, -Int.not_le, -Int.not_lt, amLt, f49c, f49m6, f49r0, f49r1, f49r2, f49r3, f49r4, f49r5, f49r6, f49r7, f49r8, f49r9, f49r10, f49r11, f49r12, f49r13, f49r14, f49r15, f49r16, f49r17, f49r18, f49r19, f49r20, f49r21, f49r22, f49r23, f49r24, f49r25, f49r26, f49r27, f49r28, f49r29, f49l6_b] | with_reducible refine ch_both (fun _ => ?_) (fun _ => ?_) | with_reducible refine ite_both (fun _ => ?_) (fun _ => ?_) | intro _)
  | cons b t ih =>
    intro i u l hr hi
    have hlen := congrArg List.length hr
    simp only [List.length_drop, List.length_cons] at hlen
    have hb : all[i]? = some b := by
      have := congrArg (·[0]?) hr
      simpa using this
    have htl : all.drop (i + 1) = t := by
      have := congrArg List.tail hr
      simpa using this
    have e3 : ¬ (all.length : Int) ≤ i := by omega
    have hw := w64 i (by omega)
    have hg := bys_get hb
    have ih2 := fun u l => ih (i + 1) u l htl (by omega)
    have ei : ((i + 1 : Nat) : Int) = i + 1 := by push_cast; rfl
    simp only [ei] at ih2
    generalize bys all = rows at *
    rw [Brun_loop]
    by_cases q1 : or32 b.toNat = 108
    · have q1' : ((or32 b.toNat : Nat) : Int) = 108 := by omega
      cases l with
      | true =>
        have hS : sufR u true (b :: t) = none := by simp [sufR, q1]
        rw [hS]
        refine ⟨u, true, ?_⟩
        clear ih ih2 hr hi hlen htl hs hS hb
        repeat (any_goals first | simp (dsimp := false) (maxSteps := 4000000) (maxDischargeDepth := 8) (implicitDefEqProofs := false) [*, -Int.not_le, -Int.not_lt, amLt, f49c, f49m6, f49r0, f49r1, f49r2, f49r3, f49r4, f49r5, f49r6, f49r7, f49r8, f49r9, f49r10, f49r11, f49r12, f49r13, f49r14, f49r15, f49r16, f49r17, f49r18, f49r19, f49r20, f49r21, f49r22, f49r23, f49r24, f49r25, f49r26, f49r27, f49r28, f49r29, f49l6_b, or32_ok] | with_reducible refine ch_both (fun _ => ?_) (fun _ => ?_) | with_reducible refine ite_both (fun _ => ?_) (fun _ => ?_) | intro _)
      | false =>
        have hS : sufR u false (b :: t) = sufR u true t := by simp [sufR, q1]
        rw [hS]
        refine Eq.mp (congrArg (fun x => SufOut _ body all cap x _) ?_) (ih2 u true)
        symm
        clear ih ih2 hr hi hlen htl hs hS hb
        repeat (any_goals first | simp (dsimp := false) (maxSteps := 4000000) (maxDischargeDepth := 8) (implicitDefEqProofs := false) [*, -Int.not_le, -Int.not_lt, amLt, f49c, f49m6, f49r0, f49r1, f49r2, f49r3, f49r4, f49r5, f49r6, f49r7, f49r8, f49r9, f49r10, f49r11, f49r12, f49r13, f49r14, f49r15, f49r16, f49r17, f49r18, f49r19, f49r20, f49r21, f49r22, f49r23, f49r24, f49r25, f49r26, f49r27, f49r28, f49r29, f49l6_b, or32_ok] | with_reducible refine ch_both (fun _ => ?_) (fun _ => ?_) | with_reducible refine ite_both (fun _ => ?_) (fun _ => ?_) | intro _)
    · have q1' : ¬ ((or32 b.toNat : Nat) : Int) = 108 := by omega
      by_cases q2 : or32 b.toNat = 117
      · have q2' : ((or32 b.toNat : Nat) : Int) = 117 := by omega
        cases u with
        | true =>
          have hS : sufR true l (b :: t) = none := by simp [sufR, q1, q2]
          rw [hS]
          refine ⟨true, l, ?_⟩
          clear ih ih2 hr hi hlen htl hs hS hb
          repeat (any_goals first | simp (dsimp := false) (maxSteps := 4000000) (maxDischargeDepth := 8) (implicitDefEqProofs := false) [*, -Int.not_le, -Int.not_lt, amLt, f49c, f49m6, f49r0, f49r1, f49r2, f49r3, f49r4, f49r5, f49r6, f49r7, f49r8, f49r9, f49r10, f49r11, f49r12, f49r13, f49r14, f49r15, f49r16, f49r17, f49r18, f49r19, f49r20, f49r21, f49r22, f49r23, f49r24, f49r25, f49r26, f49r27, f49r28, f49r29, f49l6_b, or32_ok] | with_reducible refine ch_both (fun _ => ?_) (fun _ => ?_) | with_reducible refine ite_both (fun _ => ?_) (fun _ => ?_) | intro _)
        | false =>
          have hS : sufR false l (b :: t) = sufR true l t := by simp [sufR, q1, q2]
          rw [hS]
          refine Eq.mp (congrArg (fun x => SufOut _ body all cap x _) ?_) (ih2 true l)
          symm
          clear ih ih2 hr hi hlen htl hs hS hb
          repeat (any_goals first | simp (dsimp := false) (maxSteps := 4000000) (maxDischargeDepth := 8) (implicitDefEqProofs := false) [*, -Int.not_le, -Int.not_lt, amLt, f49c, f49m6, f49r0, f49r1, f49r2, f49r3, f49r4, f49r5, f49r6, f49r7, f49r8, f49r9, f49r10, f49r11, f49r12, f49r13, f49r14, f49r15, f49r16, f49r17, f49r18, f49r19, f49r20, f49r21, f49r22, f49r23, f49r24, f49r25, f49r26, f49r27, f49r28, f49r29, f49l6_b, or32_ok] | with_reducible refine ch_both (fun _ => ?_) (fun _ => ?_) | with_reducible refine ite_both (fun _ => ?_) (fun _ => ?_) | intro _)
      · have q2' : ¬ ((or32 b.toNat : Nat) : Int) = 117 := by omega
        have hS : sufR u l (b :: t) = none := by simp [sufR, q1, q2]
        rw [hS]
        refine ⟨u, l, ?_⟩
        clear ih ih2 hr hi hlen htl hs hS hb
        repeat (any_goals first | simp (dsimp := false) (maxSteps := 4000000) (maxDischargeDepth := 8) (implicitDefEqProofs := false) [*, -Int.not_le, -Int.not_lt, amLt, f49c, f49m6, f49r0, f49r1, f49r2, f49r3, f49r4, f49r5, f49r6, f49r7, f49r8, f49r9, f49r10, f49r11, f49r12, f49r13, f49r14, f49r15, f49r16, f49r17, f49r18, f49r19, f49r20, f49r21, f49r22, f49r23, f49r24, f49r25, f49r26, f49r27, f49r28, f49r29, f49l6_b, or32_ok] | with_reducible refine ch_both (fun _ => ?_) (fun _ => ?_) | with_reducible refine ite_both (fun _ => ?_) (fun _ => ?_) | intro _)

end Go.Proofs.YtmpdpjkblcdfkaaDoor
