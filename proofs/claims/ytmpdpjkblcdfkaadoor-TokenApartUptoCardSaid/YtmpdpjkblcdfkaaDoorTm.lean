/- Quotes and signs. -/
import Derived.Test.YtmpdpjkblcdfkaaDoorTl
import Derived.Test.YtmpdpjkblcdfkaaDoorAmW
namespace Go.Proofs.YtmpdpjkblcdfkaaDoor
open Go.AM
set_option maxRecDepth 20000
set_option maxHeartbeats 4000000
set_option linter.unusedSimpArgs false
set_option linter.unusedVariables false
attribute [local congr] andF_cg onF_cg bthen_cg bkeep_cg bcond_cg guardV_cg putF_cg guardF_cg ite_cg stepsF_cg
attribute [local simp] Brun_skip Brun_exit Brun_ret Brun_seq Brun_cond Brun_block Brun_region bthen_normal bthen_ret bthen_exit bblock_normal bblock_ret bblock_exit bkeep_some andF_some onF_some onF_none guardF_none guardF_some guardV_tup putF_some putF_none stepsF_nil stepsF_cons upd_apply ofL_cons ofL_nil bown_normal bown_ret banswer_normal banswer_ret aresults ares List.replicate stepF_call stepF_callD stepF_move stepF_pick stepF_alloc stepF_allocV stepF_box stepF_boxV stepF_build stepF_buildSlice stepF_buildSliceV stepF_load stepF_store stepF_nilCheck stepF_bin stepF_eq stepF_un stepF_conv stepF_strId stepF_toStr stepF_toBytes stepF_fn stepF_mkSlice stepF_slice stepF_strSlice stepF_fieldAddr stepF_field stepF_idxAddr stepF_idxArr stepF_index stepF_strIndex stepF_extract stepF_len0 stepF_len1 stepF_min stepF_max stepF_append stepF_appendF appF_none appF_row stepF_mkMap stepF_mkIface stepF_lookup stepF_mapUpdate stepF_ext aext_idx aext_count aext_same cellsF newF abin_add abin_sub abin_mul abin_quo abin_rem abin_eql abin_neq abin_lss abin_leq abin_gtr abin_geq abin_and abin_or abin_xor abin_shl abin_shr abin_seql abin_sneq aun_not aun_neg aeq_bool aeq_agg eqCells_nil eqCells_int eqCells_bool eqCells_str cellsOf_agg cellsOf_int cellsOf_bool cellsOf_str cellsOf_is cellsOf_ms cellsOf_fn cellsOf_nilp cellsOf_mp cellsOf_mm cellsOf_nilm cellsOf_nili cellsOf_ifc cellsOf_ip cget_one cget_agg ev_t ev_c fillp_nil fillp_cons isSc_int isSc_bool isSc_str isSc_is isSc_ms isSc_fn isSc_mm isSc_mp isSc_ip isSc_nilp isSc_nilm isSc_nili isSc_nilf isSc_ifc splice chunk strip strip.stripL imm imm.immL Areify_int Areify_bool Areify_str Areify_is Areify_nilp Areify_tup Areify_agg AreifyL andF_chi andF_ch onF_chi onF_ch bthen_ch bthen_chi bblock_ch bblock_chi bkeep_ch bkeep_chi bown_ch bown_chi banswer_ch banswer_chi isSome_ch bcond_ch guardV_ch1 guardV_ch0 chF_true chF_false chF_not
attribute [local simp ↓] andF_some andF_chi andF_ch onF_some onF_none onF_chi onF_ch bthen_normal bthen_ret bthen_exit bthen_ch bthen_chi bblock_normal bblock_ret bblock_exit bblock_ch bblock_chi bkeep_some bkeep_ch bkeep_chi bown_normal bown_ret bown_ch bown_chi banswer_normal banswer_ret banswer_ch banswer_chi bcond_ch guardV_ch1 guardV_ch0 guardV_tup guardF_none guardF_some putF_some putF_none stepsF_nil stepsF_cons chF_true chF_false Brun_seq Brun_cond Brun_block Brun_region Brun_skip Brun_ret Brun_exit stepF_call stepF_callD stepF_move stepF_pick stepF_alloc stepF_allocV stepF_box stepF_boxV stepF_build stepF_buildSlice stepF_buildSliceV stepF_load stepF_store stepF_nilCheck stepF_bin stepF_eq stepF_un stepF_conv stepF_strId stepF_toStr stepF_toBytes stepF_fn stepF_mkSlice stepF_slice stepF_strSlice stepF_fieldAddr stepF_field stepF_idxAddr stepF_idxArr stepF_index stepF_strIndex stepF_extract stepF_len0 stepF_len1 stepF_min stepF_max stepF_append stepF_appendF stepF_mkMap stepF_mkIface stepF_lookup stepF_mapUpdate stepF_ext
set_option maxHeartbeats 1000000
def quoV : Option (List UInt8 × Nat) → AV
  | some (o, m) => .tup [.is (bys o) .no, .int .i64 m, .bool true]
  | none => .tup [.is [] .no, .int .i64 0, .bool false]
theorem quoted_ok (h : Heap) (s : List UInt8) (q : UInt8) (hs : s.length ≤ 4194304) : Ccall tab 50 [.str s, .int .u8 q.toNat] h = some (quoV (quoR q (s.length + 1) s), h) := by
  have lq := quo_loop s hs q (s.length + 1) 0 s [] .nil [] rfl (by omega) (by simp) (by omega) (CapAt.nil 0 1 [])
  refine Ccall_own rfl rfl rfl rfl ?_
  have e0 : bys [] = [] := rfl
  cases hq : quoR q (s.length + 1) s with
  | none =>
    rw [hq] at lq
    rcases lq with ⟨h', lq⟩ | ⟨e, h', lq⟩
    · rw [e0] at lq
      push_cast at lq
      clear hs hq
      repeat (any_goals first | simp (dsimp := false) (maxSteps := 4000000) (maxDischargeDepth := 8) (implicitDefEqProofs := false) [*, -Int.not_le, -Int.not_lt, amLt, f50c, f50m3, f50r0, f50r1, f50r2, f50r3, f50r4, f50r5, f50r6, f50r7, f50r8, f50r9, f50r10, f50r11, f50r12, f50r13, f50r14, f50r15, f50r16, f50r17, f50r18, f50l3_b, quoV] | with_reducible refine ch_both (fun _ => ?_) (fun _ => ?_) | with_reducible refine ite_both (fun _ => ?_) (fun _ => ?_) | intro _)
    · rw [e0] at lq
      push_cast at lq
      clear hs hq
      repeat (any_goals first | simp (dsimp := false) (maxSteps := 4000000) (maxDischargeDepth := 8) (implicitDefEqProofs := false) [*, -Int.not_le, -Int.not_lt, amLt, f50c, f50m3, f50r0, f50r1, f50r2, f50r3, f50r4, f50r5, f50r6, f50r7, f50r8, f50r9, f50r10, f50r11, f50r12, f50r13, f50r14, f50r15, f50r16, f50r17, f50r18, f50l3_b, quoV] | with_reducible refine ch_both (fun _ => ?_) (fun _ => ?_) | with_reducible refine ite_both (fun _ => ?_) (fun _ => ?_) | intro _)
  | some p =>
    obtain ⟨o, m⟩ := p
    rw [hq] at lq
    obtain ⟨cap', h', lq⟩ := lq
    rw [e0, List.nil_append] at lq
    simp only [Nat.zero_add] at lq
    push_cast at lq
    clear hs hq
    repeat (any_goals first | simp (dsimp := false) (maxSteps := 4000000) (maxDischargeDepth := 8) (implicitDefEqProofs := false) [*, -Int.not_le, -Int.not_lt, amLt, f50c, f50m3, f50r0, f50r1, f50r2, f50r3, f50r4, f50r5, f50r6, f50r7, f50r8, f50r9, f50r10, f50r11, f50r12, f50r13, f50r14, f50r15, f50r16, f50r17, f50r18, f50l3_b, quoV] | with_reducible refine ch_both (fun _ => ?_) (fun _ => ?_) | with_reducible refine ite_both (fun _ => ?_) (fun _ => ?_) | intro _)
def sgs : List (List UInt8) := [[60, 60, 61], [62, 62, 61], [45, 62], [43, 43], [45, 45], [60, 60], [62, 62], [60, 61], [62, 61], [61, 61], [33, 61], [38, 38], [124, 124], [42, 61], [47, 61], [37, 61], [43, 61], [45, 61], [38, 61], [94, 61], [124, 61]]
def chs : List UInt8 := [91, 93, 40, 41, 123, 125, 46, 38, 42, 43, 45, 126, 33, 47, 37, 60, 62, 94, 124, 63, 58, 59, 61, 44]
theorem sign_loop (s : List UInt8) (hs : s.length ≤ 4194304) (h : Heap) : ∀ (r : List (List UInt8)) (i : Nat), sgs.drop i = r → i ≤ 21 →
    Brun tab 22 (.loop f51l3) (ofL [(0, .str s), (7, .agg (sgs.map AV.str)), (8, .int .i64 i)]) h = match r.find? (fun x => hasPre x s) with
      | some x => some (.ret, ofL [(2, .str x)], h)
      | none => some (.exit 0, ofL [(0, .str s), (7, .agg (sgs.map AV.str)), (8, .int .i64 21), (9, .bool false)], h) := by
  intro r
  have hl21 : sgs.length = 21 := by decide
  induction r with
  | nil =>
    intro i hr hi
    have hlen := congrArg List.length hr
    simp only [List.length_drop, List.length_nil, hl21] at hlen
    have e3 : (i : Int) = 21 := by omega
    rw [Brun_loop, e3]
    generalize sgs.map AV.str = L at *
    clear hr hi hlen hs hl21
    repeat (any_goals first | simp (dsimp := false) (maxSteps := 4000000) (maxDischargeDepth := 8) (implicitDefEqProofs := false) [*, -Int.not_le, -Int.not_lt, amLt, f51c, f51m3, f51r0, f51r1, f51r2, f51r3, f51r4, f51r5, f51r6, f51r7, f51r8, f51r9, f51r10, f51l3_b] | with_reducible refine ch_both (fun _ => ?_) (fun _ => ?_) | with_reducible refine ite_both (fun _ => ?_) (fun _ => ?_) | intro _)
  | cons x t ih =>
    intro i hr hi
    have hlen := congrArg List.length hr
    simp only [List.length_drop, List.length_cons, hl21] at hlen
    have hb : sgs[i]? = some x := by
      have := congrArg (·[0]?) hr
      simpa using this
    have hm : (sgs.map AV.str)[i]? = some (AV.str x) := by rw [List.getElem?_map, hb]; rfl
    have htl : sgs.drop (i + 1) = t := by
      have := congrArg List.tail hr
      simpa using this
    have e3 : (i : Int) < 21 := by omega
    have e4 : ¬ (21 : Int) ≤ i := by omega
    have hw := w64 i (by omega)
    have hp := fun h => prefix_ok h s x hs
    have ih2 := ih (i + 1) htl (by omega)
    have ei : ((i + 1 : Nat) : Int) = i + 1 := by push_cast; rfl
    rw [ei] at ih2
    rw [Brun_loop, List.find?_cons]
    generalize sgs.map AV.str = L at *
    cases hpx : hasPre x s with
    | true =>
      rw [hpx] at hp
      clear hr hi hlen hs hl21 ih ih2 htl hb ei
      repeat (any_goals first | simp (dsimp := false) (maxSteps := 4000000) (maxDischargeDepth := 8) (implicitDefEqProofs := false) [*, -Int.not_le, -Int.not_lt, amLt, f51c, f51m3, f51r0, f51r1, f51r2, f51r3, f51r4, f51r5, f51r6, f51r7, f51r8, f51r9, f51r10, f51l3_b] | with_reducible refine ch_both (fun _ => ?_) (fun _ => ?_) | with_reducible refine ite_both (fun _ => ?_) (fun _ => ?_) | intro _)
    | false =>
      rw [hpx] at hp
      dsimp only
      rw [← ih2]
      clear hr hi hlen hs hl21 ih ih2 htl hb ei
      repeat (any_goals first | simp (dsimp := false) (maxSteps := 4000000) (maxDischargeDepth := 8) (implicitDefEqProofs := false) [*, -Int.not_le, -Int.not_lt, amLt, f51c, f51m3, f51r0, f51r1, f51r2, f51r3, f51r4, f51r5, f51r6, f51r7, f51r8, f51r9, f51r10, f51l3_b] | with_reducible refine ch_both (fun _ => ?_) (fun _ => ?_) | with_reducible refine ite_both (fun _ => ?_) (fun _ => ?_) | intro _)
def signR (s : List UInt8) : List UInt8 := match sgs.find? (fun x => hasPre x s) with
  | some x => x
  | none => match s with
    | [] => []
    | b :: _ => if 0 ≤ Go.Lib.indexByte chs b then [b] else []
theorem sign_ok (h : Heap) (s : List UInt8) (b : UInt8) (hb : s[0]? = some b) (hs : s.length ≤ 4194304) : Ccall tab 51 [.str s] h = some (.str (signR s), h) := by
  have lq := fun hp => sign_loop s hs hp sgs 0 rfl (by omega)
  have hi := fun h => indexByte_ok h chs b
  have hlt := lt_get hb
  have e1 : (1 : Int) ≤ s.length := by omega
  have ht : s.take 1 = [b] := by cases s with | nil => simp at hb | cons a t => simp at hb; subst hb; rfl
  have hR : signR s = match sgs.find? (fun x => hasPre x s) with
    | some x => x
    | none => if 0 ≤ Go.Lib.indexByte chs b then [b] else [] := by
    cases s with
    | nil => simp at hb
    | cons a t => simp at hb; subst hb; rfl
  rw [hR]
  generalize sgs.find? (fun x => hasPre x s) = R at *
  push_cast at lq
  unfold chs at hi
  unfold sgs at lq
  simp only [List.map_cons, List.map_nil] at lq
  unfold chs
  generalize Go.Lib.indexByte [91, 93, 40, 41, 123, 125, 46, 38, 42, 43, 45, 126, 33, 47, 37, 60, 62, 94, 124, 63, 58, 59, 61, 44] b = ix at *
  refine Ccall_own rfl rfl rfl rfl ?_
  clear hs hlt hR
  cases R with
  | some x =>
    repeat (any_goals first | simp (dsimp := false) (maxSteps := 4000000) (maxDischargeDepth := 8) (implicitDefEqProofs := false) [*, -Int.not_le, -Int.not_lt, amLt, f51c, f51m3, f51r0, f51r1, f51r2, f51r3, f51r4, f51r5, f51r6, f51r7, f51r8, f51r9, f51r10, f51l3_b] | with_reducible refine ch_both (fun _ => ?_) (fun _ => ?_) | with_reducible refine ite_both (fun _ => ?_) (fun _ => ?_) | intro _)
  | none =>
    by_cases q : 0 ≤ ix
    · rw [if_pos q]
      repeat (any_goals first | simp (dsimp := false) (maxSteps := 4000000) (maxDischargeDepth := 8) (implicitDefEqProofs := false) [*, -Int.not_le, -Int.not_lt, amLt, f51c, f51m3, f51r0, f51r1, f51r2, f51r3, f51r4, f51r5, f51r6, f51r7, f51r8, f51r9, f51r10, f51l3_b, obound_some, obound_none, abound_int] | with_reducible refine ch_both (fun _ => ?_) (fun _ => ?_) | with_reducible refine ite_both (fun _ => ?_) (fun _ => ?_) | intro _)
    · rw [if_neg q]
      repeat (any_goals first | simp (dsimp := false) (maxSteps := 4000000) (maxDischargeDepth := 8) (implicitDefEqProofs := false) [*, -Int.not_le, -Int.not_lt, amLt, f51c, f51m3, f51r0, f51r1, f51r2, f51r3, f51r4, f51r5, f51r6, f51r7, f51r8, f51r9, f51r10, f51l3_b, obound_some, obound_none, abound_int] | with_reducible refine ch_both (fun _ => ?_) (fun _ => ?_) | with_reducible refine ite_both (fun _ => ?_) (fun _ => ?_) | intro _)

end Go.Proofs.YtmpdpjkblcdfkaaDoor
