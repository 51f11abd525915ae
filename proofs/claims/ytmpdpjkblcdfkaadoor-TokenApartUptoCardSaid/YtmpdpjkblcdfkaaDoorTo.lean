/- Spots on the way. -/
import Derived.Test.YtmpdpjkblcdfkaaDoorTn
import Derived.Test.YtmpdpjkblcdfkaaDoorAmW
namespace Go.Proofs.YtmpdpjkblcdfkaaDoor
open Go.AM
set_option maxRecDepth 20000
set_option maxHeartbeats 4000000
set_option linter.unusedSimpArgs false
set_option linter.unusedVariables false
attribute [local congr] andF_cg onF_cg bthen_cg bkeep_cg bcond_cg guardV_cg putF_cg guardF_cg ite_cg stepsF_cg
attribute [local simp] Brun_skip Brun_exit Brun_ret Brun_seq Brun_cond Brun_block Brun_region bthen_normal bthen_ret bthen_exit bblock_normal bblock_ret bblock_exit bkeep_some andF_some onF_some onF_none guardF_none guardF_some guardV_tup putF_some putF_none stepsF_nil stepsF_cons upd_apply ofL_cons ofL_nil bown_normal bown_ret banswer_normal banswer_ret aresults ares List.replicate stepF_call stepF_callD stepF_move stepF_pick stepF_alloc stepF_allocV stepF_box stepF_boxV stepF_build stepF_buildSlice stepF_buildSliceV stepF_load stepF_store stepF_nilCheck stepF_bin stepF_eq stepF_un stepF_conv stepF_strId stepF_toStr stepF_toBytes stepF_fn stepF_mkSlice stepF_slice stepF_strSlice stepF_fieldAddr stepF_field stepF_idxAddr stepF_idxArr stepF_index stepF_strIndex stepF_extract stepF_len0 stepF_len1 stepF_min stepF_max stepF_append stepF_appendF appF_none appF_row stepF_mkMap stepF_mkIface stepF_lookup stepF_mapUpdate stepF_ext aext_idx aext_count aext_same cellsF newF abin_add abin_sub abin_mul abin_quo abin_rem abin_eql abin_neq abin_lss abin_leq abin_gtr abin_geq abin_and abin_or abin_xor abin_shl abin_shr abin_seql abin_sneq aun_not aun_neg aeq_bool aeq_agg eqCells_nil eqCells_int eqCells_bool eqCells_str cellsOf_agg cellsOf_int cellsOf_bool cellsOf_str cellsOf_is cellsOf_ms cellsOf_fn cellsOf_nilp cellsOf_mp cellsOf_mm cellsOf_nilm cellsOf_nili cellsOf_ifc cellsOf_ip cget_one cget_agg ev_t ev_c fillp_nil fillp_cons isSc_int isSc_bool isSc_str isSc_is isSc_ms isSc_fn isSc_mm isSc_mp isSc_ip isSc_nilp isSc_nilm isSc_nili isSc_nilf isSc_ifc splice chunk strip strip.stripL imm imm.immL Areify_int Areify_bool Areify_str Areify_is Areify_nilp Areify_tup Areify_agg AreifyL andF_chi andF_ch onF_chi onF_ch bthen_ch bthen_chi bblock_ch bblock_chi bkeep_ch bkeep_chi bown_ch bown_chi banswer_ch banswer_chi isSome_ch bcond_ch guardV_ch1 guardV_ch0 chF_true chF_false chF_not
attribute [local simp ↓] andF_some andF_chi andF_ch onF_some onF_none onF_chi onF_ch bthen_normal bthen_ret bthen_exit bthen_ch bthen_chi bblock_normal bblock_ret bblock_exit bblock_ch bblock_chi bkeep_some bkeep_ch bkeep_chi bown_normal bown_ret bown_ch bown_chi banswer_normal banswer_ret banswer_ch banswer_chi bcond_ch guardV_ch1 guardV_ch0 guardV_tup guardF_none guardF_some putF_some putF_none stepsF_nil stepsF_cons chF_true chF_false Brun_seq Brun_cond Brun_block Brun_region Brun_skip Brun_ret Brun_exit stepF_call stepF_callD stepF_move stepF_pick stepF_alloc stepF_allocV stepF_box stepF_boxV stepF_build stepF_buildSlice stepF_buildSliceV stepF_load stepF_store stepF_nilCheck stepF_bin stepF_eq stepF_un stepF_conv stepF_strId stepF_toStr stepF_toBytes stepF_fn stepF_mkSlice stepF_slice stepF_strSlice stepF_fieldAddr stepF_field stepF_idxAddr stepF_idxArr stepF_index stepF_strIndex stepF_extract stepF_len0 stepF_len1 stepF_min stepF_max stepF_append stepF_appendF stepF_mkMap stepF_mkIface stepF_lookup stepF_mapUpdate stepF_ext
set_option maxHeartbeats 1000000
def stepS (p : Nat × Nat) (b : UInt8) : Nat × Nat := if b = 10 then (p.1 + 1, 1) else (p.1, p.2 + 1)
def goS (p : Nat × Nat) (r : List UInt8) : Nat × Nat := r.foldl stepS p
theorem stepS_le (p : Nat × Nat) (b : UInt8) (k : Nat) (h1 : p.1 ≤ k) (h2 : p.2 ≤ k) (h3 : 1 ≤ k + 1) : (stepS p b).1 ≤ k + 1 ∧ (stepS p b).2 ≤ k + 1 := by
  unfold stepS
  split <;> dsimp only <;> omega
theorem to_loop (F0 : Blk) (s : List UInt8) (hs : s.length ≤ 4194304) (tgt k : Nat) (htg : tgt ≤ s.length) (t : Heap) : ∀ (m off l c : Nat), off + m = tgt → l + m ≤ 10000000 → c + m ≤ 10000000 →
    Brun tab 59 (.loop f30l1) (ofL [(0, .mp 1 0), (1, .int .i64 tgt), (4, .mp k 0)]) (F0 :: .cells [.str s, .int .i64 l, .int .i64 c, .int .i64 off] :: t) =
      some (.exit 0, ofL [(0, .mp 1 0), (1, .int .i64 tgt), (4, .mp k 0), (11, .bool false)], F0 :: .cells [.str s, .int .i64 (goS (l, c) ((s.drop off).take m)).1, .int .i64 (goS (l, c) ((s.drop off).take m)).2, .int .i64 tgt] :: t) := by
  intro m
  induction m with
  | zero =>
    intro off l c ho hl hc
    have e3 : (off : Int) = tgt := by omega
    rw [Brun_loop, e3]
    simp only [List.take_zero, goS, List.foldl_nil]
    clear ho hl hc hs htg
    repeat (any_goals first | simp (dsimp := false) (maxSteps := 4000000) (maxDischargeDepth := 8) (implicitDefEqProofs := false) [*, -Int.not_le, -Int.not_lt, amLt, f30c, f30m1, f30q3, f30r0, f30r1, f30r2, f30r4, f30r5, f30r6, f30l1_b, f30r3_u, f30r3_w] | with_reducible refine ch_both (fun _ => ?_) (fun _ => ?_) | with_reducible refine ite_both (fun _ => ?_) (fun _ => ?_) | intro _)
  | succ m ih =>
    intro off l c ho hl hc
    have hlt : off < s.length := by omega
    have hb : s[off]? = some s[off] := List.getElem?_eq_getElem hlt
    have hd : (s.drop off).take (m + 1) = s[off] :: (s.drop (off + 1)).take m := by
      rw [List.drop_eq_getElem_cons hlt, List.take_succ_cons]
    rw [hd]
    generalize s[off] = b at *
    have hg : goS (l, c) (b :: (s.drop (off + 1)).take m) = goS (stepS (l, c) b) ((s.drop (off + 1)).take m) := rfl
    rw [hg]
    have e3 : (off : Int) < tgt := by omega
    have e4 : ¬ (tgt : Int) ≤ off := by omega
    have w1 := w64 off (by omega)
    have w2 := w64 l (by omega)
    have w3 := w64 c (by omega)
    have eo : ((off + 1 : Nat) : Int) = off + 1 := by push_cast; rfl
    have el : ((l + 1 : Nat) : Int) = l + 1 := by push_cast; rfl
    have ec : ((c + 1 : Nat) : Int) = c + 1 := by push_cast; rfl
    rw [Brun_loop]
    by_cases h10 : b = 10
    · have hst : stepS (l, c) b = (l + 1, 1) := by simp [stepS, h10]
      have ih2 := ih (off + 1) (l + 1) 1 (by omega) (by omega) (by omega)
      rw [hst, ← ih2, eo, el]
      have h10' : (b.toNat : Int) = 10 := by rw [h10]; rfl
      have e1 : ((1 : Nat) : Int) = 1 := rfl
      rw [e1]
      clear ih ih2 ho hl hc hs htg hd hg hlt hst eo el ec
      repeat (any_goals first | simp (dsimp := false) (maxSteps := 4000000) (maxDischargeDepth := 8) (implicitDefEqProofs := false) [*, -Int.not_le, -Int.not_lt, amLt, f30c, f30m1, f30q3, f30r0, f30r1, f30r2, f30r4, f30r5, f30r6, f30l1_b, f30r3_u, f30r3_w] | with_reducible refine ch_both (fun _ => ?_) (fun _ => ?_) | with_reducible refine ite_both (fun _ => ?_) (fun _ => ?_) | intro _)
    · have hst : stepS (l, c) b = (l, c + 1) := by simp [stepS, h10]
      have ih2 := ih (off + 1) l (c + 1) (by omega) (by omega) (by omega)
      rw [hst, ← ih2, eo, ec]
      have h10' : ¬ (b.toNat : Int) = 10 := fun h => h10 (UInt8.toNat_inj.1 (by show b.toNat = 10; omega))
      clear ih ih2 ho hl hc hs htg hd hg hlt hst eo el ec
      repeat (any_goals first | simp (dsimp := false) (maxSteps := 4000000) (maxDischargeDepth := 8) (implicitDefEqProofs := false) [*, -Int.not_le, -Int.not_lt, amLt, f30c, f30m1, f30q3, f30r0, f30r1, f30r2, f30r4, f30r5, f30r6, f30l1_b, f30r3_u, f30r3_w] | with_reducible refine ch_both (fun _ => ?_) (fun _ => ?_) | with_reducible refine ite_both (fun _ => ?_) (fun _ => ?_) | intro _)
theorem to_ok (F0 : Blk) (s : List UInt8) (hs : s.length ≤ 4194304) (tgt off l c : Nat) (htg : tgt ≤ s.length) (ho : off ≤ tgt) (hl : l + tgt ≤ 10000000) (hc : c + tgt ≤ 10000000) (t : Heap) :
    Ccall tab 30 [.mp 1 0, .int .i64 tgt] (F0 :: .cells [.str s, .int .i64 l, .int .i64 c, .int .i64 off] :: t) =
      some (.agg [.int .i64 (goS (l, c) ((s.drop off).take (tgt - off))).1, .int .i64 (goS (l, c) ((s.drop off).take (tgt - off))).2, .int .i64 tgt],
        F0 :: .cells [.str s, .int .i64 (goS (l, c) ((s.drop off).take (tgt - off))).1, .int .i64 (goS (l, c) ((s.drop off).take (tgt - off))).2, .int .i64 tgt] ::
          (t ++ [.cells [.int .i64 (goS (l, c) ((s.drop off).take (tgt - off))).1, .int .i64 (goS (l, c) ((s.drop off).take (tgt - off))).2, .int .i64 tgt]])) := by
  have lp := fun k t => to_loop F0 s hs tgt k htg t (tgt - off) off l c (by omega) (by omega) (by omega)
  generalize goS (l, c) ((s.drop off).take (tgt - off)) = g at *
  obtain ⟨g1, g2⟩ := g
  dsimp only at lp ⊢
  clear hs htg ho hl hc
  refine Ccall_over rfl rfl rfl rfl ?_
  repeat (any_goals first | simp (dsimp := false) (maxSteps := 4000000) (maxDischargeDepth := 8) (implicitDefEqProofs := false) [*, -Int.not_le, -Int.not_lt, amLt, f30c, f30m1, f30q3, f30r0, f30r1, f30r2, f30r4, f30r5, f30r6, f30l1_b, f30r3_u, f30r3_w, app_get, app_get0, app_set, app_set0] | with_reducible refine ch_both (fun _ => ?_) (fun _ => ?_) | with_reducible refine ite_both (fun _ => ?_) (fun _ => ?_) | intro _)

end Go.Proofs.YtmpdpjkblcdfkaaDoor
