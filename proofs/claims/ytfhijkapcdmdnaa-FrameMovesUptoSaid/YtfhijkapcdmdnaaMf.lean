/- Moves in memory: Delete. -/
import Derived.Test.YtfhijkapcdmdnaaMe
import Derived.Test.YtfhijkapcdmdnaaAmW
namespace Go.Proofs.Ytfhijkapcdmdnaa
open Go.AM
set_option maxRecDepth 20000
set_option maxHeartbeats 4000000
set_option linter.unusedSimpArgs false
set_option linter.unusedVariables false
attribute [local congr] andF_cg onF_cg bthen_cg bkeep_cg bcond_cg guardV_cg putF_cg guardF_cg ite_cg stepsF_cg
attribute [local simp] Brun_skip Brun_exit Brun_ret Brun_seq Brun_cond Brun_block Brun_region bthen_normal bthen_ret bthen_exit bblock_normal bblock_ret bblock_exit bkeep_some andF_some onF_some onF_none guardF_none guardF_some guardV_tup putF_some putF_none stepsF_nil stepsF_cons upd_apply ofL_cons ofL_nil bown_normal bown_ret banswer_normal banswer_ret aresults ares List.replicate stepF_call stepF_callD stepF_move stepF_pick stepF_alloc stepF_allocV stepF_box stepF_boxV stepF_build stepF_buildSlice stepF_buildSliceV stepF_load stepF_store stepF_nilCheck stepF_bin stepF_eq stepF_un stepF_conv stepF_strId strIdV_str strIdV_int stepF_toStr stepF_toBytes stepF_fn stepF_mkSlice stepF_slice stepF_strSlice stepF_fieldAddr stepF_field stepF_idxAddr stepF_idxArr stepF_index stepF_strIndex stepF_extract stepF_len0 stepF_len1 stepF_min stepF_max stepF_append stepF_appendF appF_none appF_row stepF_mkMap stepF_mkIface stepF_lookup stepF_mapUpdate stepF_ext aext_idx aext_count aext_same cellsF newF abin_add abin_sub abin_mul abin_quo abin_rem abin_eql abin_neq abin_lss abin_leq abin_gtr abin_geq abin_and abin_or abin_xor abin_shl abin_shr abin_seql abin_sneq aun_not aun_neg aeq_bool aeq_agg eqCells_nil eqCells_int eqCells_bool eqCells_str cellsOf_agg cellsOf_int cellsOf_bool cellsOf_str cellsOf_is cellsOf_ms cellsOf_fn cellsOf_nilp cellsOf_mp cellsOf_mm cellsOf_nilm cellsOf_nili cellsOf_ifc cellsOf_ip cget_one cget_agg ev_t ev_c fillp_nil fillp_cons isSc_int isSc_bool isSc_str isSc_is isSc_ms isSc_fn isSc_mm isSc_mp isSc_ip isSc_nilp isSc_nilm isSc_nili isSc_nilf isSc_ifc splice chunk strip strip.stripL imm imm.immL Areify_int Areify_bool Areify_str Areify_is Areify_nilp Areify_tup Areify_agg AreifyL andF_chi andF_ch onF_chi onF_ch bthen_ch bthen_chi bblock_ch bblock_chi bkeep_ch bkeep_chi bown_ch bown_chi banswer_ch banswer_chi isSome_ch bcond_ch guardV_ch1 guardV_ch0 chF_true chF_false chF_not
attribute [local simp ↓] andF_some andF_chi andF_ch onF_some onF_none onF_chi onF_ch bthen_normal bthen_ret bthen_exit bthen_ch bthen_chi bblock_normal bblock_ret bblock_exit bblock_ch bblock_chi bkeep_some bkeep_ch bkeep_chi bown_normal bown_ret bown_ch bown_chi banswer_normal banswer_ret banswer_ch banswer_chi bcond_ch guardV_ch1 guardV_ch0 guardV_tup guardF_none guardF_some putF_some putF_none stepsF_nil stepsF_cons chF_true chF_false Brun_seq Brun_cond Brun_block Brun_region Brun_skip Brun_ret Brun_exit stepF_call stepF_callD stepF_move stepF_pick stepF_alloc stepF_allocV stepF_box stepF_boxV stepF_build stepF_buildSlice stepF_buildSliceV stepF_load stepF_store stepF_nilCheck stepF_bin stepF_eq stepF_un stepF_conv stepF_strId stepF_toStr stepF_toBytes stepF_fn stepF_mkSlice stepF_slice stepF_strSlice stepF_fieldAddr stepF_field stepF_idxAddr stepF_idxArr stepF_index stepF_strIndex stepF_extract stepF_len0 stepF_len1 stepF_min stepF_max stepF_append stepF_appendF stepF_mkMap stepF_mkIface stepF_lookup stepF_mapUpdate stepF_ext
set_option maxHeartbeats 4000000
section
variable {R cap : Nat} {ex : Bool}
theorem delete_ok (K : List Mv) (n i : Nat) (G : Heap) (hG : G[R]? = some (.cells (flatM K))) (hK : K.length ≤ 16777216) (hn : n ≤ K.length) (hcap : n ≤ cap) (hi : i < n) :
    ∃ G' K', (G.length ≤ G'.length ∧ ∀ k, k < G.length → k ≠ R → G'[k]? = G[k]?) ∧ G'[R]? = some (.cells (flatM K')) ∧ K'.length = K.length ∧ K'.take (n - 1) = (K.take n).eraseIdx i ∧
      Ccall tab 14 [.ms R 0 n 2 cap ex, .int .i64 i, .int .i64 (i + 1)] G = some (.ms R 0 (n - 1) 2 cap ex, G') := by
  have lR := (List.getElem?_eq_some_iff.1 hG).1
  obtain ⟨Y, hY⟩ : ∃ Y, Y = (K.drop (i + 1)).take (n - (i + 1)) := ⟨_, rfl⟩
  have hYl : Y.length = n - (i + 1) := by rw [hY, List.length_take, List.length_drop]; omega
  obtain ⟨K1, hK1⟩ : ∃ K1, K1 = K.take i ++ (Y ++ K.drop (n - 1)) := ⟨_, rfl⟩
  have hK1l : K1.length = K.length := by rw [hK1]; simp only [List.length_append, List.length_take, List.length_drop, hYl]; omega
  have hys : ((flatM K).drop ((i + 1) * 2)).take ((n - (i + 1)) * 2) = flatM Y := by rw [flatM_drop, flatM_take, hY]
  have hyl : (flatM Y).length = (n - (i + 1)) * 2 := by rw [flatM_len, hYl]
  have hap : (flatM K).take (i * 2) ++ (flatM Y ++ (flatM K).drop (i * 2 + (n - (i + 1)) * 2)) = flatM K1 := by
    rw [flatM_take, show i * 2 + (n - (i + 1)) * 2 = (n - 1) * 2 by omega, flatM_drop, hK1, flatM_app, flatM_app]
  have hys2 : (flatM Y).all isSc = true := by
    unfold flatM mvRows
    rw [List.all_flatten, List.all_eq_true]
    intro r hr
    obtain ⟨m, _, rfl⟩ := List.mem_map.1 hr
    rfl
  have hys3 : ∀ x ∈ flatM Y, isSc x = true := fun x hx => List.all_eq_true.1 hys2 x hx
  have hset := flatM_set (K := K1) (i := n - 1) (by omega) (0, 0)
  have hfl := flatM_len K
  have hfl1 := flatM_len K1
  have hx : ∀ b, (List.set (G ++ [Blk.free]) R b)[R]? = some b := fun b => by rw [List.getElem?_set, if_pos rfl, if_pos (by simp; omega)]
  have hGx := fun x => rapp hG x
  have hrep : repeatCells 1 [.int .i64 0, .int .i64 0] = [.int .i64 0, .int .i64 0] := rfl
  refine ⟨List.set (G ++ [Blk.free]) R (.cells (flatM (K1.set (n - 1) (0, 0)))), K1.set (n - 1) (0, 0), ⟨by simp, fun k hk h => ?_⟩, hx _, by rw [List.length_set]; exact hK1l, ?_, ?_⟩
  · rw [List.getElem?_set_ne (Ne.symm h), List.getElem?_append_left hk]
  · rw [List.take_set_of_le (Nat.le_refl _), hK1, List.eraseIdx_eq_take_drop_succ, List.take_take, Nat.min_eq_left (by omega), List.drop_take, ← hY, ← List.append_assoc, List.take_append, List.take_of_length_le (by simp only [List.length_append, List.length_take, hYl]; omega)]
    have : n - 1 - (K.take i ++ Y).length = 0 := by simp only [List.length_append, List.length_take, hYl]; omega
    rw [this, List.take_zero, List.append_nil]
  · have e1 : (i : Int) + 1 ≤ n := by omega
    have e2 : (i : Int) ≤ n := by omega
    have e3 : ¬ ((i : Int) = i + 1) := by omega
    have e4 : (i : Int) ≤ i + 1 := by omega
    have e5 : (0 : Int) ≤ i + 1 := by omega
    have e6 : ((i : Int) + 1).toNat = i + 1 := by omega
    have e7 : (i : Int) ≤ cap := by omega
    have e8 : i ≤ cap := by omega
    have e9 : i + (n - (i + 1)) = n - 1 := by omega
    have e10 : n - 1 ≤ cap := by omega
    have e11 : i * 2 + (n - (i + 1)) * 2 ≤ K.length * 2 := by omega
    have e12 : (i + 1) * 2 + (n - (i + 1)) * 2 ≤ K.length * 2 := by omega
    have e13 : i * 2 ≤ K.length * 2 := by omega
    have e14 : n - (n - 1) = 1 := by omega
    have e15 : ((n - 1 : Nat) : Int) ≤ n := by omega
    have e16 : (n - 1) * 2 + 2 ≤ K1.length * 2 := by omega
    have e17 : roomy (n - 1) 16 = true := by simp only [roomy, decide_eq_true_eq]; omega
    have e18 : (n : Int) ≤ cap := by omega
    have e19 : n - 1 ≤ n := by omega
    have e20 : i + 1 ≤ n := by omega
    have e21 : i ≤ n := by omega
    have e22 : ¬ n - 1 = n := by omega
    refine Ccall_over rfl rfl rfl rfl ?_
    by_cases h0 : n - (i + 1) = 0
    · have hi1 : i = n - 1 := by omega
      have hYn : Y = [] := List.eq_nil_of_length_eq_zero (by omega)
      have hKK : K1 = K := by rw [hK1, hYn, List.nil_append, hi1, List.take_append_drop]
      rw [hKK] at hset e16
      rw [hKK]
      clear hap hys hyl hys2 hys3 hYl hY hYn hK1
      subst hi1
      generalize flatM (K.set (n - 1) (0, 0)) = F2 at *
      generalize flatM K = FK at *
      clear hG hK hn hcap hi hKK hK1l lR hfl1
      repeat (any_goals first | simp (dsimp := false) (maxSteps := 4000000) (maxDischargeDepth := 8) (implicitDefEqProofs := false) [*, -Int.not_le, -Int.not_lt, amLt, f14c, f14q5, f14r0, f14r1, f14r2, f14r3, f14r4, f14r6, f14r7, f14r5_u, f14r5_w, aslice, obound_some, obound_none, abound_int, stepF_clear, slen, ssz, scellsF] | with_reducible refine ch_both (fun _ => ?_) (fun _ => ?_) | with_reducible refine ite_both (fun _ => ?_) (fun _ => ?_) | intro _)
    · generalize flatM (K1.set (n - 1) (0, 0)) = F2 at *
      generalize flatM K1 = F1 at *
      generalize flatM Y = FY at *
      generalize flatM K = FK at *
      clear hG hK hn hcap hi hY hYl hK1 hK1l lR
      repeat (any_goals first | simp (dsimp := false) (maxSteps := 4000000) (maxDischargeDepth := 8) (implicitDefEqProofs := false) [*, -Int.not_le, -Int.not_lt, amLt, f14c, f14q5, f14r0, f14r1, f14r2, f14r3, f14r4, f14r6, f14r7, f14r5_u, f14r5_w, aslice, obound_some, obound_none, abound_int, stepF_clear, slen, ssz, scellsF] | with_reducible refine ch_both (fun _ => ?_) (fun _ => ?_) | with_reducible refine ite_both (fun _ => ?_) (fun _ => ?_) | intro _)
end

end Go.Proofs.Ytfhijkapcdmdnaa
