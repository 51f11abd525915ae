/- Moves in memory: DeleteFunc, Clone. -/
import Derived.Test.YtfhijkapcdmdnaaMd
import Derived.Test.YtfhijkapcdmdnaaAmW
namespace Go.Proofs.Ytfhijkapcdmdnaa
open Go.AM
set_option maxRecDepth 20000
set_option maxHeartbeats 4000000
set_option linter.unusedSimpArgs false
set_option linter.unusedVariables false
attribute [local congr] andF_cg onF_cg bthen_cg bkeep_cg bcond_cg guardV_cg putF_cg guardF_cg ite_cg stepsF_cg
attribute [local simp] Brun_skip Brun_exit Brun_ret Brun_seq Brun_cond Brun_block Brun_region bthen_normal bthen_ret bthen_exit bblock_normal bblock_ret bblock_exit bkeep_some andF_some onF_some onF_none guardF_none guardF_some guardV_tup putF_some putF_none stepsF_nil stepsF_cons upd_apply ofL_cons ofL_nil bown_normal bown_ret banswer_normal banswer_ret aresults ares List.replicate stepF_call stepF_callD stepF_move stepF_pick stepF_alloc stepF_allocV stepF_box stepF_boxV stepF_build stepF_buildSlice stepF_buildSliceV stepF_load stepF_store stepF_nilCheck stepF_bin stepF_eq stepF_un stepF_conv stepF_strId strIdV_str strIdV_int stepF_toStr stepF_toBytes stepF_fn stepF_mkSlice stepF_slice stepF_strSlice stepF_fieldAddr stepF_field stepF_idxAddr stepF_idxArr stepF_index stepF_strIndex stepF_extract stepF_len0 stepF_len1 stepF_min stepF_max stepF_append stepF_appendF appF_none appF_row stepF_mkMap stepF_mkIface stepF_lookup stepF_mapUpdate stepF_ext aext_idx aext_count aext_same cellsF newF abin_add abin_sub abin_mul abin_quo abin_rem abin_eql abin_neq abin_lss abin_leq abin_gtr abin_geq abin_and abin_or abin_xor abin_shl abin_shr abin_seql abin_sneq aun_not aun_neg aeq_bool aeq_agg eqCells_nil eqCells_int eqCells_bool eqCells_str cellsOf_agg cellsOf_int cellsOf_bool cellsOf_str cellsOf_is cellsOf_ms cellsOf_fn cellsOf_nilp cellsOf_mp cellsOf_mm cellsOf_nilm cellsOf_nili cellsOf_ifc cellsOf_ip cget_one cget_agg ev_t ev_c fillp_nil fillp_cons isSc_int isSc_bool isSc_str isSc_is isSc_ms isSc_fn isSc_mm isSc_mp isSc_ip isSc_nilp isSc_nilm isSc_nili isSc_nilf isSc_ifc splice chunk strip strip.stripL imm imm.immL Areify_int Areify_bool Areify_str Areify_is Areify_nilp Areify_tup Areify_agg AreifyL andF_chi andF_ch onF_chi onF_ch bthen_ch bthen_chi bblock_ch bblock_chi bkeep_ch bkeep_chi bown_ch bown_chi banswer_ch banswer_chi isSome_ch bcond_ch guardV_ch1 guardV_ch0 chF_true chF_false chF_not
attribute [local simp ↓] andF_some andF_chi andF_ch onF_some onF_none onF_chi onF_ch bthen_normal bthen_ret bthen_exit bthen_ch bthen_chi bblock_normal bblock_ret bblock_exit bblock_ch bblock_chi bkeep_some bkeep_ch bkeep_chi bown_normal bown_ret bown_ch bown_chi banswer_normal banswer_ret banswer_ch banswer_chi bcond_ch guardV_ch1 guardV_ch0 guardV_tup guardF_none guardF_some putF_some putF_none stepsF_nil stepsF_cons chF_true chF_false Brun_seq Brun_cond Brun_block Brun_region Brun_skip Brun_ret Brun_exit stepF_call stepF_callD stepF_move stepF_pick stepF_alloc stepF_allocV stepF_box stepF_boxV stepF_build stepF_buildSlice stepF_buildSliceV stepF_load stepF_store stepF_nilCheck stepF_bin stepF_eq stepF_un stepF_conv stepF_strId stepF_toStr stepF_toBytes stepF_fn stepF_mkSlice stepF_slice stepF_strSlice stepF_fieldAddr stepF_field stepF_idxAddr stepF_idxArr stepF_index stepF_strIndex stepF_extract stepF_len0 stepF_len1 stepF_min stepF_max stepF_append stepF_appendF stepF_mkMap stepF_mkIface stepF_lookup stepF_mapUpdate stepF_ext
set_option maxHeartbeats 4000000
theorem ixF_spec (p : Mv → Bool) : ∀ (l : List Mv) (i : Nat), l.any p = true → ∃ (k : Nat) (m : Mv), ixF p l i = (i : Int) + k ∧ l[k]? = some m ∧ p m = true ∧ (l.take k).filter (fun m => !p m) = l.take k := by
  intro l
  induction l with
  | nil => intro i h; cases h
  | cons x r ih =>
    intro i h
    simp only [ixF]
    cases hq : p x with
    | true => exact ⟨0, x, by simp, rfl, hq, rfl⟩
    | false =>
      obtain ⟨k, m, h1, h2, h3, h4⟩ := ih (i + 1) (by simpa [hq] using h)
      refine ⟨k + 1, m, ?_, by simpa using h2, h3, ?_⟩
      · simp only [Bool.false_eq_true, if_false]; rw [h1]; omega
      · rw [List.take_succ_cons, List.filter_cons, hq, h4]; rfl
section
variable {R cap : Nat} {ex : Bool}
theorem delfn_ok (K : List Mv) (n : Nat) (G : Heap) (hG : G[R]? = some (.cells (flatM K))) (hK : K.length ≤ 16777216) (hn : n ≤ K.length) (hcap : n ≤ cap) :
    ∃ G' K', (G.length ≤ G'.length ∧ ∀ k, k < G.length → k ≠ R → G'[k]? = G[k]?) ∧ G'[R]? = some (.cells (flatM K')) ∧ K'.length = K.length ∧ K'.take ((K.take n).filter fun m => !self m).length = (K.take n).filter (fun m => !self m) ∧
      Ccall tab 9 [.ms R 0 n 2 cap ex, .fn 11 [] []] G = some (.ms R 0 ((K.take n).filter fun m => !self m).length 2 cap ex, G') := by
  have hf := find_ok (cap := cap) (ex := ex) self 11 [] n G hG hn hK (fun m => self_ok G m)
  cases hq : (K.take n).any self with
  | false =>
    have e : (K.take n).filter (fun m => !self m) = K.take n := List.filter_eq_self.2 fun m hm => by
      have := List.any_eq_false.1 hq m hm
      simpa using this
    rw [ixF_no self _ 0 hq] at hf
    refine ⟨G, K, ⟨Nat.le_refl _, fun _ _ _ => rfl⟩, hG, rfl, by rw [e, List.length_take, Nat.min_eq_left hn], ?_⟩
    rw [e, List.length_take, Nat.min_eq_left hn]
    refine Ccall_over rfl rfl rfl rfl ?_
    clear hG hK hn hq e
    repeat (any_goals first | simp (dsimp := false) (maxSteps := 4000000) (maxDischargeDepth := 8) (implicitDefEqProofs := false) [*, -Int.not_le, -Int.not_lt, amLt, f9c, f9m5, f9r0, f9r1, f9r2, f9r3, f9r4, f9r5, f9r6, f9r7, f9r8, f9r9, f9r10, f9r11, f9r12, f9l5_b] | with_reducible refine ch_both (fun _ => ?_) (fun _ => ?_) | with_reducible refine ite_both (fun _ => ?_) (fun _ => ?_) | intro _)
  | true =>
    obtain ⟨k, m, h1, h2, h3, h4⟩ := ixF_spec self _ 0 hq
    rw [h1] at hf
    have hkn : k < n := by
      have := (List.getElem?_eq_some_iff.1 h2).1
      rw [List.length_take] at this; omega
    have hkm : K[k]? = some m := by rw [List.getElem?_take, if_pos hkn] at h2; exact h2
    rw [List.take_take, Nat.min_eq_left (by omega)] at h4
    have htk : K.take (k + 1) = K.take k ++ [m] := by rw [List.take_add_one, hkm]; rfl
    obtain ⟨G1, K1, i1, ⟨x1, x2⟩, g1, g2, g3, g4, g5⟩ := del_loop (cap := cap) (ex := ex) K n hK hn (n - (k + 1)) (k + 1) k K G (by omega) (by omega) rfl (by rw [htk, List.filter_append, h4]; simp [h3]) rfl hG
    have hlen : ((K.take n).filter fun m => !self m).length = i1 := by rw [← g4, List.length_take, Nat.min_eq_left (by omega)]
    have hfill := flatM_fill (K := K1) (i := i1) (n := n - i1) (by omega)
    have hfl := flatM_len K1
    have l1 := (List.getElem?_eq_some_iff.1 g1).1
    refine ⟨G1.set R (.cells (flatM (K1.take i1 ++ (List.replicate (n - i1) (0, 0) ++ K1.drop (i1 + (n - i1)))))), K1.take i1 ++ (List.replicate (n - i1) (0, 0) ++ K1.drop (i1 + (n - i1))), ⟨by rw [List.length_set]; exact x1, fun j hj h => by rw [List.getElem?_set_ne (Ne.symm h)]; exact x2 j hj h⟩, by rw [List.getElem?_set, if_pos rfl, if_pos l1], ?_, ?_, ?_⟩
    · simp only [List.length_append, List.length_take, List.length_replicate, List.length_drop]; omega
    · rw [hlen, ← g4, List.take_append, List.length_take, Nat.min_eq_left (by omega), Nat.sub_self, List.take_zero, List.append_nil, List.take_take, Nat.min_self]
    · rw [hlen]
      have w0 := cw64 k (by omega)
      have e1 : ¬ ((k : Int) = -1) := by omega
      have e2 : ¬ (0 : Int) + k = -1 := by omega
      have e3 : (0 : Int) + k = k := by omega
      have e4 : (i1 : Int) ≤ n := by omega
      have e5 : ¬ n - i1 = 0 := by omega
      have e6 : i1 * 2 + (n - i1) * 2 ≤ K1.length * 2 := by omega
      have e7 : ¬ n ≤ i1 := by omega
      have e8 : i1 ≤ n := by omega
      have e9 : i1 ≤ cap := by omega
      have e10 : (i1 : Int) ≤ cap := by omega
      push_cast at g5
      simp only [Int.natCast_zero, Int.zero_add] at hf
      refine Ccall_over rfl rfl rfl rfl ?_
      generalize flatM (K1.take i1 ++ (List.replicate (n - i1) (0, 0) ++ K1.drop (i1 + (n - i1)))) = FF at *
      generalize hrc : repeatCells (n - i1) [.int .i64 0, .int .i64 0] = RC at *
      generalize flatM K1 = FK at *
      clear hG hK hn hcap hq h1 h2 h3 h4 hkm htk x1 x2 g2 g4 hlen l1
      repeat (any_goals first | simp (dsimp := false) (maxSteps := 4000000) (maxDischargeDepth := 8) (implicitDefEqProofs := false) [*, -Int.not_le, -Int.not_lt, amLt, f9c, f9m5, f9r0, f9r1, f9r2, f9r3, f9r4, f9r5, f9r6, f9r7, f9r8, f9r9, f9r10, f9r11, f9r12, f9l5_b, aslice, obound_some, obound_none, abound_int, stepF_clear] | with_reducible refine ch_both (fun _ => ?_) (fun _ => ?_) | with_reducible refine ite_both (fun _ => ?_) (fun _ => ?_) | intro _)
end
theorem clone_ok (h : Heap) (l : List Mv) (c0 : Cap) (hl : l.length ≤ 16777216) (hne : l ≠ []) : Ccall tab 10 [.is (mvRows l) c0] h = some (.ms (h.length + 1) 0 l.length 2 l.length false, h ++ [.cells [], .cells (flatM l)]) := by
  have hml := mvRows_len l
  have hnil : aeq .slice (.is (mvRows l) c0) (.is [] .nil) = some false := by
    cases l with
    | nil => exact absurd rfl hne
    | cons m r => rfl
  have h0 : ¬ l.length = 0 := fun e => hne (List.eq_nil_of_length_eq_zero e)
  have hsz : ssz 2 (.is (mvRows l) c0) = true := by
    simp only [ssz, rowsz, List.all_eq_true]
    intro r hr
    obtain ⟨m, _, rfl⟩ := List.mem_map.1 hr
    rfl
  have hsc : (mvRows l).flatten.all isSc = true := by
    rw [List.all_flatten, List.all_eq_true]
    intro r hr
    obtain ⟨m, _, rfl⟩ := List.mem_map.1 hr
    rfl
  have hroom : roomy (0 + l.length) 16 = true := by
    simp only [roomy, decide_eq_true_eq]; omega
  have hsl : slen (.is (mvRows l) c0) = some l.length := by simp [slen, hml]
  have hscl : ∀ g, scellsF (.is (mvRows l) c0) g = some (flatM l) := fun g => rfl
  have hsc2 : (flatM l).all isSc = true := hsc
  simp only [Nat.zero_add] at hroom
  refine Ccall_over rfl rfl rfl rfl ?_
  generalize flatM l = FL at *
  generalize mvRows l = X at *
  clear hsc hl hne hml
  repeat (any_goals first | simp (dsimp := false) (maxSteps := 4000000) (maxDischargeDepth := 8) (implicitDefEqProofs := false) [*, -Int.not_le, -Int.not_lt, amLt, f10c, f10r0, f10r1, f10r2, f10r3, app_get, app_get0, app_set, app_set0] | with_reducible refine ch_both (fun _ => ?_) (fun _ => ?_) | with_reducible refine ite_both (fun _ => ?_) (fun _ => ?_) | intro _)

end Go.Proofs.Ytfhijkapcdmdnaa
