/- Moves in memory: those that stay. -/
import Derived.Test.YtfhijkapcdmdnaaMc
import Derived.Test.YtfhijkapcdmdnaaAmW
namespace Go.Proofs.Ytfhijkapcdmdnaa
open Go.AM
set_option maxRecDepth 20000
set_option maxHeartbeats 4000000
set_option linter.unusedSimpArgs false
set_option linter.unusedVariables false
attribute [local congr] andF_cg onF_cg bthen_cg bkeep_cg bcond_cg guardV_cg putF_cg guardF_cg ite_cg stepsF_cg
attribute [local simp] Brun_skip Brun_exit Brun_ret Brun_seq Brun_cond Brun_block Brun_region bthen_normal bthen_ret bthen_exit bblock_normal bblock_ret bblock_exit bkeep_some andF_some onF_some onF_none guardF_none guardF_some guardV_tup putF_some putF_none stepsF_nil stepsF_cons upd_apply ofL_cons ofL_nil bown_normal bown_ret banswer_normal banswer_ret aresults ares List.replicate stepF_call stepF_callD stepF_move stepF_pick stepF_alloc stepF_allocV stepF_box stepF_boxV stepF_build stepF_buildSlice stepF_buildSliceV stepF_load stepF_store stepF_nilCheck stepF_bin stepF_eq stepF_un stepF_conv stepF_strId strIdV_str strIdV_int stepF_toStr stepF_toBytes stepF_fn stepF_mkSlice stepF_slice stepF_strSlice stepF_fieldAddr stepF_field stepF_idxAddr stepF_idxArr stepF_index stepF_strIndex stepF_extract stepF_len0 stepF_len1 stepF_min stepF_max stepF_append stepF_appendF appF_none appF_row stepF_mkMap stepF_mkIface stepF_lookup stepF_mapUpdate stepF_ext aext_idx aext_count aext_same cellsF newF abin_add abin_sub abin_mul abin_quo abin_rem abin_eql abin_neq abin_lss abin_leq abin_gtr abin_geq abin_and abin_or abin_xor abin_shl abin_shr abin_seql abin_sneq aun_not aun_neg aeq_bool aeq_agg eqCells_nil eqCells_int eqCells_bool eqCells_str cellsOf_agg cellsOf_int cellsOf_bool cellsOf_str cellsOf_is cellsOf_ms cellsOf_fn cellsOf_nilp cellsOf_mp cellsOf_mm cellsOf_nilm cellsOf_nili cellsOf_ifc cellsOf_ip cget_one cget_agg ev_t ev_c fillp_nil fillp_cons isSc_int isSc_bool isSc_str isSc_is isSc_ms isSc_fn isSc_mm isSc_mp isSc_ip isSc_nilp isSc_nilm isSc_nili isSc_nilf isSc_ifc splice chunk strip strip.stripL imm imm.immL Areify_int Areify_bool Areify_str Areify_is Areify_nilp Areify_tup Areify_agg AreifyL andF_chi andF_ch onF_chi onF_ch bthen_ch bthen_chi bblock_ch bblock_chi bkeep_ch bkeep_chi bown_ch bown_chi banswer_ch banswer_chi isSome_ch bcond_ch guardV_ch1 guardV_ch0 chF_true chF_false chF_not
attribute [local simp ↓] andF_some andF_chi andF_ch onF_some onF_none onF_chi onF_ch bthen_normal bthen_ret bthen_exit bthen_ch bthen_chi bblock_normal bblock_ret bblock_exit bblock_ch bblock_chi bkeep_some bkeep_ch bkeep_chi bown_normal bown_ret bown_ch bown_chi banswer_normal banswer_ret banswer_ch banswer_chi bcond_ch guardV_ch1 guardV_ch0 guardV_tup guardF_none guardF_some putF_some putF_none stepsF_nil stepsF_cons chF_true chF_false Brun_seq Brun_cond Brun_block Brun_region Brun_skip Brun_ret Brun_exit stepF_call stepF_callD stepF_move stepF_pick stepF_alloc stepF_allocV stepF_box stepF_boxV stepF_build stepF_buildSlice stepF_buildSliceV stepF_load stepF_store stepF_nilCheck stepF_bin stepF_eq stepF_un stepF_conv stepF_strId stepF_toStr stepF_toBytes stepF_fn stepF_mkSlice stepF_slice stepF_strSlice stepF_fieldAddr stepF_field stepF_idxAddr stepF_idxArr stepF_index stepF_strIndex stepF_extract stepF_len0 stepF_len1 stepF_min stepF_max stepF_append stepF_appendF stepF_mkMap stepF_mkIface stepF_lookup stepF_mapUpdate stepF_ext
set_option maxHeartbeats 4000000
/-! Moves in memory: those that stay. -/
theorem flatM_set {K : List Mv} {i : Nat} (h : i < K.length) (m : Mv) : (flatM K).take (i * 2) ++ .int .i64 m.1 :: .int .i64 m.2 :: (flatM K).drop (i * 2 + 2) = flatM (K.set i m) := by
  rw [flatM_take, show i * 2 + 2 = (i + 1) * 2 by omega, flatM_drop, List.set_eq_take_append_cons_drop, if_pos h, flatM_app, flatM_cons]
  rfl
theorem flatM_rep (n : Nat) : repeatCells n [.int .i64 0, .int .i64 0] = flatM (List.replicate n (0, 0)) := by
  unfold repeatCells flatM mvRows
  rw [List.map_replicate]
  rfl
theorem flatM_fill {K : List Mv} {i n : Nat} (h : i + n ≤ K.length) : (flatM K).take (i * 2) ++ (repeatCells n [.int .i64 0, .int .i64 0] ++ (flatM K).drop (i * 2 + (repeatCells n [.int .i64 0, .int .i64 0]).length)) = flatM (K.take i ++ (List.replicate n (0, 0) ++ K.drop (i + n))) := by
  rw [flatM_rep, flatM_len, List.length_replicate, flatM_take, show i * 2 + n * 2 = (i + n) * 2 by omega, flatM_drop, flatM_app, flatM_app]
def self (m : Mv) : Bool := decide (m.1 = m.2)
section
variable {R cap : Nat} {ex : Bool}
theorem del_step (K : List Mv) (n i j : Nat) (m : Mv) (G : Heap) (hG : G[R]? = some (.cells (flatM K))) (hK : K.length ≤ 16777216) (hn : n ≤ K.length) (hj : j < n) (hij : i < j) (hm : K[j]? = some m) :
    ∃ G', (G.length ≤ G'.length ∧ ∀ k, k < G.length → k ≠ R → G'[k]? = G[k]?) ∧ G'[R]? = some (.cells (flatM (if self m = true then K else K.set i m))) ∧
      Brun tab 42 f9l5 (ofL [(0, .ms R 0 n 2 cap ex), (1, .fn 11 [] []), (5, .int .i64 i), (6, .int .i64 j)]) G = some (.normal, ofL [(0, .ms R 0 n 2 cap ex), (1, .fn 11 [] []), (5, .int .i64 (if self m = true then (i : Int) else i + 1)), (6, .int .i64 (j + 1))], G') := by
  have lR := (List.getElem?_eq_some_iff.1 hG).1
  have hGx := fun x => rapp hG x
  have hat := flatM_at hm
  have hfl := flatM_len K
  have hle : j * 2 + 2 ≤ (flatM K).length := by omega
  have hle2 : i * 2 + 2 ≤ (flatM K).length := by omega
  have h1 : (j : Int) < n := by omega
  have e3 : ¬ (n : Int) ≤ j := by omega
  have h2 : (i : Int) < n := by omega
  have hw := cw64 j (by omega)
  have hw2 := cw64 i (by omega)
  have hs := fun h => self_ok h m
  have hset := flatM_set (K := K) (i := i) (by omega) m
  unfold self
  by_cases c : m.1 = m.2
  · rw [if_pos (by simpa using c), if_pos (by simpa using c)]
    rw [show decide (m.1 = m.2) = true by simpa using c] at hs
    refine ⟨G ++ [.cells (mvRow m)], ⟨by simp, fun k hk _ => List.getElem?_append_left hk⟩, hGx _, ?_⟩
    unfold mvRow at *
    generalize flatM (K.set i m) = FS at *
    generalize flatM K = FK at *
    clear hG hK hn hj hij hm lR hfl hset hle2 c
    repeat (any_goals first | simp (dsimp := false) (maxSteps := 4000000) (maxDischargeDepth := 8) (implicitDefEqProofs := false) [*, -Int.not_le, -Int.not_lt, amLt, f9c, f9m5, f9r0, f9r1, f9r2, f9r3, f9r4, f9r5, f9r6, f9r7, f9r8, f9r9, f9r10, f9r11, f9r12, f9l5_b, app_get, app_get0, app_set, app_set0] | with_reducible refine ch_both (fun _ => ?_) (fun _ => ?_) | with_reducible refine ite_both (fun _ => ?_) (fun _ => ?_) | intro _)
  · rw [if_neg (by simpa using c), if_neg (by simpa using c)]
    rw [show decide (m.1 = m.2) = false by simpa using c] at hs
    refine ⟨List.set (G ++ [Blk.cells (mvRow m)]) R (.cells (flatM (K.set i m))), ⟨by simp, fun k hk h => ?_⟩, by rw [List.getElem?_set, if_pos rfl, if_pos (by simp; omega)], ?_⟩
    · rw [List.getElem?_set_ne (Ne.symm h), List.getElem?_append_left hk]
    · unfold mvRow at *
      generalize flatM (K.set i m) = FS at *
      generalize flatM K = FK at *
      clear hG hK hn hj hij hm lR hfl c
      repeat (any_goals first | simp (dsimp := false) (maxSteps := 4000000) (maxDischargeDepth := 8) (implicitDefEqProofs := false) [*, -Int.not_le, -Int.not_lt, amLt, f9c, f9m5, f9r0, f9r1, f9r2, f9r3, f9r4, f9r5, f9r6, f9r7, f9r8, f9r9, f9r10, f9r11, f9r12, f9l5_b, app_get, app_get0, app_set, app_set0] | with_reducible refine ch_both (fun _ => ?_) (fun _ => ?_) | with_reducible refine ite_both (fun _ => ?_) (fun _ => ?_) | intro _)
theorem del_loop (K0 : List Mv) (n : Nat) (hK : K0.length ≤ 16777216) (hn : n ≤ K0.length) : ∀ (c j i : Nat) (K : List Mv) (G : Heap), j + c = n → i < j → K.length = K0.length → K.take i = (K0.take j).filter (fun m => !self m) → K.drop j = K0.drop j → G[R]? = some (.cells (flatM K)) →
    ∃ G' K' i', (G.length ≤ G'.length ∧ ∀ k, k < G.length → k ≠ R → G'[k]? = G[k]?) ∧ G'[R]? = some (.cells (flatM K')) ∧ K'.length = K0.length ∧ i' < n ∧ K'.take i' = (K0.take n).filter (fun m => !self m) ∧
      Brun tab 42 (.loop f9l5) (ofL [(0, .ms R 0 n 2 cap ex), (1, .fn 11 [] []), (5, .int .i64 i), (6, .int .i64 j)]) G = some (.exit 0, ofL [(0, .ms R 0 n 2 cap ex), (1, .fn 11 [] []), (5, .int .i64 i'), (6, .int .i64 n), (19, .bool false)], G') := by
  intro c
  induction c with
  | zero =>
    intro j i K G hc hij hKl ht hd hG
    have e : j = n := by omega
    refine ⟨G, K, i, ⟨Nat.le_refl _, fun _ _ _ => rfl⟩, hG, hKl, by omega, by rw [ht, e], ?_⟩
    have e2 : (n : Int) = j := by omega
    rw [Brun_loop]
    clear hG hK hn hc hij hKl ht hd e
    repeat (any_goals first | simp (dsimp := false) (maxSteps := 4000000) (maxDischargeDepth := 8) (implicitDefEqProofs := false) [*, -Int.not_le, -Int.not_lt, amLt, f9c, f9m5, f9r0, f9r1, f9r2, f9r3, f9r4, f9r5, f9r6, f9r7, f9r8, f9r9, f9r10, f9r11, f9r12, f9l5_b] | with_reducible refine ch_both (fun _ => ?_) (fun _ => ?_) | with_reducible refine ite_both (fun _ => ?_) (fun _ => ?_) | intro _)
  | succ c ih =>
    intro j i K G hc hij hKl ht hd hG
    have hj : j < K0.length := by omega
    have hm0 : K0[j]? = some K0[j] := List.getElem?_eq_getElem hj
    have hm : K[j]? = some K0[j] := by
      have := congrArg (·[0]?) hd
      simp only [List.getElem?_drop, Nat.add_zero] at this
      rw [this]; exact hm0
    obtain ⟨G1, ⟨x1, x2⟩, g1, b1⟩ := del_step (cap := cap) (ex := ex) K n i j K0[j] G hG (by omega) (by omega) (by omega) hij hm
    have hd1 : K.drop (j + 1) = K0.drop (j + 1) := by rw [← List.drop_drop, hd, List.drop_drop]
    have htk : K0.take (j + 1) = K0.take j ++ [K0[j]] := by rw [List.take_add_one, hm0]; rfl
    by_cases cs : self K0[j] = true
    · rw [if_pos cs] at g1 b1
      obtain ⟨G2, K2, i2, ⟨y1, y2⟩, y3, y4, y5, y6, y7⟩ := ih (j + 1) i K G1 (by omega) (by omega) hKl (by rw [ht, htk, List.filter_append]; simp [cs]) hd1 g1
      refine ⟨G2, K2, i2, ⟨by omega, fun k hk h => by rw [y2 k (by omega) h, x2 k hk h]⟩, y3, y4, y5, y6, ?_⟩
      push_cast at y7
      rw [Brun_loop, b1, bthen_normal]
      exact y7
    · rw [if_neg cs] at g1 b1
      have hil : i < K.length := by omega
      obtain ⟨G2, K2, i2, ⟨y1, y2⟩, y3, y4, y5, y6, y7⟩ := ih (j + 1) (i + 1) (K.set i K0[j]) G1 (by omega) (by omega) (by rw [List.length_set]; exact hKl) (by
        rw [htk, List.filter_append, ← ht, List.take_add_one, List.getElem?_set, if_pos rfl, if_pos hil, List.take_set_of_le (Nat.le_refl i)]
        simp [cs]) (by rw [List.drop_set_of_lt (by omega)]; exact hd1) g1
      refine ⟨G2, K2, i2, ⟨by omega, fun k hk h => by rw [y2 k (by omega) h, x2 k hk h]⟩, y3, y4, y5, y6, ?_⟩
      push_cast at y7
      rw [Brun_loop, b1, bthen_normal]
      exact y7
end

end Go.Proofs.Ytfhijkapcdmdnaa
