/- What a text shares with its beginning. -/
import Derived.Test.YtmpdpjkblcdfkaaDoorTp
import Derived.Test.YtmpdpjkblcdfkaaDoorAmW
namespace Go.Proofs.YtmpdpjkblcdfkaaDoor
open Go.AM
set_option maxRecDepth 20000
set_option maxHeartbeats 4000000
set_option linter.unusedSimpArgs false
set_option linter.unusedVariables false
attribute [local congr] andF_cg onF_cg bthen_cg bkeep_cg bcond_cg guardV_cg putF_cg guardF_cg ite_cg stepsF_cg
attribute [local simp] Brun_skip Brun_exit Brun_ret Brun_seq Brun_cond Brun_block Brun_region bthen_normal bthen_ret bthen_exit bblock_normal bblock_ret bblock_exit bkeep_some andF_some onF_some onF_none guardF_none guardF_some guardV_tup putF_some putF_none stepsF_nil stepsF_cons upd_apply ofL_cons ofL_nil bown_normal bown_ret banswer_normal banswer_ret aresults ares List.replicate stepF_call stepF_callD stepF_move stepF_pick stepF_alloc stepF_allocV stepF_box stepF_boxV stepF_build stepF_buildSlice stepF_buildSliceV stepF_load stepF_store stepF_nilCheck stepF_bin stepF_eq stepF_un stepF_conv stepF_strId stepF_toStr stepF_toBytes stepF_fn stepF_mkSlice stepF_slice stepF_strSlice stepF_fieldAddr stepF_field stepF_idxAddr stepF_idxArr stepF_index stepF_strIndex stepF_extract stepF_len0 stepF_len1 stepF_min stepF_max stepF_append stepF_appendF appF_none appF_row stepF_mkMap stepF_mkIface stepF_lookup stepF_mapUpdate stepF_ext aext_idx aext_count aext_same cellsF newF abin_add abin_sub abin_mul abin_quo abin_rem abin_eql abin_neq abin_lss abin_leq abin_gtr abin_geq abin_and abin_or abin_xor abin_shl abin_shr abin_seql abin_sneq aun_not aun_neg aeq_bool aeq_agg eqCells_nil eqCells_int eqCells_bool eqCells_str cellsOf_agg cellsOf_int cellsOf_bool cellsOf_str cellsOf_is cellsOf_ms cellsOf_fn cellsOf_nilp cellsOf_mp cellsOf_mm cellsOf_nilm cellsOf_nili cellsOf_ifc cellsOf_ip cget_one cget_agg ev_t ev_c fillp_nil fillp_cons isSc_int isSc_bool isSc_str isSc_is isSc_ms isSc_fn isSc_mm isSc_mp isSc_ip isSc_nilp isSc_nilm isSc_nili isSc_nilf isSc_ifc splice chunk strip strip.stripL imm imm.immL Areify_int Areify_bool Areify_str Areify_is Areify_nilp Areify_tup Areify_agg AreifyL andF_chi andF_ch onF_chi onF_ch bthen_ch bthen_chi bblock_ch bblock_chi bkeep_ch bkeep_chi bown_ch bown_chi banswer_ch banswer_chi isSome_ch bcond_ch guardV_ch1 guardV_ch0 chF_true chF_false chF_not
attribute [local simp ↓] andF_some andF_chi andF_ch onF_some onF_none onF_chi onF_ch bthen_normal bthen_ret bthen_exit bthen_ch bthen_chi bblock_normal bblock_ret bblock_exit bblock_ch bblock_chi bkeep_some bkeep_ch bkeep_chi bown_normal bown_ret bown_ch bown_chi banswer_normal banswer_ret banswer_ch banswer_chi bcond_ch guardV_ch1 guardV_ch0 guardV_tup guardF_none guardF_some putF_some putF_none stepsF_nil stepsF_cons chF_true chF_false Brun_seq Brun_cond Brun_block Brun_region Brun_skip Brun_ret Brun_exit stepF_call stepF_callD stepF_move stepF_pick stepF_alloc stepF_allocV stepF_box stepF_boxV stepF_build stepF_buildSlice stepF_buildSliceV stepF_load stepF_store stepF_nilCheck stepF_bin stepF_eq stepF_un stepF_conv stepF_strId stepF_toStr stepF_toBytes stepF_fn stepF_mkSlice stepF_slice stepF_strSlice stepF_fieldAddr stepF_field stepF_idxAddr stepF_idxArr stepF_index stepF_strIndex stepF_extract stepF_len0 stepF_len1 stepF_min stepF_max stepF_append stepF_appendF stepF_mkMap stepF_mkIface stepF_lookup stepF_mapUpdate stepF_ext
set_option maxHeartbeats 1000000
theorem runLen_cons (p : Nat → Bool) (b : UInt8) (t : List UInt8) : runLen p (b :: t) = if p b.toNat = true then runLen p t + 1 else 0 := by
  unfold runLen
  rw [List.takeWhile_cons]
  split <;> simp
theorem runLen_take (p : Nat → Bool) : ∀ (s : List UInt8) (j : Nat), runLen p (s.take j) = min j (runLen p s) := by
  intro s
  induction s with
  | nil => intro j; simp [runLen]
  | cons b t ih =>
    intro j
    cases j with
    | zero => simp [runLen]
    | succ j =>
      rw [List.take_succ_cons, runLen_cons, runLen_cons, ih]
      split <;> omega
theorem take_take_le {s : List UInt8} {n j : Nat} (h : n ≤ j) : (s.take j).take n = s.take n := by rw [List.take_take, Nat.min_eq_left h]
theorem pre_take {p s : List UInt8} {j : Nat} (h : hasPre p (s.take j) = true) : hasPre p s = true := by
  have hl := hasPre_len h
  simp only [List.length_take] at hl
  have h1 : (s.take j).take p.length = p := by simpa [hasPre] using h
  rw [take_take_le (by omega)] at h1
  simpa [hasPre] using h1
theorem pre_take' {p s : List UInt8} {j : Nat} (h : hasPre p s = true) (hj : p.length ≤ j) : hasPre p (s.take j) = true := by
  have h1 : s.take p.length = p := by simpa [hasPre] using h
  simp only [hasPre, take_take_le hj, h1, decide_true]
theorem lineEnd_take : ∀ (s : List UInt8) (j : Nat), lineEnd s ≤ j → lineEnd (s.take j) = lineEnd s := by
  intro s
  induction s with
  | nil => intro j _; simp
  | cons b t ih =>
    intro j h
    unfold lineEnd at h
    cases j with
    | zero =>
      split at h
      · rename_i q; simp [lineEnd, q]
      · omega
    | succ j =>
      rw [List.take_succ_cons]
      unfold lineEnd
      split
      · rfl
      · rename_i q
        rw [if_neg q] at h
        rw [ih j (by omega)]
theorem closeC_take : ∀ (s : List UInt8) (n j : Nat), closeC s = some n → n + 2 ≤ j → closeC (s.take j) = some n := by
  intro s
  induction s with
  | nil => intro n j h; cases h
  | cons b t ih =>
    intro n j h hj
    cases j with
    | zero => omega
    | succ j =>
      unfold closeC at h
      by_cases q : hasPre [42, 47] (b :: t) = true
      · rw [if_pos q] at h
        cases h
        have := pre_take' q (show ([42, 47] : List UInt8).length ≤ j + 1 by simp only [List.length_cons, List.length_nil]; omega)
        rw [List.take_succ_cons] at this ⊢
        unfold closeC
        rw [if_pos this]
      · rw [if_neg q] at h
        obtain ⟨k, hk, rfl⟩ := Option.map_eq_some_iff.1 h
        have hq : ¬ hasPre [42, 47] ((b :: t).take (j + 1)) = true := fun h => q (pre_take h)
        rw [List.take_succ_cons] at hq ⊢
        unfold closeC
        rw [if_neg hq, ih k j hk (by omega)]
        rfl
theorem pre2 {a b : UInt8} {s : List UInt8} (h : hasPre [a, b] s = true) : ∃ t, s = a :: b :: t := by
  have h1 : s.take 2 = [a, b] := by simpa [hasPre] using h
  match s with
  | [] => simp at h1
  | [x] => simp at h1
  | x :: y :: t => simp at h1; exact ⟨t, by rw [h1.1, h1.2]⟩
theorem skip_take : ∀ (f : Nat) (r : List UInt8) (f' j : Nat), r.length < f → (r.take j).length < f' → ((skipR f r).1 = j ∨ ((skipR f r).1 < j ∧ (skipR f r).2 = false)) → skipR f' (r.take j) = ((skipR f r).1, false) := by
  intro f
  induction f with
  | zero => intro r f' j h; omega
  | succ f ih =>
    intro r f' j hf hf' hj
    cases f' with
    | zero => omega
    | succ f' =>
      cases r with
      | nil => simp [skipR]
      | cons b t =>
        have hsk := skip_cons f b t
        have hf1 : t.length < f := by simp only [List.length_cons] at hf; omega
        have hf2 : min j (t.length + 1) < f' + 1 := by simpa using hf'
        clear hf hf'
        by_cases q1 : isBlank b.toNat = true
        · rw [if_pos q1] at hsk
          rw [hsk] at hj ⊢
          dsimp only at hj ⊢
          cases j with
          | zero => omega
          | succ j =>
            rw [List.take_succ_cons]
            rw [skip_cons, if_pos q1, ih t f' j (by omega) (by simp only [List.length_take]; omega) (hj.imp (fun h => by omega) (fun h => ⟨by omega, h.2⟩))]
        · rw [if_neg q1] at hsk
          by_cases q2 : hasPre [47, 47] (b :: t) = true
          · rw [if_pos q2] at hsk
            rw [hsk] at hj ⊢
            dsimp only at hj ⊢
            obtain ⟨u, hu⟩ := pre2 q2
            have hl2 : 2 ≤ lineEnd (b :: t) := by rw [hu]; simp [lineEnd]
            have hll := lineEnd_le (b :: t)
            have hlj : lineEnd (b :: t) ≤ j := by omega
            have hp := pre_take' q2 (show ([47, 47] : List UInt8).length ≤ j by simp only [List.length_cons, List.length_nil]; omega)
            have hle := lineEnd_take (b :: t) j hlj
            obtain ⟨j, rfl⟩ : ∃ i, j = i + 1 := ⟨j - 1, by omega⟩
            simp only [List.length_cons] at hll
            rw [List.take_succ_cons] at hp hle ⊢
            rw [skip_cons, if_neg q1, if_pos hp, hle]
            have hd : (b :: t.take j).drop (lineEnd (b :: t)) = ((b :: t).drop (lineEnd (b :: t))).take (j + 1 - lineEnd (b :: t)) := by
              rw [← List.take_succ_cons, List.drop_take]
            rw [hd]
            have hh := ih ((b :: t).drop (lineEnd (b :: t))) f' (j + 1 - lineEnd (b :: t)) (by simp only [List.length_drop, List.length_cons]; omega) (by
              simp only [List.length_take, List.length_drop, List.length_cons]; omega) (hj.imp (fun h => by omega) (fun h => ⟨by omega, h.2⟩))
            rw [hh]
          · rw [if_neg q2] at hsk
            by_cases q3 : hasPre [47, 42] (b :: t) = true
            · rw [if_pos q3] at hsk
              cases hc : closeC t.tail with
              | none =>
                rw [hc] at hsk
                dsimp only at hsk
                rw [hsk] at hj ⊢
                have hj0 : j = 0 := by
                  rcases hj with hj | hj
                  · exact hj.symm
                  · exact absurd hj.2 (by simp)
                subst hj0
                rfl
              | some n =>
                rw [hc] at hsk
                dsimp only at hsk
                rw [hsk] at hj ⊢
                dsimp only at hj ⊢
                have hroom := closeC_room hc
                simp only [List.length_tail] at hroom
                have hp := pre_take' q3 (show ([47, 42] : List UInt8).length ≤ j by simp only [List.length_cons, List.length_nil]; omega)
                have hp2 : ¬ hasPre [47, 47] ((b :: t).take j) = true := fun h => q2 (pre_take h)
                obtain ⟨j, rfl⟩ : ∃ i, j = i + 1 := ⟨j - 1, by omega⟩
                rw [List.take_succ_cons] at hp hp2 ⊢
                have hct : closeC (t.take j).tail = some n := by
                  have : (t.take j).tail = t.tail.take (j - 1) := by
                    cases t with
                    | nil => simp
                    | cons x u => cases j with
                      | zero => omega
                      | succ j => simp
                  rw [this]
                  exact closeC_take _ _ _ hc (by omega)
                rw [skip_cons, if_neg q1, if_neg hp2, if_pos hp, hct]
                dsimp only
                have hd : (b :: t.take j).drop (n + 4) = ((b :: t).drop (n + 4)).take (j + 1 - (n + 4)) := by
                  rw [← List.take_succ_cons, List.drop_take]
                rw [hd]
                have hh := ih ((b :: t).drop (n + 4)) f' (j + 1 - (n + 4)) (by simp only [List.length_drop, List.length_cons]; omega) (by
                  simp only [List.length_take, List.length_drop, List.length_cons]; omega) (hj.imp (fun h => by omega) (fun h => ⟨by omega, h.2⟩))
                rw [hh]
            · rw [if_neg q3] at hsk
              rw [hsk] at hj ⊢
              cases j with
              | zero => rfl
              | succ j =>
                have hp2 : ¬ hasPre [47, 47] ((b :: t).take (j + 1)) = true := fun h => q2 (pre_take h)
                have hp3 : ¬ hasPre [47, 42] ((b :: t).take (j + 1)) = true := fun h => q3 (pre_take h)
                rw [List.take_succ_cons] at hp2 hp3 ⊢
                rw [skip_cons, if_neg q1, if_neg hp2, if_neg hp3]

end Go.Proofs.YtmpdpjkblcdfkaaDoor
