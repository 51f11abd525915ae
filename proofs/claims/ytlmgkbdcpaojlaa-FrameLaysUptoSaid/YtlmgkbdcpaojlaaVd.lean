/- Chapter 23: FrameLays's functions walked. -/
import Derived.Test.YtlmgkbdcpaojlaaVc
import Derived.Test.YtlmgkbdcpaojlaaAmW
namespace Go.Proofs.Ytlmgkbdcpaojlaa
open Go.AM
set_option maxRecDepth 20000
set_option maxHeartbeats 4000000
set_option linter.unusedSimpArgs false
set_option linter.unusedVariables false
attribute [local congr] andF_cg onF_cg bthen_cg bkeep_cg bcond_cg guardV_cg putF_cg guardF_cg ite_cg stepsF_cg
attribute [local simp] Brun_skip Brun_exit Brun_ret Brun_seq Brun_cond Brun_block Brun_region bthen_normal bthen_ret bthen_exit bblock_normal bblock_ret bblock_exit bkeep_some andF_some onF_some onF_none guardF_none guardF_some guardV_tup putF_some putF_none stepsF_nil stepsF_cons upd_apply ofL_cons ofL_nil bown_normal bown_ret banswer_normal banswer_ret aresults ares List.replicate stepF_call stepF_callD stepF_move stepF_pick stepF_alloc stepF_allocV stepF_box stepF_boxV stepF_build stepF_buildSlice stepF_buildSliceV stepF_load stepF_store stepF_nilCheck stepF_bin stepF_eq stepF_un stepF_conv stepF_strId stepF_toStr stepF_toBytes stepF_fn stepF_mkSlice stepF_slice stepF_strSlice stepF_fieldAddr stepF_field stepF_idxAddr stepF_idxArr stepF_index stepF_strIndex stepF_extract stepF_len0 stepF_len1 stepF_min stepF_max stepF_append stepF_appendF appF_none appF_row stepF_mkMap stepF_mkIface stepF_lookup stepF_mapUpdate cellsF newF abin_add abin_sub abin_mul abin_quo abin_rem abin_eql abin_neq abin_lss abin_leq abin_gtr abin_geq abin_and abin_or abin_xor abin_shl abin_shr abin_seql abin_sneq aun_not aun_neg aeq_bool aeq_agg eqCells_nil eqCells_int eqCells_bool eqCells_str cellsOf_agg cellsOf_int cellsOf_bool cellsOf_str cellsOf_is cellsOf_ms cellsOf_fn cellsOf_nilp cellsOf_mp cellsOf_mm cellsOf_nilm cellsOf_nili cellsOf_ifc cellsOf_ip cget_one cget_agg ev_t ev_c fillp_nil fillp_cons isSc_int isSc_bool isSc_str isSc_is isSc_ms isSc_fn isSc_mm isSc_mp isSc_ip isSc_nilp isSc_nilm isSc_nili isSc_nilf isSc_ifc splice chunk strip strip.stripL imm imm.immL Areify_int Areify_bool Areify_str Areify_is Areify_nilp Areify_tup Areify_agg AreifyL andF_chi andF_ch onF_chi onF_ch bthen_ch bthen_chi bblock_ch bblock_chi bkeep_ch bkeep_chi bown_ch bown_chi banswer_ch banswer_chi isSome_ch bcond_ch guardV_ch1 guardV_ch0 chF_true chF_false chF_not
attribute [local simp ↓] andF_some andF_chi andF_ch onF_some onF_none onF_chi onF_ch bthen_normal bthen_ret bthen_exit bthen_ch bthen_chi bblock_normal bblock_ret bblock_exit bblock_ch bblock_chi bkeep_some bkeep_ch bkeep_chi bown_normal bown_ret bown_ch bown_chi banswer_normal banswer_ret banswer_ch banswer_chi bcond_ch guardV_ch1 guardV_ch0 guardV_tup guardF_none guardF_some putF_some putF_none stepsF_nil stepsF_cons chF_true chF_false Brun_seq Brun_cond Brun_block Brun_region Brun_skip Brun_ret Brun_exit stepF_call stepF_callD stepF_move stepF_pick stepF_alloc stepF_allocV stepF_box stepF_boxV stepF_build stepF_buildSlice stepF_buildSliceV stepF_load stepF_store stepF_nilCheck stepF_bin stepF_eq stepF_un stepF_conv stepF_strId stepF_toStr stepF_toBytes stepF_fn stepF_mkSlice stepF_slice stepF_strSlice stepF_fieldAddr stepF_field stepF_idxAddr stepF_idxArr stepF_index stepF_strIndex stepF_extract stepF_len0 stepF_len1 stepF_min stepF_max stepF_append stepF_appendF stepF_mkMap stepF_mkIface stepF_lookup stepF_mapUpdate
theorem fl_body (e1 : AV) (sl : List (Int × Int)) (R : Blk) (i : Nat) (l : List Int) (n sz al : Int) (cap : Cap) (t t2 : Heap) (hs : sl.length ≤ 256) (hi1 : i < sl.length)
    (hget : (pairs sl)[i]? = some [.int .i64 sz, .int .i64 al]) (hf : fitsB (sz, al) = true)
    (hr : Brun tab 65 (.region true f7r11 [1, 2, 4, 5, 6, 26, 27, 28] 1) (ofL [(1, e1), (2, .mp 0 0), (4, .mp 1 0), (5, .mp 2 0), (6, .fn 15 [] [.mp 2 0]), (8, .mp (t.length + 3) 0), (26, .is (pairs sl) .no), (27, .int .i64 sl.length), (28, .int .i64 i), (34, .bool false)])
      (R :: .cells [.is (ints l) cap, .int .i64 0, .int .i64 0, .int .i64 0] :: .cells [.int .i64 n] :: (t ++ [.cells [.int .i64 sz, .int .i64 al]])) =
    some (.normal, ofL [(1, e1), (2, .mp 0 0), (4, .mp 1 0), (5, .mp 2 0), (6, .fn 15 [] [.mp 2 0]), (26, .is (pairs sl) .no), (27, .int .i64 sl.length), (28, .int .i64 i)],
      R :: .cells [.is (ints (l ++ [upI n al])) (.tok (t.length + 4) 1), .int .i64 0, .int .i64 0, .int .i64 0] :: .cells [.int .i64 (upI n al + sz)] :: t2)) :
    Brun tab 65 f7l7 (ofL [(1, e1), (2, .mp 0 0), (4, .mp 1 0), (5, .mp 2 0), (6, .fn 15 [] [.mp 2 0]), (26, .is (pairs sl) .no), (27, .int .i64 sl.length), (28, .int .i64 i)])
      (R :: .cells [.is (ints l) cap, .int .i64 0, .int .i64 0, .int .i64 0] :: .cells [.int .i64 n] :: t) =
    some (.normal, ofL [(1, e1), (2, .mp 0 0), (4, .mp 1 0), (5, .mp 2 0), (6, .fn 15 [] [.mp 2 0]), (26, .is (pairs sl) .no), (27, .int .i64 sl.length), (28, .int .i64 (i + 1))],
      R :: .cells [.is (ints (l ++ [upI n al])) (.tok (t.length + 4) 1), .int .i64 0, .int .i64 0, .int .i64 0] :: .cells [.int .i64 (upI n al + sz)] :: t2) := by
  have e3 : ¬ (sl.length : Int) ≤ i := by omega
  have hw : IntKind.i64.wrap (i + 1) = (i : Int) + 1 := wrap_in (by omega)
  have hi2 : i < (pairs sl).length := by rw [pairs_len]; exact hi1
  have hg : (pairs sl)[i] = [.int .i64 sz, .int .i64 al] := by rw [List.getElem?_eq_getElem hi2] at hget; exact Option.some.inj hget
  have hft := fun h => fits_ok h sz al
  rw [hf] at hft
  clear hs hget hf
  repeat (any_goals first | simp (dsimp := false) (maxSteps := 4000000) (maxDischargeDepth := 8) (implicitDefEqProofs := false) [*, -Int.not_le, -Int.not_lt, amLt, f7c, f7m7, f7r0, f7r1, f7r2, f7r3, f7r4, f7r5, f7r6, f7r7, f7r8, f7r9, f7r10, f7r12, f7r13, f7r14, f7r15, f7r16, f7r17, f7r18, f7l7_b, pairs_len, app_get, app_get0, app_set, app_set0] | with_reducible refine ch_both (fun _ => ?_) (fun _ => ?_) | with_reducible refine ite_both (fun _ => ?_) (fun _ => ?_) | intro _)
theorem fl_bodyN (e1 X : AV) (sl : List (Int × Int)) (i : Nat) (n sz al : Int) (t : Heap) (hi1 : i < sl.length)
    (hget : (pairs sl)[i]? = some [.int .i64 sz, .int .i64 al]) (hf : fitsB (sz, al) = false) :
    Brun tab 65 f7l7 (ofL [(1, e1), (2, .mp 0 0), (4, .mp 1 0), (5, .mp 2 0), (6, .fn 15 [] [.mp 2 0]), (26, .is (pairs sl) .no), (27, .int .i64 sl.length), (28, .int .i64 i)])
      (.cells [.is [] .nil, .int .i64 0, .int .i64 0, .int .i64 0] :: .cells [X, .int .i64 0, .int .i64 0, .int .i64 0] :: .cells [.int .i64 n] :: t) =
    some (.ret, ofL [(2, .mp 0 0), (3, .int .i64 250)],
      .cells [.is [] .nil, .int .i64 0, .int .i64 0, .int .i64 0] :: .cells [X, .int .i64 0, .int .i64 0, .int .i64 0] :: .cells [.int .i64 n] :: (t ++ [.cells [.int .i64 sz, .int .i64 al]])) := by
  have e3 : ¬ (sl.length : Int) ≤ i := by omega
  have hi2 : i < (pairs sl).length := by rw [pairs_len]; exact hi1
  have hg : (pairs sl)[i] = [.int .i64 sz, .int .i64 al] := by rw [List.getElem?_eq_getElem hi2] at hget; exact Option.some.inj hget
  have hft := fun h => fits_ok h sz al
  rw [hf] at hft
  clear hget hf
  repeat (any_goals first | simp (dsimp := false) (maxSteps := 4000000) (maxDischargeDepth := 8) (implicitDefEqProofs := false) [*, -Int.not_le, -Int.not_lt, amLt, f7c, f7m7, f7r0, f7r1, f7r2, f7r3, f7r4, f7r5, f7r6, f7r7, f7r8, f7r9, f7r10, f7r12, f7r13, f7r14, f7r15, f7r16, f7r17, f7r18, f7l7_b, pairs_len, app_get, app_get0, app_set, app_set0] | with_reducible refine ch_both (fun _ => ?_) (fun _ => ?_) | with_reducible refine ite_both (fun _ => ?_) (fun _ => ?_) | intro _)
/-- The row so far, and the room behind it. -/
def LC (l : List Int) (cap : Cap) (t : Heap) : Prop := (l = [] ∧ cap = .nil) ∨ ∃ j, cap = .tok (j + 3) 1 ∧ t[j]? = some .tok
theorem fl_loop (e1 : AV) (sl : List (Int × Int)) (R : Blk) (hs : sl.length ≤ 256) : ∀ (m i : Nat) (l : List Int) (n : Int) (cap : Cap) (t : Heap), i + m = sl.length → l.length = i → 0 ≤ n → n ≤ i * 16400 → LC l cap t →
    match lay (sl.drop i) n with
      | some (l', n') => ∃ cap' t', Brun tab 65 (.loop f7l7) (ofL [(1, e1), (2, .mp 0 0), (4, .mp 1 0), (5, .mp 2 0), (6, .fn 15 [] [.mp 2 0]), (26, .is (pairs sl) .no), (27, .int .i64 sl.length), (28, .int .i64 i)])
          (R :: .cells [.is (ints l) cap, .int .i64 0, .int .i64 0, .int .i64 0] :: .cells [.int .i64 n] :: t) =
        some (.exit 0, ofL [(1, e1), (2, .mp 0 0), (4, .mp 1 0), (5, .mp 2 0), (6, .fn 15 [] [.mp 2 0]), (26, .is (pairs sl) .no), (27, .int .i64 sl.length), (28, .int .i64 sl.length), (29, .bool false)],
          R :: .cells [.is (ints (l ++ l')) cap', .int .i64 0, .int .i64 0, .int .i64 0] :: .cells [.int .i64 n'] :: t')
      | none => R = .cells [.is [] .nil, .int .i64 0, .int .i64 0, .int .i64 0] → ∃ y t', Brun tab 65 (.loop f7l7) (ofL [(1, e1), (2, .mp 0 0), (4, .mp 1 0), (5, .mp 2 0), (6, .fn 15 [] [.mp 2 0]), (26, .is (pairs sl) .no), (27, .int .i64 sl.length), (28, .int .i64 i)])
          (R :: .cells [.is (ints l) cap, .int .i64 0, .int .i64 0, .int .i64 0] :: .cells [.int .i64 n] :: t) =
        some (.ret, ofL [(2, .mp 0 0), (3, .int .i64 250)], .cells [.is [] .nil, .int .i64 0, .int .i64 0, .int .i64 0] :: y :: t') := by
  intro m
  induction m with
  | zero =>
    intro i l n cap t hi hl h0 h1 hc
    rw [List.drop_eq_nil_of_le (by omega)]
    simp only [lay, List.append_nil]
    refine ⟨cap, t, ?_⟩
    have e3 : (sl.length : Int) = i := by omega
    clear hi h0 h1 hs hl
    rw [Brun_loop]
    repeat (any_goals first | simp (dsimp := false) (maxSteps := 4000000) (maxDischargeDepth := 8) (implicitDefEqProofs := false) [*, -Int.not_le, -Int.not_lt, amLt, f7c, f7m7, f7r0, f7r1, f7r2, f7r3, f7r4, f7r5, f7r6, f7r7, f7r8, f7r9, f7r10, f7r12, f7r13, f7r14, f7r15, f7r16, f7r17, f7r18, f7l7_b, pairs_len] | with_reducible refine ch_both (fun _ => ?_) (fun _ => ?_) | with_reducible refine ite_both (fun _ => ?_) (fun _ => ?_) | intro _)
  | succ m ih =>
    intro i l n cap t hi hl h0 h1 hc
    have hi1 : i < sl.length := by omega
    rw [List.drop_eq_getElem_cons hi1]
    have hget : (pairs sl)[i]? = some [.int .i64 sl[i].1, .int .i64 sl[i].2] := by simp [pairs, hi1]
    generalize hx : sl[i] = x at *
    obtain ⟨sz, al⟩ := x
    dsimp only at hget
    simp only [lay]
    by_cases hf : fitsB (sz, al) = true
    · rw [if_pos hf]
      have hf2 := hf
      simp only [fitsB, Bool.and_eq_true, decide_eq_true_eq] at hf2
      have hu := upI_in (n := n) (a := al) h0 (by omega)
      have hbody : ∃ t2, (∃ j, t.length + 4 = j + 3 ∧ t2[j]? = some .tok) ∧ Brun tab 65 f7l7 (ofL [(1, e1), (2, .mp 0 0), (4, .mp 1 0), (5, .mp 2 0), (6, .fn 15 [] [.mp 2 0]), (26, .is (pairs sl) .no), (27, .int .i64 sl.length), (28, .int .i64 i)])
          (R :: .cells [.is (ints l) cap, .int .i64 0, .int .i64 0, .int .i64 0] :: .cells [.int .i64 n] :: t) =
        some (.normal, ofL [(1, e1), (2, .mp 0 0), (4, .mp 1 0), (5, .mp 2 0), (6, .fn 15 [] [.mp 2 0]), (26, .is (pairs sl) .no), (27, .int .i64 sl.length), (28, .int .i64 (i + 1))],
          R :: .cells [.is (ints (l ++ [upI n al])) (.tok (t.length + 4) 1), .int .i64 0, .int .i64 0, .int .i64 0] :: .cells [.int .i64 (upI n al + sz)] :: t2) := by
        rcases hc with ⟨rfl, rfl⟩ | ⟨j, rfl, hj⟩
        · refine ⟨t ++ [.cells [.int .i64 sz, .int .i64 al], .tok], ⟨t.length + 1, by omega, by rw [app_get rfl]; rfl⟩, ?_⟩
          exact fl_body e1 sl R i [] n sz al .nil t _ hs hi1 hget hf (r11_nil e1 _ _ _ R n sz al t (by omega) (by omega) (by omega))
        · refine ⟨t.set j .dead ++ [.cells [.int .i64 sz, .int .i64 al], .tok], ⟨t.length + 1, by omega, by rw [app_get (by simp)]; rfl⟩, ?_⟩
          exact fl_body e1 sl R i l n sz al (.tok (j + 3) 1) t _ hs hi1 hget hf (r11_tok e1 _ _ _ R n sz al t l j hj (by omega) (by omega) (by omega) (by omega))
      obtain ⟨t2, ⟨j, hj, ht2⟩, hbody⟩ := hbody
      have ih2 := ih (i + 1) (l ++ [upI n al]) (upI n al + sz) (.tok (t.length + 4) 1) t2 (by omega) (by simp [hl]) (by omega) (by push_cast; omega) (.inr ⟨j, by rw [hj], ht2⟩)
      push_cast at ih2
      rw [Brun_loop, hbody, bthen_normal]
      cases hl2 : lay (sl.drop (i + 1)) (upI n al + sz) with
      | none =>
        rw [hl2] at ih2
        exact ih2
      | some r =>
        obtain ⟨l', n'⟩ := r
        rw [hl2] at ih2
        dsimp only at ih2 ⊢
        rw [List.append_assoc] at ih2
        exact ih2
    · rw [if_neg hf]
      intro hR
      subst hR
      exact ⟨_, _, by rw [Brun_loop, fl_bodyN e1 _ sl i n sz al t hi1 hget (by simpa using hf)]; rfl⟩

end Go.Proofs.Ytlmgkbdcpaojlaa
