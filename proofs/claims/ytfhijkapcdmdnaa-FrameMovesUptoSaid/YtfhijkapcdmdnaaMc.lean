/- Moves in memory: found. -/
import Derived.Test.YtfhijkapcdmdnaaMb
import Derived.Test.YtfhijkapcdmdnaaAmW
namespace Go.Proofs.Ytfhijkapcdmdnaa
open Go.AM
set_option maxRecDepth 20000
set_option maxHeartbeats 4000000
set_option linter.unusedSimpArgs false
set_option linter.unusedVariables false
attribute [local congr] andF_cg onF_cg bthen_cg bkeep_cg bcond_cg guardV_cg putF_cg guardF_cg ite_cg stepsF_cg
attribute [local simp] Brun_skip Brun_exit Brun_ret Brun_seq Brun_cond Brun_block Brun_region bthen_normal bthen_ret bthen_exit bblock_normal bblock_ret bblock_exit bkeep_some andF_some onF_some onF_none guardF_none guardF_some guardV_tup putF_some putF_none stepsF_nil stepsF_cons upd_apply ofL_cons ofL_nil bown_normal bown_ret banswer_normal banswer_ret aresults ares List.replicate stepF_call stepF_callD stepF_move stepF_pick stepF_alloc stepF_allocV stepF_box stepF_boxV stepF_build stepF_buildSlice stepF_buildSliceV stepF_load stepF_store stepF_nilCheck stepF_bin stepF_eq stepF_un stepF_conv stepF_strId strIdV_str strIdV_int stepF_toStr stepF_toBytes stepF_fn stepF_mkSlice stepF_slice stepF_strSlice stepF_fieldAddr stepF_field stepF_idxAddr stepF_idxArr stepF_index stepF_strIndex stepF_extract stepF_len0 stepF_len1 stepF_min stepF_max stepF_append stepF_appendF appF_none appF_row stepF_mkMap stepF_mkIface stepF_lookup stepF_mapUpdate stepF_ext aext_idx aext_count aext_same cellsF newF abin_add abin_sub abin_mul abin_quo abin_rem abin_eql abin_neq abin_lss abin_leq abin_gtr abin_geq abin_and abin_or abin_xor abin_shl abin_shr abin_seql abin_sneq aun_not aun_neg aeq_bool aeq_agg eqCells_nil eqCells_int eqCells_bool eqCells_str cellsOf_agg cellsOf_int cellsOf_bool cellsOf_str cellsOf_is cellsOf_ms cellsOf_fn cellsOf_nilp cellsOf_mp cellsOf_mm cellsOf_nilm cellsOf_nili cellsOf_ifc cellsOf_ip cget_one cget_agg ev_t ev_c fillp_nil fillp_cons isSc_int isSc_bool isSc_str isSc_is isSc_ms isSc_fn isSc_mm isSc_mp isSc_ip isSc_nilp isSc_nilm isSc_nili isSc_nilf isSc_ifc splice chunk strip strip.stripL imm imm.immL Areify_int Areify_bool Areify_str Areify_is Areify_nilp Areify_tup Areify_agg AreifyL andF_chi andF_ch onF_chi onF_ch bthen_ch bthen_chi bblock_ch bblock_chi bkeep_ch bkeep_chi bown_ch bown_chi banswer_ch banswer_chi isSome_ch bcond_ch guardV_ch1 guardV_ch0 chF_true chF_false chF_not
attribute [local simp ↓] andF_some andF_chi andF_ch onF_some onF_none onF_chi onF_ch bthen_normal bthen_ret bthen_exit bthen_ch bthen_chi bblock_normal bblock_ret bblock_exit bblock_ch bblock_chi bkeep_some bkeep_ch bkeep_chi bown_normal bown_ret bown_ch bown_chi banswer_normal banswer_ret banswer_ch banswer_chi bcond_ch guardV_ch1 guardV_ch0 guardV_tup guardF_none guardF_some putF_some putF_none stepsF_nil stepsF_cons chF_true chF_false Brun_seq Brun_cond Brun_block Brun_region Brun_skip Brun_ret Brun_exit stepF_call stepF_callD stepF_move stepF_pick stepF_alloc stepF_allocV stepF_box stepF_boxV stepF_build stepF_buildSlice stepF_buildSliceV stepF_load stepF_store stepF_nilCheck stepF_bin stepF_eq stepF_un stepF_conv stepF_strId stepF_toStr stepF_toBytes stepF_fn stepF_mkSlice stepF_slice stepF_strSlice stepF_fieldAddr stepF_field stepF_idxAddr stepF_idxArr stepF_index stepF_strIndex stepF_extract stepF_len0 stepF_len1 stepF_min stepF_max stepF_append stepF_appendF stepF_mkMap stepF_mkIface stepF_lookup stepF_mapUpdate stepF_ext
set_option maxHeartbeats 4000000
/-! Moves in memory: found, left out. -/
theorem stepF_clear (A : Tab) (d : Bool) (slot sz : Nat) (zero : List AV) (x : AO) (e : Env) (h : Heap) : stepF A d slot (.clear sz zero x) e h = match ev e x with
    | .is [] _ => some (.tup [], h)
    | .ms id off len s _ _ => if len = 0 then some (.tup [], h) else if s = sz ∧ zero.length = sz ∧ zero.all isSc = true then (match cellsF h[id]? with
      | some cs => if off + len * s ≤ cs.length then some (.tup [], h.set id (.cells (splice cs off (repeatCells len zero)))) else none
      | none => none) else none
    | _ => none := by
  simp only [stepF, aop]
  cases ev e x with
  | is rows cap => cases rows <;> rfl
  | ms id off len s cap ex =>
    dsimp only
    by_cases h0 : len = 0
    · rw [if_pos h0, if_pos h0]; rfl
    · rw [if_neg h0, if_neg h0]
      by_cases q : s = sz ∧ zero.length = sz ∧ zero.all isSc = true
      · rw [if_pos q, if_pos q]
        simp only [HC.run, cellsF]
        cases hb : h[id]? with
        | none => rfl
        | some b =>
          cases b with
          | cells cs =>
            dsimp only [Blk.isFree]
            by_cases q2 : off + len * s ≤ cs.length
            · simp [q2, HC.run, hb, Blk.isFree]
            · simp [q2, HC.run]
          | _ => rfl
      · rw [if_neg q, if_neg q]; rfl
  | _ => rfl
theorem obound_some (e : Env) (y d : Nat) (x : AO) : obound e y d (some x) = abound y (ev e x) := rfl
theorem obound_none (e : Env) (y d : Nat) : obound e y d none = some d := rfl
theorem abound_int (y : Nat) (k : IntKind) (i : Int) : abound y (.int k i) = if 0 ≤ i ∧ i ≤ y then some i.toNat else none := rfl
def flatM (K : List Mv) : List AV := (mvRows K).flatten
theorem flatM_len (K : List Mv) : (flatM K).length = K.length * 2 := by
  induction K with
  | nil => rfl
  | cons m r ih =>
    have : flatM (m :: r) = mvRow m ++ flatM r := rfl
    rw [this, List.length_append, ih]
    simp [mvRow]; omega
theorem flatM_cons (m : Mv) (r : List Mv) : flatM (m :: r) = mvRow m ++ flatM r := rfl
theorem flatM_app (a b : List Mv) : flatM (a ++ b) = flatM a ++ flatM b := by simp [flatM, mvRows]
theorem flatM_drop : ∀ (K : List Mv) (i : Nat), (flatM K).drop (i * 2) = flatM (K.drop i) := by
  intro K
  induction K with
  | nil => intro i; simp [flatM, mvRows]
  | cons m r ih =>
    intro i
    cases i with
    | zero => simp
    | succ i =>
      rw [flatM_cons, List.drop_succ_cons, ← ih i, List.drop_append]
      have h1 : (mvRow m).drop ((i + 1) * 2) = [] := List.drop_eq_nil_of_le (by simp [mvRow]; omega)
      have h2 : (i + 1) * 2 - (mvRow m).length = i * 2 := by simp [mvRow]; omega
      rw [h1, h2, List.nil_append]
theorem flatM_take : ∀ (K : List Mv) (i : Nat), (flatM K).take (i * 2) = flatM (K.take i) := by
  intro K
  induction K with
  | nil => intro i; simp [flatM, mvRows]
  | cons m r ih =>
    intro i
    cases i with
    | zero => simp [flatM, mvRows]
    | succ i =>
      rw [flatM_cons, List.take_succ_cons, flatM_cons, ← ih i, List.take_append, List.take_of_length_le (by simp [mvRow]; omega)]
      congr 2
      simp [mvRow]; omega
theorem flatM_at {K : List Mv} {i : Nat} {m : Mv} (h : K[i]? = some m) : ((flatM K).drop (i * 2)).take 2 = mvRow m := by
  rw [flatM_drop]
  obtain ⟨hi, rfl⟩ := List.getElem?_eq_some_iff.1 h
  rw [List.drop_eq_getElem_cons hi, flatM_cons]
  simp [mvRow]
def ixF (p : Mv → Bool) : List Mv → Nat → Int
  | [], _ => -1
  | m :: r, i => if p m = true then i else ixF p r (i + 1)
theorem ixF_ge (p : Mv → Bool) : ∀ (l : List Mv) (i : Nat), l.any p = true → (i : Int) ≤ ixF p l i := by
  intro l
  induction l with
  | nil => intro i h; cases h
  | cons m r ih =>
    intro i h
    simp only [ixF]
    split
    · omega
    · rename_i q
      have := ih (i + 1) (by simpa [q] using h)
      omega
theorem ixF_no (p : Mv → Bool) : ∀ (l : List Mv) (i : Nat), l.any p = false → ixF p l i = -1 := by
  intro l
  induction l with
  | nil => intro i _; rfl
  | cons m r ih =>
    intro i h
    simp only [List.any_cons, Bool.or_eq_false_iff] at h
    simp only [ixF]
    rw [if_neg (by rw [h.1]; simp)]
    exact ih (i + 1) h.2
section
variable {R cap : Nat} {ex : Bool} {K : List Mv}
theorem find_loop (p : Mv → Bool) (g : Nat) (caps : List AV) (n : Nat) (G : Heap) (hG : G[R]? = some (.cells (flatM K))) (hn : n ≤ K.length) (hK : K.length ≤ 16777216) (hp : ∀ m, Ccall tab g ([.agg (mvRow m)] ++ caps) G = some (.bool (p m), G)) : ∀ (r : List Mv) (i : Nat), (K.take n).drop i = r → i ≤ n →
    ∃ E', (r.any p = false → Brun tab 19 (.loop f19l2) (ofL [(0, .ms R 0 n 2 cap ex), (1, .fn g [] caps), (7, .int .i64 n), (8, .int .i64 i)]) G = some (.exit 0, ofL E', G)) ∧
      (r.any p = true → Brun tab 19 (.loop f19l2) (ofL [(0, .ms R 0 n 2 cap ex), (1, .fn g [] caps), (7, .int .i64 n), (8, .int .i64 i)]) G = some (.ret, ofL [(4, .int .i64 (ixF p r i))], G)) := by
  intro r
  induction r with
  | nil =>
    intro i hr hi
    have hlen := congrArg List.length hr
    simp only [List.length_drop, List.length_take, List.length_nil] at hlen
    have e2 : (n : Int) = i := by omega
    refine ⟨[(0, .ms R 0 n 2 cap ex), (1, .fn g [] caps), (7, .int .i64 n), (8, .int .i64 i), (9, .bool false)], fun _ => ?_, fun q => by cases q⟩
    rw [Brun_loop]
    clear hr hi hlen hG hn hp hK
    repeat (any_goals first | simp (dsimp := false) (maxSteps := 4000000) (maxDischargeDepth := 8) (implicitDefEqProofs := false) [*, -Int.not_le, -Int.not_lt, amLt, f19c, f19m2, f19r0, f19r1, f19r2, f19r3, f19r4, f19r5, f19r6, f19r7, f19l2_b] | with_reducible refine ch_both (fun _ => ?_) (fun _ => ?_) | with_reducible refine ite_both (fun _ => ?_) (fun _ => ?_) | intro _)
  | cons m r ih =>
    intro i hr hi
    have hlen := congrArg List.length hr
    simp only [List.length_drop, List.length_take, List.length_cons] at hlen
    have hg0 : (K.take n)[i]? = some m := by
      have := congrArg (·[0]?) hr
      simpa using this
    have hg : K[i]? = some m := by
      rw [List.getElem?_take, if_pos (by omega)] at hg0; exact hg0
    have htl : (K.take n).drop (i + 1) = r := by
      have := congrArg List.tail hr
      simpa using this
    obtain ⟨E', i1, i2⟩ := ih (i + 1) htl (by omega)
    have hat := flatM_at hg
    have hfl := flatM_len K
    have hle : i * 2 + 2 ≤ (flatM K).length := by omega
    have h1 : (i : Int) < n := by omega
    have e3 : ¬ (n : Int) ≤ i := by omega
    have hw := cw64 i (by omega)
    have hpm := hp m
    simp only [List.cons_append, List.nil_append] at hpm
    rw [List.any_cons]
    simp only [ixF]
    push_cast at i1 i2
    unfold mvRow at *
    generalize flatM K = FK at *
    clear hp ih hr hi hlen hg0 hg htl hn hK hfl
    cases hq : p m with
    | true =>
      rw [hq] at hpm
      refine ⟨E', fun q => by simp at q, fun _ => ?_⟩
      rw [Brun_loop]
      clear i1 i2
      repeat (any_goals first | simp (dsimp := false) (maxSteps := 4000000) (maxDischargeDepth := 8) (implicitDefEqProofs := false) [*, -Int.not_le, -Int.not_lt, amLt, f19c, f19m2, f19r0, f19r1, f19r2, f19r3, f19r4, f19r5, f19r6, f19r7, f19l2_b] | with_reducible refine ch_both (fun _ => ?_) (fun _ => ?_) | with_reducible refine ite_both (fun _ => ?_) (fun _ => ?_) | intro _)
    | false =>
      rw [hq] at hpm
      refine ⟨E', fun q => ?_, fun q => ?_⟩
      · replace i1 := i1 (by simpa using q)
        rw [Brun_loop]
        clear i2 q
        repeat (any_goals first | simp (dsimp := false) (maxSteps := 4000000) (maxDischargeDepth := 8) (implicitDefEqProofs := false) [*, -Int.not_le, -Int.not_lt, amLt, f19c, f19m2, f19r0, f19r1, f19r2, f19r3, f19r4, f19r5, f19r6, f19r7, f19l2_b] | with_reducible refine ch_both (fun _ => ?_) (fun _ => ?_) | with_reducible refine ite_both (fun _ => ?_) (fun _ => ?_) | intro _)
      · replace i2 := i2 (by simpa using q)
        rw [Brun_loop]
        clear i1 q
        repeat (any_goals first | simp (dsimp := false) (maxSteps := 4000000) (maxDischargeDepth := 8) (implicitDefEqProofs := false) [*, -Int.not_le, -Int.not_lt, amLt, f19c, f19m2, f19r0, f19r1, f19r2, f19r3, f19r4, f19r5, f19r6, f19r7, f19l2_b] | with_reducible refine ch_both (fun _ => ?_) (fun _ => ?_) | with_reducible refine ite_both (fun _ => ?_) (fun _ => ?_) | intro _)
theorem find_ok (p : Mv → Bool) (g : Nat) (caps : List AV) (n : Nat) (G : Heap) (hG : G[R]? = some (.cells (flatM K))) (hn : n ≤ K.length) (hK : K.length ≤ 16777216) (hp : ∀ m, Ccall tab g ([.agg (mvRow m)] ++ caps) G = some (.bool (p m), G)) :
    Ccall tab 19 [.ms R 0 n 2 cap ex, .fn g [] caps] G = some (.int .i64 (ixF p (K.take n) 0), G) := by
  obtain ⟨E', i1, i2⟩ := find_loop (cap := cap) (ex := ex) p g caps n G hG hn hK hp (K.take n) 0 rfl (by omega)
  simp only [Int.natCast_zero] at i1 i2
  refine Ccall_over rfl rfl rfl rfl ?_
  cases hq : (K.take n).any p with
  | false =>
    rw [ixF_no p _ 0 hq]
    replace i1 := i1 hq
    clear i2 hp hq hG hn hK
    repeat (any_goals first | simp (dsimp := false) (maxSteps := 4000000) (maxDischargeDepth := 8) (implicitDefEqProofs := false) [*, -Int.not_le, -Int.not_lt, amLt, f19c, f19m2, f19r0, f19r1, f19r2, f19r3, f19r4, f19r5, f19r6, f19r7, f19l2_b] | with_reducible refine ch_both (fun _ => ?_) (fun _ => ?_) | with_reducible refine ite_both (fun _ => ?_) (fun _ => ?_) | intro _)
  | true =>
    replace i2 := i2 hq
    clear i1 hp hq hG hn hK
    repeat (any_goals first | simp (dsimp := false) (maxSteps := 4000000) (maxDischargeDepth := 8) (implicitDefEqProofs := false) [*, -Int.not_le, -Int.not_lt, amLt, f19c, f19m2, f19r0, f19r1, f19r2, f19r3, f19r4, f19r5, f19r6, f19r7, f19l2_b] | with_reducible refine ch_both (fun _ => ?_) (fun _ => ?_) | with_reducible refine ite_both (fun _ => ?_) (fun _ => ?_) | intro _)
theorem some_ok (p : Mv → Bool) (g : Nat) (caps : List AV) (n : Nat) (G : Heap) (hG : G[R]? = some (.cells (flatM K))) (hn : n ≤ K.length) (hK : K.length ≤ 16777216) (hp : ∀ m, Ccall tab g ([.agg (mvRow m)] ++ caps) G = some (.bool (p m), G)) :
    Ccall tab 12 [.ms R 0 n 2 cap ex, .fn g [] caps] G = some (.bool ((K.take n).any p), G) := by
  have hf := find_ok (cap := cap) (ex := ex) p g caps n G hG hn hK hp
  refine Ccall_over rfl rfl rfl rfl ?_
  cases hq : (K.take n).any p with
  | false =>
    rw [ixF_no p _ 0 hq] at hf
    clear hp hq hG hn hK
    repeat (any_goals first | simp (dsimp := false) (maxSteps := 4000000) (maxDischargeDepth := 8) (implicitDefEqProofs := false) [*, -Int.not_le, -Int.not_lt, amLt, f12c, f12r0, f12r1] | with_reducible refine ch_both (fun _ => ?_) (fun _ => ?_) | with_reducible refine ite_both (fun _ => ?_) (fun _ => ?_) | intro _)
  | true =>
    have h1 := ixF_ge p _ 0 hq
    have h2 : 0 ≤ ixF p (K.take n) 0 := by omega
    clear hp hq hG hn hK h1
    repeat (any_goals first | simp (dsimp := false) (maxSteps := 4000000) (maxDischargeDepth := 8) (implicitDefEqProofs := false) [*, -Int.not_le, -Int.not_lt, amLt, f12c, f12r0, f12r1] | with_reducible refine ch_both (fun _ => ?_) (fun _ => ?_) | with_reducible refine ite_both (fun _ => ?_) (fun _ => ?_) | intro _)
end
theorem self_ok (h : Heap) (m : Mv) : Ccall tab 11 [.agg (mvRow m)] h = some (.bool (decide (m.1 = m.2)), h) := by
  refine Ccall_own rfl rfl rfl rfl ?_
  unfold mvRow
  repeat (any_goals first | simp (dsimp := false) (maxSteps := 4000000) (maxDischargeDepth := 8) (implicitDefEqProofs := false) [*, -Int.not_le, -Int.not_lt, amLt, f11c, f11r0, f11r1] | with_reducible refine ch_both (fun _ => ?_) (fun _ => ?_) | with_reducible refine ite_both (fun _ => ?_) (fun _ => ?_) | intro _)
theorem reads_ok (h : Heap) (b : Nat) (m x : Mv) (hb : h[b]? = some (.cells (mvRow m))) : Ccall tab 13 [.agg (mvRow x), .mp b 0] h = some (.bool (decide (x.2 = m.1)), h) := by
  refine Ccall_over rfl rfl rfl rfl ?_
  unfold mvRow at *
  repeat (any_goals first | simp (dsimp := false) (maxSteps := 4000000) (maxDischargeDepth := 8) (implicitDefEqProofs := false) [*, -Int.not_le, -Int.not_lt, amLt, f13c, f13r0, f13r1] | with_reducible refine ch_both (fun _ => ?_) (fun _ => ?_) | with_reducible refine ite_both (fun _ => ?_) (fun _ => ?_) | intro _)

end Go.Proofs.Ytfhijkapcdmdnaa
