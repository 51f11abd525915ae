/- A text is cut. -/
import Derived.Test.YtmpdpjkblcdfkaaDoorZf
import Derived.Test.YtmpdpjkblcdfkaaDoorAmW
namespace Go.Proofs.YtmpdpjkblcdfkaaDoor
open Go.AM
set_option maxRecDepth 20000
set_option maxHeartbeats 4000000
set_option linter.unusedSimpArgs false
set_option linter.unusedVariables false
attribute [local congr] andF_cg onF_cg bthen_cg bkeep_cg bcond_cg guardV_cg putF_cg guardF_cg ite_cg stepsF_cg
attribute [local simp] Brun_skip Brun_exit Brun_ret Brun_seq Brun_cond Brun_block Brun_region bthen_normal bthen_ret bthen_exit bblock_normal bblock_ret bblock_exit bkeep_some andF_some onF_some onF_none guardF_none guardF_some guardV_tup putF_some putF_none stepsF_nil stepsF_cons upd_apply ofL_cons ofL_nil bown_normal bown_ret banswer_normal banswer_ret aresults ares List.replicate stepF_call stepF_callD stepF_move stepF_pick stepF_alloc stepF_allocV stepF_box stepF_boxV stepF_build stepF_buildSlice stepF_buildSliceV stepF_load stepF_store stepF_nilCheck stepF_bin stepF_eq stepF_un stepF_conv stepF_strId strIdV_str strIdV_int stepF_toStr stepF_toBytes stepF_fn stepF_mkSlice stepF_slice stepF_strSlice stepF_fieldAddr stepF_field stepF_idxAddr stepF_idxArr stepF_index stepF_strIndex stepF_extract stepF_len0 stepF_len1 stepF_min stepF_max stepF_append stepF_appendF appF_none appF_row stepF_mkMap stepF_mkIface stepF_lookup stepF_mapUpdate stepF_ext aext_idx aext_count aext_same cellsF newF abin_add abin_sub abin_mul abin_quo abin_rem abin_eql abin_neq abin_lss abin_leq abin_gtr abin_geq abin_and abin_or abin_xor abin_shl abin_shr abin_seql abin_sneq aun_not aun_neg aeq_bool aeq_agg eqCells_nil eqCells_int eqCells_bool eqCells_str cellsOf_agg cellsOf_int cellsOf_bool cellsOf_str cellsOf_is cellsOf_ms cellsOf_fn cellsOf_nilp cellsOf_mp cellsOf_mm cellsOf_nilm cellsOf_nili cellsOf_ifc cellsOf_ip cget_one cget_agg ev_t ev_c fillp_nil fillp_cons isSc_int isSc_bool isSc_str isSc_is isSc_ms isSc_fn isSc_mm isSc_mp isSc_ip isSc_nilp isSc_nilm isSc_nili isSc_nilf isSc_ifc splice chunk strip strip.stripL imm imm.immL Areify_int Areify_bool Areify_str Areify_is Areify_nilp Areify_tup Areify_agg AreifyL andF_chi andF_ch onF_chi onF_ch bthen_ch bthen_chi bblock_ch bblock_chi bkeep_ch bkeep_chi bown_ch bown_chi banswer_ch banswer_chi isSome_ch bcond_ch guardV_ch1 guardV_ch0 chF_true chF_false chF_not
attribute [local simp ↓] andF_some andF_chi andF_ch onF_some onF_none onF_chi onF_ch bthen_normal bthen_ret bthen_exit bthen_ch bthen_chi bblock_normal bblock_ret bblock_exit bblock_ch bblock_chi bkeep_some bkeep_ch bkeep_chi bown_normal bown_ret bown_ch bown_chi banswer_normal banswer_ret banswer_ch banswer_chi bcond_ch guardV_ch1 guardV_ch0 guardV_tup guardF_none guardF_some putF_some putF_none stepsF_nil stepsF_cons chF_true chF_false Brun_seq Brun_cond Brun_block Brun_region Brun_skip Brun_ret Brun_exit stepF_call stepF_callD stepF_move stepF_pick stepF_alloc stepF_allocV stepF_box stepF_boxV stepF_build stepF_buildSlice stepF_buildSliceV stepF_load stepF_store stepF_nilCheck stepF_bin stepF_eq stepF_un stepF_conv stepF_strId stepF_toStr stepF_toBytes stepF_fn stepF_mkSlice stepF_slice stepF_strSlice stepF_fieldAddr stepF_field stepF_idxAddr stepF_idxArr stepF_index stepF_strIndex stepF_extract stepF_len0 stepF_len1 stepF_min stepF_max stepF_append stepF_appendF stepF_mkMap stepF_mkIface stepF_lookup stepF_mapUpdate stepF_ext
set_option maxHeartbeats 2000000
def stepS (p : Nat × Nat) (b : UInt8) : Nat × Nat := if b = 10 then (p.1 + 1, 1) else (p.1, p.2 + 1)
def goS (p : Nat × Nat) (r : List UInt8) : Nat × Nat := r.foldl stepS p
theorem stepS_le (p : Nat × Nat) (b : UInt8) (k : Nat) (h1 : p.1 ≤ k) (h2 : p.2 ≤ k) (h3 : 1 ≤ k + 1) : (stepS p b).1 ≤ k + 1 ∧ (stepS p b).2 ≤ k + 1 := by
  unfold stepS
  split <;> dsimp only <;> omega
theorem to_loop (F0 : Blk) (s : List UInt8) (hs : s.length ≤ 16777216) (tgt k : Nat) (htg : tgt ≤ s.length) (t : Heap) : ∀ (m off l c : Nat), off + m = tgt → l + m ≤ 100000000 → c + m ≤ 100000000 →
    Brun tab 59 (.loop f30l1) (ofL [(0, .mp 1 0), (1, .int .i64 tgt), (4, .mp k 0)]) (F0 :: .cells [.str s, .int .i64 l, .int .i64 c, .int .i64 off] :: t) =
      some (.exit 0, ofL [(0, .mp 1 0), (1, .int .i64 tgt), (4, .mp k 0), (11, .bool false)], F0 :: .cells [.str s, .int .i64 (goS (l, c) ((s.drop off).take m)).1, .int .i64 (goS (l, c) ((s.drop off).take m)).2, .int .i64 tgt] :: t) := by
  intro m
  induction m with
  | zero =>
    intro off l c ho hl hc
    have e3 : (off : Int) = tgt := by omega
    rw [Brun_loop, e3]
    simp only [List.take_zero, goS, List.foldl_nil]
    clear ho hl hc hs htg
    repeat (any_goals first | simp (dsimp := false) (maxSteps := 4000000) (maxDischargeDepth := 8) (implicitDefEqProofs := false) [*, -Int.not_le, -Int.not_lt, amLt, f30c, f30m1, f30q3, f30r0, f30r1, f30r2, f30r4, f30r5, f30r6, f30l1_b, f30r3_u, f30r3_w] | with_reducible refine ch_both (fun _ => ?_) (fun _ => ?_) | with_reducible refine ite_both (fun _ => ?_) (fun _ => ?_) | intro _)
  | succ m ih =>
    intro off l c ho hl hc
    have hlt : off < s.length := by omega
    have hb : s[off]? = some s[off] := List.getElem?_eq_getElem hlt
    have hd : (s.drop off).take (m + 1) = s[off] :: (s.drop (off + 1)).take m := by
      rw [List.drop_eq_getElem_cons hlt, List.take_succ_cons]
    rw [hd]
    generalize s[off] = b at *
    have hg : goS (l, c) (b :: (s.drop (off + 1)).take m) = goS (stepS (l, c) b) ((s.drop (off + 1)).take m) := rfl
    rw [hg]
    have e3 : (off : Int) < tgt := by omega
    have e4 : ¬ (tgt : Int) ≤ off := by omega
    have w1 := w64 off (by omega)
    have w2 := w64 l (by omega)
    have w3 := w64 c (by omega)
    have eo : ((off + 1 : Nat) : Int) = off + 1 := by push_cast; rfl
    have el : ((l + 1 : Nat) : Int) = l + 1 := by push_cast; rfl
    have ec : ((c + 1 : Nat) : Int) = c + 1 := by push_cast; rfl
    rw [Brun_loop]
    by_cases h10 : b = 10
    · have hst : stepS (l, c) b = (l + 1, 1) := by simp [stepS, h10]
      have ih2 := ih (off + 1) (l + 1) 1 (by omega) (by omega) (by omega)
      rw [hst, ← ih2, eo, el]
      have h10' : (b.toNat : Int) = 10 := by rw [h10]; rfl
      have e1 : ((1 : Nat) : Int) = 1 := rfl
      rw [e1]
      clear ih ih2 ho hl hc hs htg hd hg hlt hst eo el ec
      repeat (any_goals first | simp (dsimp := false) (maxSteps := 4000000) (maxDischargeDepth := 8) (implicitDefEqProofs := false) [*, -Int.not_le, -Int.not_lt, amLt, f30c, f30m1, f30q3, f30r0, f30r1, f30r2, f30r4, f30r5, f30r6, f30l1_b, f30r3_u, f30r3_w] | with_reducible refine ch_both (fun _ => ?_) (fun _ => ?_) | with_reducible refine ite_both (fun _ => ?_) (fun _ => ?_) | intro _)
    · have hst : stepS (l, c) b = (l, c + 1) := by simp [stepS, h10]
      have ih2 := ih (off + 1) l (c + 1) (by omega) (by omega) (by omega)
      rw [hst, ← ih2, eo, ec]
      have h10' : ¬ (b.toNat : Int) = 10 := fun h => h10 (UInt8.toNat_inj.1 (by show b.toNat = 10; omega))
      clear ih ih2 ho hl hc hs htg hd hg hlt hst eo el ec
      repeat (any_goals first | simp (dsimp := false) (maxSteps := 4000000) (maxDischargeDepth := 8) (implicitDefEqProofs := false) [*, -Int.not_le, -Int.not_lt, amLt, f30c, f30m1, f30q3, f30r0, f30r1, f30r2, f30r4, f30r5, f30r6, f30l1_b, f30r3_u, f30r3_w] | with_reducible refine ch_both (fun _ => ?_) (fun _ => ?_) | with_reducible refine ite_both (fun _ => ?_) (fun _ => ?_) | intro _)
theorem to_ok (F0 : Blk) (s : List UInt8) (hs : s.length ≤ 16777216) (tgt off l c : Nat) (htg : tgt ≤ s.length) (ho : off ≤ tgt) (hl : l + tgt ≤ 100000000) (hc : c + tgt ≤ 100000000) (t : Heap) :
    Ccall tab 30 [.mp 1 0, .int .i64 tgt] (F0 :: .cells [.str s, .int .i64 l, .int .i64 c, .int .i64 off] :: t) =
      some (.agg [.int .i64 (goS (l, c) ((s.drop off).take (tgt - off))).1, .int .i64 (goS (l, c) ((s.drop off).take (tgt - off))).2, .int .i64 tgt],
        F0 :: .cells [.str s, .int .i64 (goS (l, c) ((s.drop off).take (tgt - off))).1, .int .i64 (goS (l, c) ((s.drop off).take (tgt - off))).2, .int .i64 tgt] ::
          (t ++ [.cells [.int .i64 (goS (l, c) ((s.drop off).take (tgt - off))).1, .int .i64 (goS (l, c) ((s.drop off).take (tgt - off))).2, .int .i64 tgt]])) := by
  have lp := fun k t => to_loop F0 s hs tgt k htg t (tgt - off) off l c (by omega) (by omega) (by omega)
  generalize goS (l, c) ((s.drop off).take (tgt - off)) = g at *
  obtain ⟨g1, g2⟩ := g
  dsimp only at lp ⊢
  clear hs htg ho hl hc
  refine Ccall_over rfl rfl rfl rfl ?_
  repeat (any_goals first | simp (dsimp := false) (maxSteps := 4000000) (maxDischargeDepth := 8) (implicitDefEqProofs := false) [*, -Int.not_le, -Int.not_lt, amLt, f30c, f30m1, f30q3, f30r0, f30r1, f30r2, f30r4, f30r5, f30r6, f30l1_b, f30r3_u, f30r3_w, app_get, app_get0, app_set, app_set0] | with_reducible refine ch_both (fun _ => ?_) (fun _ => ?_) | with_reducible refine ite_both (fun _ => ?_) (fun _ => ?_) | intro _)
def spotOf (s : List UInt8) (k : Nat) : Nat × Nat := goS (1, 1) (s.take k)
theorem goS_app (p : Nat × Nat) (a b : List UInt8) : goS p (a ++ b) = goS (goS p a) b := List.foldl_append ..
theorem goS_le : ∀ (r : List UInt8) (p : Nat × Nat) (k : Nat), p.1 ≤ k → p.2 ≤ k → (goS p r).1 ≤ k + r.length ∧ (goS p r).2 ≤ k + r.length := by
  intro r
  induction r with
  | nil => intro p k h1 h2; exact ⟨h1, h2⟩
  | cons b t ih =>
    intro p k h1 h2
    obtain ⟨g1, g2⟩ := stepS_le p b k h1 h2 (by omega)
    have := ih (stepS p b) (k + 1) g1 g2
    simp only [List.length_cons]
    show (goS (stepS p b) t).1 ≤ _ ∧ (goS (stepS p b) t).2 ≤ _
    omega
theorem spot_step (s : List UInt8) {off k : Nat} (h : off ≤ k) : goS (spotOf s off) ((s.drop off).take (k - off)) = spotOf s k := by
  unfold spotOf
  rw [← goS_app]
  congr 1
  rw [show k = off + (k - off) by omega, List.take_add]
  congr 2
  omega
theorem to_at (F0 : Blk) (s : List UInt8) (hs : s.length ≤ 16777216) (tgt off : Nat) (htg : tgt ≤ s.length) (ho : off ≤ tgt) (t : Heap) :
    Ccall tab 30 [.mp 1 0, .int .i64 tgt] (F0 :: .cells [.str s, .int .i64 (spotOf s off).1, .int .i64 (spotOf s off).2, .int .i64 off] :: t) =
      some (.agg [.int .i64 (spotOf s tgt).1, .int .i64 (spotOf s tgt).2, .int .i64 tgt],
        F0 :: .cells [.str s, .int .i64 (spotOf s tgt).1, .int .i64 (spotOf s tgt).2, .int .i64 tgt] ::
          (t ++ [.cells [.int .i64 (spotOf s tgt).1, .int .i64 (spotOf s tgt).2, .int .i64 tgt]])) := by
  have hb := goS_le (s.take off) (1, 1) 1 (Nat.le_refl _) (Nat.le_refl _)
  have hb2 : (s.take off).length ≤ off := by simp only [List.length_take]; omega
  have hk := to_ok F0 s hs tgt off (spotOf s off).1 (spotOf s off).2 htg ho (by unfold spotOf; omega) (by unfold spotOf; omega) t
  rw [spot_step s ho] at hk
  exact hk
theorem skip_cons (f : Nat) (b : UInt8) (t : List UInt8) : skipR (f + 1) (b :: t) = if isBlank b.toNat = true then ((skipR f t).1 + 1, (skipR f t).2)
      else if hasPre [47, 47] (b :: t) = true then ((skipR f ((b :: t).drop (lineEnd (b :: t)))).1 + lineEnd (b :: t), (skipR f ((b :: t).drop (lineEnd (b :: t)))).2)
      else if hasPre [47, 42] (b :: t) = true then match closeC (t.tail) with
        | none => (0, true)
        | some n => ((skipR f ((b :: t).drop (n + 4))).1 + (n + 4), (skipR f ((b :: t).drop (n + 4))).2)
      else (0, false) := rfl
theorem skip_le : ∀ (f : Nat) (r : List UInt8), (skipR f r).1 ≤ r.length := by
  intro f
  induction f with
  | zero => intro r; simp [skipR]
  | succ f ih =>
    intro r
    cases r with
    | nil => simp [skipR]
    | cons b t =>
      rw [skip_cons]
      by_cases q1 : isBlank b.toNat = true
      · rw [if_pos q1]
        have := ih t
        simp only [List.length_cons]
        omega
      · rw [if_neg q1]
        by_cases q2 : hasPre [47, 47] (b :: t) = true
        · rw [if_pos q2]
          have := ih ((b :: t).drop (lineEnd (b :: t)))
          have := lineEnd_le (b :: t)
          simp only [List.length_drop] at *
          omega
        · rw [if_neg q2]
          by_cases q3 : hasPre [47, 42] (b :: t) = true
          · rw [if_pos q3]
            cases hc : closeC t.tail with
            | none => exact Nat.zero_le _
            | some n =>
              have h1 := closeC_room hc
              have := ih ((b :: t).drop (n + 4))
              simp only [List.length_drop, List.length_tail, List.length_cons] at *
              omega
          · rw [if_neg q3]; exact Nat.zero_le _
theorem run_pos {p : Nat → Bool} {b : UInt8} {t : List UInt8} (h : p b.toNat = true) : 0 < runLen p (b :: t) := by
  unfold runLen
  rw [List.takeWhile_cons, if_pos h]
  simp
theorem one_len {s : List UInt8} {x : Int × List UInt8 × Int} {m : Nat} (h : oneR s = .ok (x, m)) : 0 < m ∧ m ≤ s.length := by
  unfold oneR at h
  split at h
  · cases h
  · rename_i b t
    have hrun := runLen_le isTail (b :: t)
    split at h
    · rename_i hl
      have hp : 0 < runLen isTail (b :: t) := run_pos (by unfold isTail; simp [hl])
      split at h
      · cases h
      · cases h; exact ⟨hp, hrun⟩
    · split at h
      · rename_i hd
        have hp : 0 < runLen isTail (b :: t) := run_pos (by unfold isTail; simp [hd])
        split at h
        · cases h
        · cases h; exact ⟨hp, hrun⟩
      · split at h
        · split at h
          · cases h
          · rename_i o k hq
            have := quoR_len hq
            simp only [List.drop_one, List.tail_cons, List.length_cons] at *
            split at h
            · cases h; omega
            · split at h
              · cases h; omega
              · cases h
        · split at h
          · cases h
          · rename_i hne
            cases h
            exact ⟨List.length_pos_iff.2 hne, sign_len _⟩
abbrev Tk := (Int × List UInt8 × Int) × Nat
/-- Where the next token begins; true: a comment without an end begins there. -/
def nextR (s : List UInt8) (at_ : Nat) : Nat := at_ + (skipR (s.length + 1) (s.drop at_)).1
def badC (s : List UInt8) (at_ : Nat) : Bool := (skipR (s.length + 1) (s.drop at_)).2
theorem one_err {s : List UInt8} {e : Nat} (h : oneR s = .error e) (hs : s ≠ []) : e = 20 ∨ e = 21 ∨ e = 22 ∨ e = 26 := by
  unfold oneR at h
  split at h
  · exact absurd rfl hs
  · split at h
    · split at h
      · cases h; simp
      · cases h
    · split at h
      · split at h
        · cases h; simp
        · cases h
      · split at h
        · split at h
          · cases h; simp
          · split at h
            · cases h
            · split at h
              · cases h
              · cases h; simp
        · split at h
          · cases h; simp
          · cases h
def consR (y : Tk) : Except (Nat × Nat) (List Tk) → Except (Nat × Nat) (List Tk)
  | .error e => .error e
  | .ok l => .ok (y :: l)
def scanR (s : List UInt8) : Nat → Nat → Nat → Except (Nat × Nat) (List Tk)
  | 0, at_, _ => .error (0, at_)
  | f + 1, at_, n =>
    if badC s at_ = true then .error (25, nextR s at_)
    else if nextR s at_ = s.length then .ok [((0, [], 0), nextR s at_)]
    else match oneR (s.drop (nextR s at_)) with
      | .error e => .error (e, nextR s at_)
      | .ok (x, m) => if n = 16384 then .error (23, nextR s at_) else consR (x, nextR s at_) (scanR s f (nextR s at_ + m) (n + 1))
def tokRow (s : List UInt8) (x : Tk) : List AV := [.int .i64 x.1.1, .str x.1.2.1, .int .i64 x.1.2.2, .int .i64 (spotOf s x.2).1, .int .i64 (spotOf s x.2).2, .int .i64 x.2]
def tokRows (s : List UInt8) (l : List Tk) : List (List AV) := l.map (tokRow s)
def SOut (s : List UInt8) (rows : List (List AV)) (x : Option (Ex × Env × Heap)) : Except (Nat × Nat) (List Tk) → Prop
  | .ok l => ∃ cap' t', x = some (.ret, ofL [(2, .is (rows ++ tokRows s l) cap'), (3, .mp 0 0)], .cells [.int .i64 0, .int .i64 0, .int .i64 0, .int .i64 0] :: t')
  | .error (e, k) => ∃ t', x = some (.ret, ofL [(2, .is [] .nil), (3, .mp 0 0)], .cells [.int .i64 e, .int .i64 (spotOf s k).1, .int .i64 (spotOf s k).2, .int .i64 k] :: t')
theorem SOut.step {s : List UInt8} {rows : List (List AV)} {x : Option (Ex × Env × Heap)} {y : Tk} {r : Except (Nat × Nat) (List Tk)} (h : SOut s (rows ++ [tokRow s y]) x r) : SOut s rows x (consR y r) := by
  cases r with
  | error e => exact h
  | ok l =>
    obtain ⟨cap', t', hx⟩ := h
    refine ⟨cap', t', ?_⟩
    rw [hx, List.append_assoc]
    rfl
theorem next_le (s : List UInt8) {at_ : Nat} (h : at_ ≤ s.length) : nextR s at_ ≤ s.length ∧ at_ ≤ nextR s at_ := by
  have := skip_le (s.length + 1) (s.drop at_)
  simp only [List.length_drop] at this
  unfold nextR
  omega
theorem scan_loop (s : List UInt8) (hs : s.length ≤ 16777216) : ∀ (f at_ off : Nat) (rows : List (List AV)) (cap : Cap) (t : Heap), off ≤ at_ → at_ ≤ s.length → s.length < at_ + f → rows.length ≤ at_ → CapAt 2 cap 6 rows t →
    SOut s rows (Brun tab 76 (.loop f18l6) (ofL [(0, .str s), (3, .mp 0 0), (4, .mp 1 0), (5, .is rows cap), (6, .int .i64 at_)]) (.cells [.int .i64 0, .int .i64 0, .int .i64 0, .int .i64 0] :: .cells [.str s, .int .i64 (spotOf s off).1, .int .i64 (spotOf s off).2, .int .i64 off] :: t)) (scanR s f at_ rows.length) := by
  intro f
  induction f with
  | zero => intro at_ off rows cap t h1 h2 h3; omega
  | succ f ih =>
    intro at_ off rows cap t hoff hat hf hrl hc
    obtain ⟨hn1, hn2⟩ := next_le s hat
    have hsp := fun h => space_ok h s hs at_ hat
    have hto := fun t => to_at (.cells [.int .i64 0, .int .i64 0, .int .i64 0, .int .i64 0]) s hs (nextR s at_) off hn1 (by omega) t
    have hstep : scanR s (f + 1) at_ rows.length = if badC s at_ = true then .error (25, nextR s at_)
      else if nextR s at_ = s.length then .ok [((0, [], 0), nextR s at_)]
      else match oneR (s.drop (nextR s at_)) with
        | .error e => .error (e, nextR s at_)
        | .ok (x, m) => if rows.length = 16384 then .error (23, nextR s at_) else consR (x, nextR s at_) (scanR s f (nextR s at_ + m) (rows.length + 1)) := rfl
    rw [hstep]
    have en : at_ + (skipR (s.length + 1) (s.drop at_)).1 = nextR s at_ := rfl
    have eb : (skipR (s.length + 1) (s.drop at_)).2 = badC s at_ := rfl
    rw [en, eb] at hsp
    have hlen : (s.drop (nextR s at_)).length = s.length - nextR s at_ := by simp
    have hk1 : (nextR s at_ : Int) ≤ s.length := by omega
    rw [Brun_loop]
    by_cases hbad : badC s at_ = true
    · rw [if_pos hbad]
      rw [if_pos hbad] at hsp
      refine ⟨.cells [.str s, .int .i64 (spotOf s (nextR s at_)).1, .int .i64 (spotOf s (nextR s at_)).2, .int .i64 (nextR s at_)] :: (t ++ [.cells [.int .i64 (spotOf s (nextR s at_)).1, .int .i64 (spotOf s (nextR s at_)).2, .int .i64 (nextR s at_)]]), ?_⟩
      generalize nextR s at_ = k at *
      generalize spotOf s off = sp at *
      generalize spotOf s k = sk at *
      clear ih hs hoff hat hf hrl hc hn1 hn2 hstep en eb hlen hk1 hbad
      repeat (any_goals first | simp (dsimp := false) (maxSteps := 4000000) (maxDischargeDepth := 8) (implicitDefEqProofs := false) [*, -Int.not_le, -Int.not_lt, amLt, f18c, f18m6, f18r0, f18r1, f18r2, f18r3, f18r4, f18r5, f18r6, f18r7, f18r8, f18r9, f18q16, f18r10, f18r11, f18r12, f18r13, f18r14, f18r15, f18r17, f18r18, f18l6_b, f18r16_u, f18r16_w] | with_reducible refine ch_both (fun _ => ?_) (fun _ => ?_) | with_reducible refine ite_both (fun _ => ?_) (fun _ => ?_) | intro _)
    · rw [if_neg hbad]
      rw [if_neg hbad] at hsp
      have hr2 := hc.room2
      have hs2 := hc.spend2
      have hsl := spendAt_len 2 cap t
      have hroom : roomy (rows.length + 1) 56 = true := roomy_small (by omega) (by decide)
      by_cases hend : nextR s at_ = s.length
      · rw [if_pos hend]
        refine ⟨.tok (t.length + 2) 6, .cells [.str s, .int .i64 (spotOf s (nextR s at_)).1, .int .i64 (spotOf s (nextR s at_)).2, .int .i64 (nextR s at_)] :: (spendAt 2 cap t ++ [.tok, .cells [.int .i64 (spotOf s (nextR s at_)).1, .int .i64 (spotOf s (nextR s at_)).2, .int .i64 (nextR s at_)]]), ?_⟩
        have hrow : tokRows s [((0, [], 0), nextR s at_)] = [[.int .i64 0, .str [], .int .i64 0, .int .i64 (spotOf s (nextR s at_)).1, .int .i64 (spotOf s (nextR s at_)).2, .int .i64 (nextR s at_)]] := rfl
        rw [hrow]
        have hend' : (nextR s at_ : Int) = s.length := by omega
        generalize nextR s at_ = k at *
        generalize spotOf s off = sp at *
        generalize spotOf s k = sk at *
        clear ih hs hoff hat hf hrl hc hn1 hn2 hstep en eb hlen hk1 hbad hrow
        subst hend
        repeat (any_goals first | simp (dsimp := false) (maxSteps := 4000000) (maxDischargeDepth := 8) (implicitDefEqProofs := false) [*, -Int.not_le, -Int.not_lt, amLt, f18c, f18m6, f18r0, f18r1, f18r2, f18r3, f18r4, f18r5, f18r6, f18r7, f18r8, f18r9, f18q16, f18r10, f18r11, f18r12, f18r13, f18r14, f18r15, f18r17, f18r18, f18l6_b, f18r16_u, f18r16_w, app_get, app_get0, app_set, app_set0] | with_reducible refine ch_both (fun _ => ?_) (fun _ => ?_) | with_reducible refine ite_both (fun _ => ?_) (fun _ => ?_) | intro _)
      · rw [if_neg hend]
        have hend' : ¬ (nextR s at_ : Int) = s.length := by omega
        have hlt : nextR s at_ < s.length := by omega
        have h0 : (s.drop (nextR s at_))[0]? = some s[nextR s at_] := by simp [hlt]
        have hone := fun h => one_ok h (s.drop (nextR s at_)) _ (by omega) h0
        have hne : s.drop (nextR s at_) ≠ [] := by intro h; rw [h] at hlen; simp at hlen; omega
        cases hO : oneR (s.drop (nextR s at_)) with
        | error e =>
          have he := one_err hO hne
          rw [hO] at hone
          unfold oneV tokV at hone
          dsimp only at hone ⊢
          have he1 : ¬ (e : Int) = 0 := by omega
          have he2 : ¬ e = 0 := by omega
          refine ⟨.cells [.str s, .int .i64 (spotOf s (nextR s at_)).1, .int .i64 (spotOf s (nextR s at_)).2, .int .i64 (nextR s at_)] :: (t ++ [.cells [.int .i64 0, .str [], .int .i64 0, .int .i64 (spotOf s (nextR s at_)).1, .int .i64 (spotOf s (nextR s at_)).2, .int .i64 (nextR s at_)], .cells [.int .i64 (spotOf s (nextR s at_)).1, .int .i64 (spotOf s (nextR s at_)).2, .int .i64 (nextR s at_)]]), ?_⟩
          generalize nextR s at_ = k at *
          generalize spotOf s off = sp at *
          generalize spotOf s k = sk at *
          clear ih hs hoff hat hf hrl hc hn1 hn2 hstep en eb hlen hbad hlt h0 hne hO he
          repeat (any_goals first | simp (dsimp := false) (maxSteps := 4000000) (maxDischargeDepth := 8) (implicitDefEqProofs := false) [*, -Int.not_le, -Int.not_lt, amLt, f18c, f18m6, f18r0, f18r1, f18r2, f18r3, f18r4, f18r5, f18r6, f18r7, f18r8, f18r9, f18q16, f18r10, f18r11, f18r12, f18r13, f18r14, f18r15, f18r17, f18r18, f18l6_b, f18r16_u, f18r16_w, app_get, app_get0, app_set, app_set0, obound_some, obound_none, abound_int] | with_reducible refine ch_both (fun _ => ?_) (fun _ => ?_) | with_reducible refine ite_both (fun _ => ?_) (fun _ => ?_) | intro _)
        | ok p =>
          obtain ⟨⟨xk, xt, xv⟩, m⟩ := p
          obtain ⟨hm0, hm⟩ := one_len hO
          rw [hO] at hone
          unfold oneV tokV at hone
          dsimp only at hone ⊢
          by_cases hmany : rows.length = 16384
          · rw [if_pos hmany]
            have hmany' : (rows.length : Int) = 16384 := by omega
            refine ⟨.cells [.str s, .int .i64 (spotOf s (nextR s at_)).1, .int .i64 (spotOf s (nextR s at_)).2, .int .i64 (nextR s at_)] :: (t ++ [.cells [.int .i64 xk, .str xt, .int .i64 xv, .int .i64 (spotOf s (nextR s at_)).1, .int .i64 (spotOf s (nextR s at_)).2, .int .i64 (nextR s at_)], .cells [.int .i64 (spotOf s (nextR s at_)).1, .int .i64 (spotOf s (nextR s at_)).2, .int .i64 (nextR s at_)]]), ?_⟩
            generalize nextR s at_ = k at *
            generalize spotOf s off = sp at *
            generalize spotOf s k = sk at *
            clear ih hs hoff hat hf hrl hc hn1 hn2 hstep en eb hlen hbad hlt h0 hne hO hm hm0 hmany
            repeat (any_goals first | simp (dsimp := false) (maxSteps := 4000000) (maxDischargeDepth := 8) (implicitDefEqProofs := false) [*, -Int.not_le, -Int.not_lt, amLt, f18c, f18m6, f18r0, f18r1, f18r2, f18r3, f18r4, f18r5, f18r6, f18r7, f18r8, f18r9, f18q16, f18r10, f18r11, f18r12, f18r13, f18r14, f18r15, f18r17, f18r18, f18l6_b, f18r16_u, f18r16_w, app_get, app_get0, app_set, app_set0, obound_some, obound_none, abound_int] | with_reducible refine ch_both (fun _ => ?_) (fun _ => ?_) | with_reducible refine ite_both (fun _ => ?_) (fun _ => ?_) | intro _)
          · rw [if_neg hmany]
            have hmany' : ¬ (rows.length : Int) = 16384 := by omega
            have hc2 : CapAt 2 (.tok (t.length + 4) 6) 6 (rows ++ [tokRow s ((xk, xt, xv), nextR s at_)]) (spendAt 2 cap t ++ [.cells [.int .i64 xk, .str xt, .int .i64 xv, .int .i64 (spotOf s (nextR s at_)).1, .int .i64 (spotOf s (nextR s at_)).2, .int .i64 (nextR s at_)], .cells [.int .i64 (spotOf s (nextR s at_)).1, .int .i64 (spotOf s (nextR s at_)).2, .int .i64 (nextR s at_)], .tok]) := CapAt.new (k := 2) hsl 2 rfl
            have ih2 := ih (nextR s at_ + m) (nextR s at_) _ _ _ (by omega) (by omega) (by omega) (by simp only [List.length_append, List.length_cons, List.length_nil]; omega) hc2
            rw [show (rows ++ [tokRow s ((xk, xt, xv), nextR s at_)]).length = rows.length + 1 by simp] at ih2
            refine SOut.step (Eq.mp (congrArg (fun x => SOut s _ x _) ?_) ih2)
            symm
            have hw : IntKind.i64.wrap ((nextR s at_ : Int) + m) = (nextR s at_ : Int) + m := IntWalk.i64_in _ (by omega)
            have hrow : tokRow s ((xk, xt, xv), nextR s at_) = [.int .i64 xk, .str xt, .int .i64 xv, .int .i64 (spotOf s (nextR s at_)).1, .int .i64 (spotOf s (nextR s at_)).2, .int .i64 (nextR s at_)] := rfl
            rw [hrow]
            push_cast
            generalize nextR s at_ = k at *
            generalize spotOf s off = sp at *
            generalize spotOf s k = sk at *
            clear ih ih2 hs hoff hat hf hrl hc hn1 hn2 hstep en eb hlen hbad hlt h0 hne hO hm hm0 hmany hc2 hrow
            repeat (any_goals first | simp (dsimp := false) (maxSteps := 4000000) (maxDischargeDepth := 8) (implicitDefEqProofs := false) [*, -Int.not_le, -Int.not_lt, amLt, f18c, f18m6, f18r0, f18r1, f18r2, f18r3, f18r4, f18r5, f18r6, f18r7, f18r8, f18r9, f18q16, f18r10, f18r11, f18r12, f18r13, f18r14, f18r15, f18r17, f18r18, f18l6_b, f18r16_u, f18r16_w, app_get, app_get0, app_set, app_set0, obound_some, obound_none, abound_int] | with_reducible refine ch_both (fun _ => ?_) (fun _ => ?_) | with_reducible refine ite_both (fun _ => ?_) (fun _ => ?_) | intro _)
/-- What Scan answers. -/
def scanS (s : List UInt8) : Except (Nat × Nat) (List Tk) := scanR s (s.length + 1) 0 0
def faultV (s : List UInt8) (e k : Nat) : AV := .agg [.int .i64 e, .int .i64 (spotOf s k).1, .int .i64 (spotOf s k).2, .int .i64 k]
def scanV (s : List UInt8) : AV :=
  if 65536 < s.length then .tup [.is [] .no, .agg [.int .i64 24, .int .i64 0, .int .i64 0, .int .i64 0]]
  else match scanS s with
    | .ok l => .tup [.is (tokRows s l) .no, .agg [.int .i64 0, .int .i64 0, .int .i64 0, .int .i64 0]]
    | .error (e, k) => .tup [.is [] .no, faultV s e k]
theorem scan_ok (h : Heap) (s : List UInt8) (hs : s.length ≤ 16777216) : Ccall tab 18 [.str s] h = some (scanV s, h) := by
  unfold scanV
  refine Ccall_own rfl rfl rfl rfl ?_
  by_cases hb : 65536 < s.length
  · rw [if_pos hb]
    have hb' : 65536 < (s.length : Int) := by omega
    clear hs hb
    repeat (any_goals first | simp (dsimp := false) (maxSteps := 4000000) (maxDischargeDepth := 8) (implicitDefEqProofs := false) [*, -Int.not_le, -Int.not_lt, amLt, f18c, f18m6, f18r0, f18r1, f18r2, f18r3, f18r4, f18r5, f18r6, f18r7, f18r8, f18r9, f18q16, f18r10, f18r11, f18r12, f18r13, f18r14, f18r15, f18r17, f18r18, f18l6_b, f18r16_u, f18r16_w] | with_reducible refine ch_both (fun _ => ?_) (fun _ => ?_) | with_reducible refine ite_both (fun _ => ?_) (fun _ => ?_) | intro _)
  · rw [if_neg hb]
    have hb' : ¬ 65536 < (s.length : Int) := by omega
    have lp := scan_loop s hs (s.length + 1) 0 0 [] .nil [] (Nat.le_refl _) (Nat.zero_le _) (by omega) (Nat.zero_le _) (CapAt.nil 2 6 [])
    have e0 : spotOf s 0 = (1, 1) := rfl
    rw [e0] at lp
    unfold scanS
    push_cast at lp
    simp only [List.length_nil] at lp
    cases hR : scanR s (s.length + 1) 0 0 with
    | error p =>
      obtain ⟨e, k⟩ := p
      rw [hR] at lp
      obtain ⟨t', lp⟩ := lp
      dsimp only
      unfold faultV
      clear hs hb hR e0
      repeat (any_goals first | simp (dsimp := false) (maxSteps := 4000000) (maxDischargeDepth := 8) (implicitDefEqProofs := false) [*, -Int.not_le, -Int.not_lt, amLt, f18c, f18m6, f18r0, f18r1, f18r2, f18r3, f18r4, f18r5, f18r6, f18r7, f18r8, f18r9, f18q16, f18r10, f18r11, f18r12, f18r13, f18r14, f18r15, f18r17, f18r18, f18l6_b, f18r16_u, f18r16_w] | with_reducible refine ch_both (fun _ => ?_) (fun _ => ?_) | with_reducible refine ite_both (fun _ => ?_) (fun _ => ?_) | intro _)
    | ok l =>
      rw [hR] at lp
      obtain ⟨cap', t', lp⟩ := lp
      dsimp only
      rw [List.nil_append] at lp
      clear hs hb hR e0
      repeat (any_goals first | simp (dsimp := false) (maxSteps := 4000000) (maxDischargeDepth := 8) (implicitDefEqProofs := false) [*, -Int.not_le, -Int.not_lt, amLt, f18c, f18m6, f18r0, f18r1, f18r2, f18r3, f18r4, f18r5, f18r6, f18r7, f18r8, f18r9, f18q16, f18r10, f18r11, f18r12, f18r13, f18r14, f18r15, f18r17, f18r18, f18l6_b, f18r16_u, f18r16_w] | with_reducible refine ch_both (fun _ => ?_) (fun _ => ?_) | with_reducible refine ite_both (fun _ => ?_) (fun _ => ?_) | intro _)
theorem runLen_cons (p : Nat → Bool) (b : UInt8) (t : List UInt8) : runLen p (b :: t) = if p b.toNat = true then runLen p t + 1 else 0 := by
  unfold runLen
  rw [List.takeWhile_cons]
  split <;> simp
theorem runLen_take (p : Nat → Bool) : ∀ (s : List UInt8) (j : Nat), runLen p (s.take j) = min j (runLen p s) := by
  intro s
  induction s with
  | nil => intro j; simp [runLen]
  | cons b t ih =>
    intro j
    cases j with
    | zero => simp [runLen]
    | succ j =>
      rw [List.take_succ_cons, runLen_cons, runLen_cons, ih]
      split <;> omega
theorem take_take_le {s : List UInt8} {n j : Nat} (h : n ≤ j) : (s.take j).take n = s.take n := by rw [List.take_take, Nat.min_eq_left h]
theorem pre_take {p s : List UInt8} {j : Nat} (h : hasPre p (s.take j) = true) : hasPre p s = true := by
  have hl := hasPre_len h
  simp only [List.length_take] at hl
  have h1 : (s.take j).take p.length = p := by simpa [hasPre] using h
  rw [take_take_le (by omega)] at h1
  simpa [hasPre] using h1
theorem pre_take' {p s : List UInt8} {j : Nat} (h : hasPre p s = true) (hj : p.length ≤ j) : hasPre p (s.take j) = true := by
  have h1 : s.take p.length = p := by simpa [hasPre] using h
  simp only [hasPre, take_take_le hj, h1, decide_true]
theorem lineEnd_take : ∀ (s : List UInt8) (j : Nat), lineEnd s ≤ j → lineEnd (s.take j) = lineEnd s := by
  intro s
  induction s with
  | nil => intro j _; simp
  | cons b t ih =>
    intro j h
    unfold lineEnd at h
    cases j with
    | zero =>
      split at h
      · rename_i q; simp [lineEnd, q]
      · omega
    | succ j =>
      rw [List.take_succ_cons]
      unfold lineEnd
      split
      · rfl
      · rename_i q
        rw [if_neg q] at h
        rw [ih j (by omega)]
theorem closeC_take : ∀ (s : List UInt8) (n j : Nat), closeC s = some n → n + 2 ≤ j → closeC (s.take j) = some n := by
  intro s
  induction s with
  | nil => intro n j h; cases h
  | cons b t ih =>
    intro n j h hj
    cases j with
    | zero => omega
    | succ j =>
      unfold closeC at h
      by_cases q : hasPre [42, 47] (b :: t) = true
      · rw [if_pos q] at h
        cases h
        have := pre_take' q (show ([42, 47] : List UInt8).length ≤ j + 1 by simp only [List.length_cons, List.length_nil]; omega)
        rw [List.take_succ_cons] at this ⊢
        unfold closeC
        rw [if_pos this]
      · rw [if_neg q] at h
        obtain ⟨k, hk, rfl⟩ := Option.map_eq_some_iff.1 h
        have hq : ¬ hasPre [42, 47] ((b :: t).take (j + 1)) = true := fun h => q (pre_take h)
        rw [List.take_succ_cons] at hq ⊢
        unfold closeC
        rw [if_neg hq, ih k j hk (by omega)]
        rfl
theorem pre2 {a b : UInt8} {s : List UInt8} (h : hasPre [a, b] s = true) : ∃ t, s = a :: b :: t := by
  have h1 : s.take 2 = [a, b] := by simpa [hasPre] using h
  match s with
  | [] => simp at h1
  | [x] => simp at h1
  | x :: y :: t => simp at h1; exact ⟨t, by rw [h1.1, h1.2]⟩
theorem skip_take : ∀ (f : Nat) (r : List UInt8) (f' j : Nat), r.length < f → (r.take j).length < f' → ((skipR f r).1 = j ∨ ((skipR f r).1 < j ∧ (skipR f r).2 = false)) → skipR f' (r.take j) = ((skipR f r).1, false) := by
  intro f
  induction f with
  | zero => intro r f' j h; omega
  | succ f ih =>
    intro r f' j hf hf' hj
    cases f' with
    | zero => omega
    | succ f' =>
      cases r with
      | nil => simp [skipR]
      | cons b t =>
        have hsk := skip_cons f b t
        have hf1 : t.length < f := by simp only [List.length_cons] at hf; omega
        have hf2 : min j (t.length + 1) < f' + 1 := by simpa using hf'
        clear hf hf'
        by_cases q1 : isBlank b.toNat = true
        · rw [if_pos q1] at hsk
          rw [hsk] at hj ⊢
          dsimp only at hj ⊢
          cases j with
          | zero => omega
          | succ j =>
            rw [List.take_succ_cons]
            rw [skip_cons, if_pos q1, ih t f' j (by omega) (by simp only [List.length_take]; omega) (hj.imp (fun h => by omega) (fun h => ⟨by omega, h.2⟩))]
        · rw [if_neg q1] at hsk
          by_cases q2 : hasPre [47, 47] (b :: t) = true
          · rw [if_pos q2] at hsk
            rw [hsk] at hj ⊢
            dsimp only at hj ⊢
            obtain ⟨u, hu⟩ := pre2 q2
            have hl2 : 2 ≤ lineEnd (b :: t) := by rw [hu]; simp [lineEnd]
            have hll := lineEnd_le (b :: t)
            have hlj : lineEnd (b :: t) ≤ j := by omega
            have hp := pre_take' q2 (show ([47, 47] : List UInt8).length ≤ j by simp only [List.length_cons, List.length_nil]; omega)
            have hle := lineEnd_take (b :: t) j hlj
            obtain ⟨j, rfl⟩ : ∃ i, j = i + 1 := ⟨j - 1, by omega⟩
            simp only [List.length_cons] at hll
            rw [List.take_succ_cons] at hp hle ⊢
            rw [skip_cons, if_neg q1, if_pos hp, hle]
            have hd : (b :: t.take j).drop (lineEnd (b :: t)) = ((b :: t).drop (lineEnd (b :: t))).take (j + 1 - lineEnd (b :: t)) := by
              rw [← List.take_succ_cons, List.drop_take]
            rw [hd]
            have hh := ih ((b :: t).drop (lineEnd (b :: t))) f' (j + 1 - lineEnd (b :: t)) (by simp only [List.length_drop, List.length_cons]; omega) (by
              simp only [List.length_take, List.length_drop, List.length_cons]; omega) (hj.imp (fun h => by omega) (fun h => ⟨by omega, h.2⟩))
            rw [hh]
          · rw [if_neg q2] at hsk
            by_cases q3 : hasPre [47, 42] (b :: t) = true
            · rw [if_pos q3] at hsk
              cases hc : closeC t.tail with
              | none =>
                rw [hc] at hsk
                dsimp only at hsk
                rw [hsk] at hj ⊢
                have hj0 : j = 0 := by
                  rcases hj with hj | hj
                  · exact hj.symm
                  · exact absurd hj.2 (by simp)
                subst hj0
                rfl
              | some n =>
                rw [hc] at hsk
                dsimp only at hsk
                rw [hsk] at hj ⊢
                dsimp only at hj ⊢
                have hroom := closeC_room hc
                simp only [List.length_tail] at hroom
                have hp := pre_take' q3 (show ([47, 42] : List UInt8).length ≤ j by simp only [List.length_cons, List.length_nil]; omega)
                have hp2 : ¬ hasPre [47, 47] ((b :: t).take j) = true := fun h => q2 (pre_take h)
                obtain ⟨j, rfl⟩ : ∃ i, j = i + 1 := ⟨j - 1, by omega⟩
                rw [List.take_succ_cons] at hp hp2 ⊢
                have hct : closeC (t.take j).tail = some n := by
                  have : (t.take j).tail = t.tail.take (j - 1) := by
                    cases t with
                    | nil => simp
                    | cons x u => cases j with
                      | zero => omega
                      | succ j => simp
                  rw [this]
                  exact closeC_take _ _ _ hc (by omega)
                rw [skip_cons, if_neg q1, if_neg hp2, if_pos hp, hct]
                dsimp only
                have hd : (b :: t.take j).drop (n + 4) = ((b :: t).drop (n + 4)).take (j + 1 - (n + 4)) := by
                  rw [← List.take_succ_cons, List.drop_take]
                rw [hd]
                have hh := ih ((b :: t).drop (n + 4)) f' (j + 1 - (n + 4)) (by simp only [List.length_drop, List.length_cons]; omega) (by
                  simp only [List.length_take, List.length_drop, List.length_cons]; omega) (hj.imp (fun h => by omega) (fun h => ⟨by omega, h.2⟩))
                rw [hh]
            · rw [if_neg q3] at hsk
              rw [hsk] at hj ⊢
              cases j with
              | zero => rfl
              | succ j =>
                have hp2 : ¬ hasPre [47, 47] ((b :: t).take (j + 1)) = true := fun h => q2 (pre_take h)
                have hp3 : ¬ hasPre [47, 42] ((b :: t).take (j + 1)) = true := fun h => q3 (pre_take h)
                rw [List.take_succ_cons] at hp2 hp3 ⊢
                rw [skip_cons, if_neg q1, if_neg hp2, if_neg hp3]

end Go.Proofs.YtmpdpjkblcdfkaaDoor
