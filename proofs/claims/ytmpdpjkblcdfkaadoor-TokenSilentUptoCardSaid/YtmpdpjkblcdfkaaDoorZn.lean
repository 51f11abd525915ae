/- Gaps turn nothing. -/
import Derived.Test.YtmpdpjkblcdfkaaDoorZm
import Derived.Test.YtmpdpjkblcdfkaaDoorAmW
namespace Go.Proofs.YtmpdpjkblcdfkaaDoor
open Go.AM
set_option maxRecDepth 20000
set_option maxHeartbeats 4000000
set_option linter.unusedSimpArgs false
set_option linter.unusedVariables false
attribute [local congr] andF_cg onF_cg bthen_cg bkeep_cg bcond_cg guardV_cg putF_cg guardF_cg ite_cg stepsF_cg
attribute [local simp] Brun_skip Brun_exit Brun_ret Brun_seq Brun_cond Brun_block Brun_region bthen_normal bthen_ret bthen_exit bblock_normal bblock_ret bblock_exit bkeep_some andF_some onF_some onF_none guardF_none guardF_some guardV_tup putF_some putF_none stepsF_nil stepsF_cons upd_apply ofL_cons ofL_nil bown_normal bown_ret banswer_normal banswer_ret aresults ares List.replicate stepF_call stepF_callD stepF_move stepF_pick stepF_alloc stepF_allocV stepF_box stepF_boxV stepF_build stepF_buildSlice stepF_buildSliceV stepF_load stepF_store stepF_nilCheck stepF_bin stepF_eq stepF_un stepF_conv stepF_strId stepF_toStr stepF_toBytes stepF_fn stepF_mkSlice stepF_slice stepF_strSlice stepF_fieldAddr stepF_field stepF_idxAddr stepF_idxArr stepF_index stepF_strIndex stepF_extract stepF_len0 stepF_len1 stepF_min stepF_max stepF_append stepF_appendF appF_none appF_row stepF_mkMap stepF_mkIface stepF_lookup stepF_mapUpdate stepF_ext aext_idx aext_count aext_same cellsF newF abin_add abin_sub abin_mul abin_quo abin_rem abin_eql abin_neq abin_lss abin_leq abin_gtr abin_geq abin_and abin_or abin_xor abin_shl abin_shr abin_seql abin_sneq aun_not aun_neg aeq_bool aeq_agg eqCells_nil eqCells_int eqCells_bool eqCells_str cellsOf_agg cellsOf_int cellsOf_bool cellsOf_str cellsOf_is cellsOf_ms cellsOf_fn cellsOf_nilp cellsOf_mp cellsOf_mm cellsOf_nilm cellsOf_nili cellsOf_ifc cellsOf_ip cget_one cget_agg ev_t ev_c fillp_nil fillp_cons isSc_int isSc_bool isSc_str isSc_is isSc_ms isSc_fn isSc_mm isSc_mp isSc_ip isSc_nilp isSc_nilm isSc_nili isSc_nilf isSc_ifc splice chunk strip strip.stripL imm imm.immL Areify_int Areify_bool Areify_str Areify_is Areify_nilp Areify_tup Areify_agg AreifyL andF_chi andF_ch onF_chi onF_ch bthen_ch bthen_chi bblock_ch bblock_chi bkeep_ch bkeep_chi bown_ch bown_chi banswer_ch banswer_chi isSome_ch bcond_ch guardV_ch1 guardV_ch0 chF_true chF_false chF_not
attribute [local simp ↓] andF_some andF_chi andF_ch onF_some onF_none onF_chi onF_ch bthen_normal bthen_ret bthen_exit bthen_ch bthen_chi bblock_normal bblock_ret bblock_exit bblock_ch bblock_chi bkeep_some bkeep_ch bkeep_chi bown_normal bown_ret bown_ch bown_chi banswer_normal banswer_ret banswer_ch banswer_chi bcond_ch guardV_ch1 guardV_ch0 guardV_tup guardF_none guardF_some putF_some putF_none stepsF_nil stepsF_cons chF_true chF_false Brun_seq Brun_cond Brun_block Brun_region Brun_skip Brun_ret Brun_exit stepF_call stepF_callD stepF_move stepF_pick stepF_alloc stepF_allocV stepF_box stepF_boxV stepF_build stepF_buildSlice stepF_buildSliceV stepF_load stepF_store stepF_nilCheck stepF_bin stepF_eq stepF_un stepF_conv stepF_strId stepF_toStr stepF_toBytes stepF_fn stepF_mkSlice stepF_slice stepF_strSlice stepF_fieldAddr stepF_field stepF_idxAddr stepF_idxArr stepF_index stepF_strIndex stepF_extract stepF_len0 stepF_len1 stepF_min stepF_max stepF_append stepF_appendF stepF_mkMap stepF_mkIface stepF_lookup stepF_mapUpdate stepF_ext
set_option maxHeartbeats 2000000
theorem quo_out {q : UInt8} : ∀ {f : Nat} {r o : List UInt8} {m : Nat}, quoR q f r = some (o, m) → o.length ≤ r.length := by
  intro f
  induction f with
  | zero => intro r o m h; cases h
  | succ f ih =>
    intro r o m h
    cases r with
    | nil => cases h
    | cons c t =>
      simp only [quoR] at h
      split at h
      · cases h; simp
      · split at h
        · cases h
        · split at h
          · split at h
            · rename_i b n he
              obtain ⟨p, hp, he2⟩ := Option.map_eq_some_iff.1 h
              cases he2
              have := ih hp
              simp only [List.length_drop, List.length_cons] at *
              omega
            · cases h
          · obtain ⟨p, hp, he2⟩ := Option.map_eq_some_iff.1 h
            cases he2
            have := ih hp
            simp only [List.length_cons]
            omega
theorem sign_pre (b : UInt8) (t : List UInt8) : (b :: t).take (signR (b :: t)).length = signR (b :: t) := by
  unfold signR
  split
  · rename_i x hx
    have h1 := List.find?_some hx
    simpa [hasPre] using h1
  · dsimp only
    split <;> simp
/-- What was read may be written. -/
theorem one_may {s t : List UInt8} {k v : Int} {m : Nat} (h : oneR s = .ok ((k, t, v), m)) : k ≠ 0 ∧ mayS k t v = true ∧ t.length ≤ s.length + 20 := by
  unfold oneR at h
  split at h
  · cases h
  · rename_i b r
    split at h
    · rename_i hl
      split at h
      · cases h
      · rename_i h63
        have hle := runLen_le isTail (b :: r)
        have hall : allTail ((b :: r).take (runLen isTail (b :: r))) = true := List.all_eq_true.2 (run_mem (Nat.le_refl _))
        have hlen : ((b :: r).take (runLen isTail (b :: r))).length = runLen isTail (b :: r) := by rw [List.length_take]; omega
        have hpos := run_pos (p := isTail) (b := b) (t := r) (by rw [tail_or, hl]; rfl)
        obtain ⟨n, hn⟩ : ∃ n, runLen isTail (b :: r) = n + 1 := ⟨runLen isTail (b :: r) - 1, by omega⟩
        have hw : isWord ((b :: r).take (runLen isTail (b :: r))) = true := by
          have hd : decide (((b :: r).take (runLen isTail (b :: r))).length ≤ 63) = true := by simp only [decide_eq_true_eq, hlen]; omega
          rw [hn, List.take_succ_cons] at hall hd ⊢
          simp only [isWord, hl, hall, hd, Bool.and_self]
        injection h with h
        simp only [Prod.mk.injEq] at h
        obtain ⟨⟨rfl, rfl, rfl⟩, rfl⟩ := h
        refine ⟨by split <;> decide, ?_, by rw [hlen]; omega⟩
        by_cases hk : isKw ((b :: r).take (runLen isTail (b :: r))) = true
        · rw [if_pos hk]; simp [mayS, hk]
        · rw [if_neg hk]; simp [mayS, hk, hw]
    · split at h
      · split at h
        · cases h
        · rename_i tx vv hN
          injection h with h
          simp only [Prod.mk.injEq] at h
          obtain ⟨⟨rfl, rfl, rfl⟩, rfl⟩ := h
          unfold numberR at hN
          split at hN
          · cases hN
          · rename_i u l _
            split at hN
            · cases hN
            · rename_i v2 ten _
              split at hN
              · cases hN
              · rename_i hv
                split at hN
                · cases hN
                · rename_i hq
                  cases hN
                  have hlen : ∀ a b, (typT a b).length ≤ 13 := by intro a b; cases a <;> cases b <;> decide
                  refine ⟨by decide, ?_, by have := hlen (u || decide (2147483647 < vv)) l; omega⟩
                  show mayN _ _ = true
                  exact mayN_mk _ _ (by omega) (by omega) (by
                    rintro ⟨h1, h2⟩
                    simp only [Bool.or_eq_false_iff, decide_eq_false_iff_not] at h1
                    omega)
      · split at h
        · split at h
          · cases h
          · rename_i o mm hq
            split at h
            · injection h with h
              simp only [Prod.mk.injEq] at h
              obtain ⟨⟨rfl, rfl, rfl⟩, rfl⟩ := h
              refine ⟨by decide, rfl, ?_⟩
              have := quo_out hq
              simp only [List.drop_succ_cons, List.drop_zero, List.length_cons] at this ⊢
              omega
            · split at h
              · rename_i x
                injection h with h
                simp only [Prod.mk.injEq] at h
                obtain ⟨⟨rfl, rfl, rfl⟩, rfl⟩ := h
                refine ⟨by decide, ?_, by simp⟩
                have hx := UInt8.toNat_lt x
                have : -128 ≤ sgn x ∧ sgn x ≤ 127 := by
                  unfold sgn
                  simp only [IntKind.wrap, IntKind.bits, IntKind.signed]
                  simp
                  omega
                simp [mayS, this]
              · cases h
        · split at h
          · cases h
          · rename_i hs
            injection h with h
            simp only [Prod.mk.injEq] at h
            obtain ⟨⟨rfl, rfl, rfl⟩, rfl⟩ := h
            refine ⟨by decide, ?_, by have := sign_len (b :: r); omega⟩
            have hsg : signR (signR (b :: r)) = signR (b :: r) := by
              have := sign_take (j := (signR (b :: r)).length) hs (Nat.le_refl _)
              have hpre : (b :: r).take (signR (b :: r)).length = signR (b :: r) := sign_pre b r
              rw [hpre] at this
              exact this
            simp [mayS, hsg, hs]
theorem scan_mays {s : List UInt8} : ∀ {f at_ n : Nat} {l : List Tk}, n ≤ 16384 → at_ ≤ s.length → scanR s f at_ n = .ok l → ∃ l0 k, l = l0 ++ [((0, [], 0), k)] ∧ n + l0.length ≤ 16384 ∧ ∀ x ∈ l0, x.1.1 ≠ 0 ∧ mayS x.1.1 x.1.2.1 x.1.2.2 = true ∧ x.1.2.1.length ≤ s.length + 20 := by
  intro f
  induction f with
  | zero => intro at_ n l _ _ h; cases h
  | succ f ih =>
    intro at_ n l hn hat h
    obtain ⟨hn1, hn2⟩ := next_le s hat
    rw [scan_succ] at h
    split at h
    · cases h
    · split at h
      · cases h; exact ⟨[], _, rfl, by simpa using hn, by simp⟩
      · cases hO : oneR (s.drop (nextR s at_)) with
        | error e => rw [hO] at h; cases h
        | ok p =>
          obtain ⟨⟨k, t, v⟩, m⟩ := p
          rw [hO] at h
          dsimp only at h
          obtain ⟨hm0, hm⟩ := one_len hO
          obtain ⟨h1, h2, h3⟩ := one_may hO
          simp only [List.length_drop] at hm h3
          split at h
          · cases h
          · rename_i hne
            cases hR : scanR s f (nextR s at_ + m) (n + 1) with
            | error e => rw [hR] at h; cases h
            | ok l' =>
              rw [hR] at h
              cases h
              obtain ⟨l0, k0, e, e2, e3⟩ := ih (by omega) (by omega) hR
              subst e
              refine ⟨_ :: l0, k0, rfl, by simp only [List.length_cons]; omega, fun x hx => ?_⟩
              rcases List.mem_cons.1 hx with rfl | hx
              · exact ⟨h1, h2, by dsimp only; omega⟩
              · exact e3 x hx
/-- The gap that a mark tells. -/
def gapN (mk : List UInt8) (i : Nat) : Nat := match mk[i]? with
  | some b => b.toNat % 6
  | none => 0
def gapAt (mk : List UInt8) (i : Nat) : List UInt8 := gapT.getD (gapN mk i) []
theorem gapN_lt (mk : List UInt8) (i : Nat) : gapN mk i < 6 := by
  unfold gapN
  split
  · omega
  · omega
theorem gap_get (mk : List UInt8) (i : Nat) : gapT[gapN mk i]? = some (gapAt mk i) := by
  have h := gapN_lt mk i
  have hl : gapT.length = 6 := rfl
  unfold gapAt
  rw [List.getElem?_eq_getElem (by omega), List.getD_eq_getElem?_getD, List.getElem?_eq_getElem (by omega)]
  rfl
theorem gapAt_gap (mk : List UInt8) (i : Nat) : Gapped (32 :: gapAt mk i) := gap_app gap_32 (gap_all _ (List.mem_of_getElem? (gap_get mk i)))
theorem gapAt_len (mk : List UInt8) (i : Nat) : (gapAt mk i).length ≤ 10 := by
  have h : ∀ g ∈ gapT, g.length ≤ 10 := by decide
  exact h _ (List.mem_of_getElem? (gap_get mk i))
/-- Tokens, each with a gap behind it. -/
def tailS (mk : List UInt8) : Nat → List Y6 → List UInt8
  | _, [] => []
  | i, y :: r => writtenS y.1 y.2.1 y.2.2.1 ++ (32 :: gapAt mk i) ++ tailS mk (i + 1) r
def itemsS (mk : List UInt8) : Nat → List Y6 → List Item
  | _, [] => []
  | i, y :: r => (tok3 y, writtenS y.1 y.2.1 y.2.2.1, 32 :: gapAt mk i) :: itemsS mk (i + 1) r
theorem tail_items (mk : List UInt8) (z : Y6) (hz : writtenS z.1 z.2.1 z.2.2.1 = []) : ∀ (l : List Y6) (i : Nat), tailS mk i (l ++ [z]) = bodyT (32 :: gapAt mk (i + l.length)) (itemsS mk i l) := by
  intro l
  induction l with
  | nil => intro i; simp [tailS, itemsS, bodyT, hz]
  | cons y r ih =>
    intro i
    have := ih (i + 1)
    simp only [List.cons_append, tailS, itemsS, bodyT, this, List.length_cons, List.append_assoc]
    rw [show i + 1 + r.length = i + (r.length + 1) by omega]
theorem itemsS_ok (mk : List UInt8) (e : List UInt8) : ∀ (l : List Y6) (i : Nat), (∀ y ∈ l, y.1 ≠ 0 ∧ mayS y.1 y.2.1 y.2.2.1 = true) → OKs e (itemsS mk i l) := by
  intro l
  induction l with
  | nil => intro i _; trivial
  | cons y r ih =>
    intro i h
    obtain ⟨h0, hm⟩ := h y (by simp)
    exact ⟨fun u hu => (may_back h0 hm hu).2.2, (may_back h0 hm (.inl rfl)).1, gapAt_gap mk i, .inr ⟨_, rfl⟩, ih (i + 1) fun z hz => h z (by simp [hz])⟩
theorem itemsS_map (mk : List UInt8) : ∀ (l : List Y6) (i : Nat), (itemsS mk i l).map (·.1) = l.map tok3 := by
  intro l
  induction l with
  | nil => intro i; rfl
  | cons y r ih => intro i; simp only [itemsS, List.map_cons, ih]
/-- What is cut with other gaps is cut alike. -/
theorem silent_scan (mk : List UInt8) (l0 : List Y6) (z : Y6) (hz : z.1 = 0 ∧ z.2.1 = [] ∧ z.2.2.1 = 0) (hl : l0.length ≤ 16384) (h : ∀ y ∈ l0, y.1 ≠ 0 ∧ mayS y.1 y.2.1 y.2.2.1 = true) :
    ∃ L, scanS (10 :: tailS mk 0 (l0 ++ [z])) = .ok L ∧ (toks6 (10 :: tailS mk 0 (l0 ++ [z])) L).map plainY = (l0 ++ [z]).map plainY := by
  have hw : writtenS z.1 z.2.1 z.2.2.1 = [] := by rw [hz.1, hz.2.1]; rfl
  rw [tail_items mk z hw l0 0]
  obtain ⟨h1, _⟩ := scan_items (gapAt_gap mk (0 + l0.length)) (itemsS mk 0 l0) [10] 0 0 ((10 :: bodyT (32 :: gapAt mk (0 + l0.length)) (itemsS mk 0 l0)).length + 1) (s := 10 :: bodyT (32 :: gapAt mk (0 + l0.length)) (itemsS mk 0 l0)) (itemsS_ok mk _ l0 0 h) (gap_blank (by decide)) rfl (Nat.zero_le _) (by omega) (by omega)
  have hlen : (itemsS mk 0 l0).length = l0.length := by have := congrArg List.length (itemsS_map mk l0 0); simpa using this
  obtain ⟨L, h3, h4⟩ := h1 (by rw [hlen]; omega)
  refine ⟨L, h3, ?_⟩
  rw [toks_plain2, h4, itemsS_map, List.map_append, List.map_append, List.map_map]
  obtain ⟨k, t, n, a, b, c⟩ := z
  obtain ⟨e1, e2, e3⟩ := hz
  dsimp only at e1 e2 e3
  subst e1 e2 e3
  rfl
theorem silent_body (mk : List UInt8) (R G : List (List AV)) (T w g : List UInt8) (i : Nat) (k n l c o : Int) (tx : List UInt8) (h : Heap) (hR : R.length ≤ 1000000000) (hG : G.length = 6) (hgg : G[gapN mk i]? = some [.str g]) (hg : R[i]? = some [.int .i64 k, .str tx, .int .i64 n, .int .i64 l, .int .i64 c, .int .i64 o]) (hi : i < R.length) (hT : T.length < 60000)
    (hW : ∀ h, Ccall tab 21 [.agg [.int .i64 k, .str tx, .int .i64 n, .int .i64 l, .int .i64 c, .int .i64 o]] h = some (.tup [.str w, .int .i64 0], h)) (hwl : w.length ≤ 4194400) (hgl : g.length ≤ 10) :
    Brun tab 102 f5l7 (ofL [(1, .is (bys mk) .no), (5, .is R .no), (7, .is G .full), (8, .str T), (9, .int .i64 i)]) h = some (.normal, ofL [(1, .is (bys mk) .no), (5, .is R .no), (7, .is G .full), (8, .str (T ++ w ++ [32] ++ g)), (9, .int .i64 (i + 1))], h) := by
  have e3 : ¬ (R.length : Int) ≤ i := by omega
  have hT' : ¬ (60000 : Int) ≤ T.length := by omega
  have hw := w64 i (by omega)
  have a1 := str_add (a := T) (b := w) (by omega)
  have a2 := str_add (a := T ++ w) (b := [32]) (by simp; omega)
  have a3 := str_add (a := T ++ w ++ [32]) (b := g) (by simp; omega)
  have hbl := bys_len mk
  cases hm : mk[i]? with
  | some b =>
    have hn : gapN mk i = b.toNat % 6 := by unfold gapN; rw [hm]
    have hb := bys_get hm
    have e4 : ¬ (mk.length : Int) ≤ i := by have := lt_get hm; omega
    have hbt := UInt8.toNat_lt b
    have wb : IntKind.i64.wrap (b.toNat : Int) = b.toNat := IntWalk.i64_in _ (by omega)
    have tm : ((b.toNat : Int)).tmod 6 = ((b.toNat % 6 : Nat) : Int) := by rw [Int.tmod_eq_emod_of_nonneg (by omega)]; omega
    rw [hn] at hgg
    have hlt : b.toNat % 6 < 6 := by omega
    have hgg2 : ∀ hh : b.toNat % 6 < G.length, G[b.toNat % 6]'hh = [.str g] := fun hh => (List.getElem?_eq_some_iff.1 hgg).2
    generalize b.toNat % 6 = q at *
    generalize T ++ w ++ [32] ++ g = T3 at *
    generalize T ++ w ++ [32] = T2 at *
    generalize T ++ w = T1 at *
    generalize bys mk = B at *
    clear hR hT hwl hgl hm hn hi hbt
    repeat (any_goals first | simp (dsimp := false) (maxSteps := 4000000) (maxDischargeDepth := 8) (implicitDefEqProofs := false) [*, -Int.not_le, -Int.not_lt, amLt, f5c, f5m7, f5r0, f5r1, f5r2, f5r3, f5r4, f5r5, f5r6, f5r7, f5r8, f5r9, f5r10, f5r11, f5r12, f5r13, f5r14, f5r15, f5r16, f5r17, f5r18, f5r19, f5l7_b, num17] | with_reducible refine ch_both (fun _ => ?_) (fun _ => ?_) | with_reducible refine ite_both (fun _ => ?_) (fun _ => ?_) | intro _)
  | none =>
    have hn : gapN mk i = 0 := by unfold gapN; rw [hm]
    have e4 : (mk.length : Int) ≤ i := by have := List.getElem?_eq_none_iff.1 hm; omega
    rw [hn] at hgg
    have hgg2 : ∀ hh : 0 < G.length, G[0]'hh = [.str g] := fun hh => (List.getElem?_eq_some_iff.1 hgg).2
    generalize T ++ w ++ [32] ++ g = T3 at *
    generalize T ++ w ++ [32] = T2 at *
    generalize T ++ w = T1 at *
    generalize bys mk = B at *
    clear hR hT hwl hgl hm hn hi
    repeat (any_goals first | simp (dsimp := false) (maxSteps := 4000000) (maxDischargeDepth := 8) (implicitDefEqProofs := false) [*, -Int.not_le, -Int.not_lt, amLt, f5c, f5m7, f5r0, f5r1, f5r2, f5r3, f5r4, f5r5, f5r6, f5r7, f5r8, f5r9, f5r10, f5r11, f5r12, f5r13, f5r14, f5r15, f5r16, f5r17, f5r18, f5r19, f5l7_b, num17] | with_reducible refine ch_both (fun _ => ?_) (fun _ => ?_) | with_reducible refine ite_both (fun _ => ?_) (fun _ => ?_) | intro _)
theorem silent_loop (mk : List UInt8) (Y : List Y6) (hY : Y.length ≤ 1000000) (hy : ∀ y ∈ Y, mayS y.1 y.2.1 y.2.2.1 = true ∧ y.2.1.length ≤ 1048576) : ∀ (r : List Y6) (i : Nat) (T : List UInt8), Y.drop i = r → i ≤ Y.length → T.length ≤ 5000000 →
    ∃ (T' : List UInt8) (i' : Nat), T'.length ≤ 5000000 ∧ (T'.length < 60000 → T' = T ++ tailS mk i r) ∧ ∀ h, Brun tab 102 (.loop f5l7) (ofL [(1, .is (bys mk) .no), (5, .is (rows6 Y) .no), (7, .is (strs gapT) .full), (8, .str T), (9, .int .i64 i)]) h =
      some (.exit 0, ofL [(1, .is (bys mk) .no), (5, .is (rows6 Y) .no), (7, .is (strs gapT) .full), (8, .str T'), (9, .int .i64 i'), (45, .bool false)], h) := by
  have hR : (rows6 Y).length = Y.length := rows6_len Y
  intro r
  induction r with
  | nil =>
    intro i T hr hi hT
    have hlen := congrArg List.length hr
    simp only [List.length_drop, List.length_nil] at hlen
    refine ⟨T, i, hT, fun _ => by simp [tailS], fun h => ?_⟩
    have e3 : (Y.length : Int) ≤ i := by omega
    rw [Brun_loop]
    generalize strs gapT = G at *
    generalize bys mk = B at *
    generalize rows6 Y = R at *
    clear hr hi hlen hY hy hT
    repeat (any_goals first | simp (dsimp := false) (maxSteps := 4000000) (maxDischargeDepth := 8) (implicitDefEqProofs := false) [*, -Int.not_le, -Int.not_lt, amLt, f5c, f5m7, f5r0, f5r1, f5r2, f5r3, f5r4, f5r5, f5r6, f5r7, f5r8, f5r9, f5r10, f5r11, f5r12, f5r13, f5r14, f5r15, f5r16, f5r17, f5r18, f5r19, f5l7_b] | with_reducible refine ch_both (fun _ => ?_) (fun _ => ?_) | with_reducible refine ite_both (fun _ => ?_) (fun _ => ?_) | intro _)
  | cons y r ih =>
    intro i T hr hi hT
    have hlen := congrArg List.length hr
    simp only [List.length_drop, List.length_cons] at hlen
    by_cases hb : T.length < 60000
    · have hg0 : Y[i]? = some y := by
        have := congrArg (·[0]?) hr
        simpa using this
      have hmem : y ∈ Y := List.mem_of_getElem? hg0
      have htl : Y.drop (i + 1) = r := by
        have := congrArg List.tail hr
        simpa using this
      obtain ⟨hm, hyl⟩ := hy y hmem
      have hg : (rows6 Y)[i]? = some (row6 y) := by simp [rows6, hg0]
      have hW := fun h => write_ok h y.1 y.2.2.1 y.2.2.2.1 y.2.2.2.2.1 y.2.2.2.2.2 y.2.1 hyl
      have ho : outS y.1 y.2.1 y.2.2.1 = some (writtenS y.1 y.2.1 y.2.2.1) := by unfold outS; rw [if_pos hm]
      have hwl := written_len hyl hm
      simp only [ho, outV] at hW
      have hgl := gapAt_len mk i
      have hgg : (strs gapT)[gapN mk i]? = some [.str (gapAt mk i)] := by
        have := gap_get mk i
        simp only [strs, List.getElem?_map, this, Option.map_some]
      have hbd := fun h => silent_body mk (rows6 Y) (strs gapT) T (writtenS y.1 y.2.1 y.2.2.1) (gapAt mk i) i y.1 y.2.2.1 y.2.2.2.1 y.2.2.2.2.1 y.2.2.2.2.2 y.2.1 h (by omega) rfl hgg hg (by omega) hb hW hwl hgl
      obtain ⟨T', i', h1, h2, h3⟩ := ih (i + 1) (T ++ writtenS y.1 y.2.1 y.2.2.1 ++ [32] ++ gapAt mk i) htl (by omega) (by simp only [List.length_append, List.length_singleton]; omega)
      refine ⟨T', i', h1, fun q => ?_, fun h => ?_⟩
      · rw [h2 q]; simp [tailS]
      · have h3 := h3 h
        push_cast at h3
        rw [Brun_loop, hbd, bthen_normal]
        exact h3
    · refine ⟨T, i, hT, fun q => absurd q hb, fun h => ?_⟩
      have e3 : ¬ (Y.length : Int) ≤ i := by omega
      have e4 : (60000 : Int) ≤ T.length := by omega
      rw [Brun_loop]
      generalize strs gapT = G at *
      generalize bys mk = B at *
      generalize rows6 Y = R at *
      clear hr hi hlen hY hy hT ih hb
      repeat (any_goals first | simp (dsimp := false) (maxSteps := 4000000) (maxDischargeDepth := 8) (implicitDefEqProofs := false) [*, -Int.not_le, -Int.not_lt, amLt, f5c, f5m7, f5r0, f5r1, f5r2, f5r3, f5r4, f5r5, f5r6, f5r7, f5r8, f5r9, f5r10, f5r11, f5r12, f5r13, f5r14, f5r15, f5r16, f5r17, f5r18, f5r19, f5l7_b] | with_reducible refine ch_both (fun _ => ?_) (fun _ => ?_) | with_reducible refine ite_both (fun _ => ?_) (fun _ => ?_) | intro _)
theorem silent_err (h : Heap) (s mk : List UInt8) (e l c k : Int) (he : ¬ e = 0) (h20 : (20 : Int) ≤ e) (h26 : e ≤ 26) (hs : ∀ h, Ccall tab 18 [.str s] h = some (.tup [.is [] .no, .agg [.int .i64 e, .int .i64 l, .int .i64 c, .int .i64 k]], h)) : Ccall tab 5 [.str s, .is (bys mk) .no] h = some (.bool true, h) := by
  refine Ccall_own rfl rfl rfl rfl ?_
  generalize bys mk = B at *
  repeat (any_goals first | simp (dsimp := false) (maxSteps := 4000000) (maxDischargeDepth := 8) (implicitDefEqProofs := false) [*, -Int.not_le, -Int.not_lt, amLt, f5c, f5m7, f5r0, f5r1, f5r2, f5r3, f5r4, f5r5, f5r6, f5r7, f5r8, f5r9, f5r10, f5r11, f5r12, f5r13, f5r14, f5r15, f5r16, f5r17, f5r18, f5r19, f5l7_b, num17, heads_ok] | with_reducible refine ch_both (fun _ => ?_) (fun _ => ?_) | with_reducible refine ite_both (fun _ => ?_) (fun _ => ?_) | intro _)
theorem silent_main (h : Heap) (s mk T : List UInt8) (Y M : List Y6) (i' : Nat) (hY : Y.length ≤ 1000000) (hM : M.length ≤ 1000000)
    (hs : ∀ h, Ccall tab 18 [.str s] h = some (.tup [.is (rows6 Y) .no, .agg [.int .i64 0, .int .i64 0, .int .i64 0, .int .i64 0]], h))
    (lp : ∀ h, Brun tab 102 (.loop f5l7) (ofL [(1, .is (bys mk) .no), (5, .is (rows6 Y) .no), (7, .is (strs gapT) .full), (8, .str [10]), (9, .int .i64 0)]) h = some (.exit 0, ofL [(1, .is (bys mk) .no), (5, .is (rows6 Y) .no), (7, .is (strs gapT) .full), (8, .str T), (9, .int .i64 i'), (45, .bool false)], h))
    (hT : T.length < 60000 → (∀ h, Ccall tab 18 [.str T] h = some (.tup [.is (rows6 M) .no, .agg [.int .i64 0, .int .i64 0, .int .i64 0, .int .i64 0]], h)) ∧ M.map plainY = Y.map plainY) : Ccall tab 5 [.str s, .is (bys mk) .no] h = some (.bool true, h) := by
  have eg : strs gapT = [[.str [32]], [.str [10]], [.str [47, 42, 34, 42, 47]], [.str [9, 13, 11, 12, 32]], [.str [47, 47, 32, 39, 10]], [.str [47, 42, 42, 42, 47, 32, 47, 42, 42, 47]]] := rfl
  rw [eg] at lp
  refine Ccall_own rfl rfl rfl rfl ?_
  by_cases hb : T.length < 60000
  · have hb' : ¬ (60000 : Int) ≤ T.length := by omega
    obtain ⟨hsT, hp⟩ := hT hb
    obtain ⟨cap1, x1, _, p1⟩ := plain_ok [.cells [.int .i64 0, .int .i64 0, .int .i64 0, .int .i64 0], .cells [.int .i64 0, .int .i64 0, .int .i64 0, .int .i64 0]] Y .no (by omega)
    obtain ⟨cap2, x2, _, p2⟩ := plain_ok (.cells [.int .i64 0, .int .i64 0, .int .i64 0, .int .i64 0] :: .cells [.int .i64 0, .int .i64 0, .int .i64 0, .int .i64 0] :: x1) M .no (by omega)
    rw [hp] at p2
    have hsame := fun h => same_ok h (Y.map plainY) cap1 cap2 (by simp; omega)
    simp only [List.cons_append, List.nil_append] at p1 p2
    generalize rows6 (Y.map plainY) = RP at *
    generalize rows6 Y = R at *
    generalize rows6 M = RM at *
    generalize bys mk = B at *
    clear hY hM hT hb hp eg
    repeat (any_goals first | simp (dsimp := false) (maxSteps := 4000000) (maxDischargeDepth := 8) (implicitDefEqProofs := false) [*, -Int.not_le, -Int.not_lt, amLt, f5c, f5m7, f5r0, f5r1, f5r2, f5r3, f5r4, f5r5, f5r6, f5r7, f5r8, f5r9, f5r10, f5r11, f5r12, f5r13, f5r14, f5r15, f5r16, f5r17, f5r18, f5r19, f5l7_b, num17, heads_ok, app_get, app_get0, app_set, app_set0] | with_reducible refine ch_both (fun _ => ?_) (fun _ => ?_) | with_reducible refine ite_both (fun _ => ?_) (fun _ => ?_) | intro _)
  · have hb' : (60000 : Int) ≤ T.length := by omega
    generalize rows6 Y = R at *
    generalize bys mk = B at *
    clear hY hM hT hb eg
    repeat (any_goals first | simp (dsimp := false) (maxSteps := 4000000) (maxDischargeDepth := 8) (implicitDefEqProofs := false) [*, -Int.not_le, -Int.not_lt, amLt, f5c, f5m7, f5r0, f5r1, f5r2, f5r3, f5r4, f5r5, f5r6, f5r7, f5r8, f5r9, f5r10, f5r11, f5r12, f5r13, f5r14, f5r15, f5r16, f5r17, f5r18, f5r19, f5l7_b, num17, heads_ok, app_get, app_get0, app_set, app_set0] | with_reducible refine ch_both (fun _ => ?_) (fun _ => ?_) | with_reducible refine ite_both (fun _ => ?_) (fun _ => ?_) | intro _)
theorem silent_ok (h : Heap) (s mk : List UInt8) (hs : s.length ≤ 1048576) : Ccall tab 5 [.str s, .is (bys mk) .no] h = some (.bool true, h) := by
  have hsc := fun h => scan_ok h s (by omega)
  unfold scanV at hsc
  by_cases hb : 65536 < s.length
  · simp only [if_pos hb] at hsc
    exact silent_err h s mk 24 0 0 0 (by decide) (by decide) (by decide) hsc
  · simp only [if_neg hb] at hsc
    cases hS : scanS s with
    | error p =>
      obtain ⟨e, k⟩ := p
      simp only [hS, faultV] at hsc
      have he := scan_err _ _ _ _ _ hS (Nat.zero_le _) (by omega)
      exact silent_err h s mk e _ _ _ (by omega) (by omega) (by omega) hsc
    | ok L =>
      simp only [hS, toks_rows] at hsc
      obtain ⟨l0, k, rfl, h1, h2⟩ := scan_mays (Nat.zero_le _) (Nat.zero_le _) hS
      have hYl : (toks6 s (l0 ++ [((0, [], 0), k)])).length ≤ 1000000 := by simp only [toks6, List.length_map, List.length_append, List.length_singleton]; omega
      have hsplit : toks6 s (l0 ++ [((0, [], 0), k)]) = toks6 s l0 ++ [(0, [], 0, ((spotOf s k).1 : Int), ((spotOf s k).2 : Int), (k : Int))] := by simp [toks6]
      have hmem : ∀ y ∈ toks6 s l0, y.1 ≠ 0 ∧ mayS y.1 y.2.1 y.2.2.1 = true ∧ y.2.1.length ≤ s.length + 20 := by
        intro y hy
        simp only [toks6, List.mem_map] at hy
        obtain ⟨x, hx, rfl⟩ := hy
        exact h2 x hx
      have hy : ∀ y ∈ toks6 s (l0 ++ [((0, [], 0), k)]), mayS y.1 y.2.1 y.2.2.1 = true ∧ y.2.1.length ≤ 1048576 := by
        intro y hy
        rw [hsplit] at hy
        rcases List.mem_append.1 hy with hy | hy
        · obtain ⟨_, q1, q2⟩ := hmem y hy
          exact ⟨q1, by omega⟩
        · simp only [List.mem_singleton] at hy
          subst hy
          exact ⟨rfl, by simp⟩
      obtain ⟨T, i', g1, g2, g3⟩ := silent_loop mk (toks6 s (l0 ++ [((0, [], 0), k)])) hYl hy _ 0 [10] rfl (Nat.zero_le _) (by simp)
      rw [List.drop_zero] at g2
      obtain ⟨L', s1, s2⟩ := silent_scan mk (toks6 s l0) (0, [], 0, ((spotOf s k).1 : Int), ((spotOf s k).2 : Int), (k : Int)) ⟨rfl, rfl, rfl⟩ (by simp only [toks6, List.length_map]; omega) (fun y hy => ⟨(hmem y hy).1, (hmem y hy).2.1⟩)
      rw [← hsplit] at s1 s2
      have hM := scan_rows_le (Nat.zero_le _) s1
      by_cases hb2 : T.length < 60000
      · have hTe := g2 hb2
        rw [List.singleton_append] at hTe
        rw [← hTe] at s1 s2 hM
        refine silent_main h s mk T _ (toks6 T L') i' hYl (by simp only [toks6, List.length_map]; omega) hsc g3 (fun _ => ⟨fun h => ?_, s2⟩)
        have := scan_ok h T (by omega)
        unfold scanV at this
        rw [if_neg (by omega), s1] at this
        simp only [toks_rows] at this
        exact this
      · exact silent_main h s mk T _ [] i' hYl (by simp) hsc g3 (fun q => absurd q hb2)
theorem bys_of (B : Nat) : ∀ (rows : List (List AV)), (∀ row ∈ rows, (Sh.int .u8).Row B row) → ∃ mk : List UInt8, rows = bys mk := by
  intro rows
  induction rows with
  | nil => intro _; exact ⟨[], rfl⟩
  | cons r t ih =>
    intro h
    obtain ⟨n, hn, rfl⟩ := h r (by simp)
    obtain ⟨mk, rfl⟩ := ih fun q hq => h q (by simp [hq])
    have hb : 0 ≤ n ∧ n < 256 := by
      simp only [Lit.wf, Bool.and_eq_true, decide_eq_true_eq] at hn
      have e1 : IntKind.u8.min = 0 := rfl
      have e2 : IntKind.u8.max = 255 := rfl
      rw [e1, e2] at hn
      omega
    refine ⟨UInt8.ofNat n.toNat :: mk, ?_⟩
    have : ((UInt8.ofNat n.toNat).toNat : Int) = n := by
      show ((n.toNat % 256 : Nat) : Int) = n
      omega
    have e : bys (UInt8.ofNat n.toNat :: mk) = [AV.int .u8 ((UInt8.ofNat n.toNat).toNat : Int)] :: bys mk := rfl
    rw [e, this]
theorem silent_law : ∀ xs, ArgsL 1048576 f5s xs → ∃ h', Ccall tab 5 xs [] = some (.bool true, h') := by
  intro xs hxs
  unfold f5s at hxs
  simp only [ArgsL, Sh.Arg] at hxs
  obtain ⟨x, r, rfl, hx, x2, r2, rfl, hsl, rfl⟩ := hxs
  simp only [Sh.Row] at hx
  rw [Sh.Row] at hsl
  obtain ⟨s, hl, hs⟩ := hx
  cases hs
  obtain ⟨rows, h1, hlen, hrows⟩ := hsl
  cases h1
  obtain ⟨mk, rfl⟩ := bys_of _ rows hrows
  exact ⟨_, silent_ok [] s mk hl⟩

end Go.Proofs.YtmpdpjkblcdfkaaDoor
