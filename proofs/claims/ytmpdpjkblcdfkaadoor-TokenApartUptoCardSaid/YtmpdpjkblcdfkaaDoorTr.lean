/- What a text shares with its beginning: tokens. -/
import Derived.Test.YtmpdpjkblcdfkaaDoorTq
import Derived.Test.YtmpdpjkblcdfkaaDoorAmW
namespace Go.Proofs.YtmpdpjkblcdfkaaDoor
open Go.AM
set_option maxRecDepth 20000
set_option maxHeartbeats 4000000
set_option linter.unusedSimpArgs false
set_option linter.unusedVariables false
attribute [local congr] andF_cg onF_cg bthen_cg bkeep_cg bcond_cg guardV_cg putF_cg guardF_cg ite_cg stepsF_cg
attribute [local simp] Brun_skip Brun_exit Brun_ret Brun_seq Brun_cond Brun_block Brun_region bthen_normal bthen_ret bthen_exit bblock_normal bblock_ret bblock_exit bkeep_some andF_some onF_some onF_none guardF_none guardF_some guardV_tup putF_some putF_none stepsF_nil stepsF_cons upd_apply ofL_cons ofL_nil bown_normal bown_ret banswer_normal banswer_ret aresults ares List.replicate stepF_call stepF_callD stepF_move stepF_pick stepF_alloc stepF_allocV stepF_box stepF_boxV stepF_build stepF_buildSlice stepF_buildSliceV stepF_load stepF_store stepF_nilCheck stepF_bin stepF_eq stepF_un stepF_conv stepF_strId stepF_toStr stepF_toBytes stepF_fn stepF_mkSlice stepF_slice stepF_strSlice stepF_fieldAddr stepF_field stepF_idxAddr stepF_idxArr stepF_index stepF_strIndex stepF_extract stepF_len0 stepF_len1 stepF_min stepF_max stepF_append stepF_appendF appF_none appF_row stepF_mkMap stepF_mkIface stepF_lookup stepF_mapUpdate stepF_ext aext_idx aext_count aext_same cellsF newF abin_add abin_sub abin_mul abin_quo abin_rem abin_eql abin_neq abin_lss abin_leq abin_gtr abin_geq abin_and abin_or abin_xor abin_shl abin_shr abin_seql abin_sneq aun_not aun_neg aeq_bool aeq_agg eqCells_nil eqCells_int eqCells_bool eqCells_str cellsOf_agg cellsOf_int cellsOf_bool cellsOf_str cellsOf_is cellsOf_ms cellsOf_fn cellsOf_nilp cellsOf_mp cellsOf_mm cellsOf_nilm cellsOf_nili cellsOf_ifc cellsOf_ip cget_one cget_agg ev_t ev_c fillp_nil fillp_cons isSc_int isSc_bool isSc_str isSc_is isSc_ms isSc_fn isSc_mm isSc_mp isSc_ip isSc_nilp isSc_nilm isSc_nili isSc_nilf isSc_ifc splice chunk strip strip.stripL imm imm.immL Areify_int Areify_bool Areify_str Areify_is Areify_nilp Areify_tup Areify_agg AreifyL andF_chi andF_ch onF_chi onF_ch bthen_ch bthen_chi bblock_ch bblock_chi bkeep_ch bkeep_chi bown_ch bown_chi banswer_ch banswer_chi isSome_ch bcond_ch guardV_ch1 guardV_ch0 chF_true chF_false chF_not
attribute [local simp ↓] andF_some andF_chi andF_ch onF_some onF_none onF_chi onF_ch bthen_normal bthen_ret bthen_exit bthen_ch bthen_chi bblock_normal bblock_ret bblock_exit bblock_ch bblock_chi bkeep_some bkeep_ch bkeep_chi bown_normal bown_ret bown_ch bown_chi banswer_normal banswer_ret banswer_ch banswer_chi bcond_ch guardV_ch1 guardV_ch0 guardV_tup guardF_none guardF_some putF_some putF_none stepsF_nil stepsF_cons chF_true chF_false Brun_seq Brun_cond Brun_block Brun_region Brun_skip Brun_ret Brun_exit stepF_call stepF_callD stepF_move stepF_pick stepF_alloc stepF_allocV stepF_box stepF_boxV stepF_build stepF_buildSlice stepF_buildSliceV stepF_load stepF_store stepF_nilCheck stepF_bin stepF_eq stepF_un stepF_conv stepF_strId stepF_toStr stepF_toBytes stepF_fn stepF_mkSlice stepF_slice stepF_strSlice stepF_fieldAddr stepF_field stepF_idxAddr stepF_idxArr stepF_index stepF_strIndex stepF_extract stepF_len0 stepF_len1 stepF_min stepF_max stepF_append stepF_appendF stepF_mkMap stepF_mkIface stepF_lookup stepF_mapUpdate stepF_ext
set_option maxHeartbeats 1000000
theorem get0_take {s : List UInt8} {j : Nat} (hj : 0 < j) : (s.take j)[0]? = s[0]? := by rw [List.getElem?_take]; simp [hj]
theorem esc_take {t : List UInt8} {b : UInt8} {n j : Nat} (h : escR t = (b, n, true)) (hj : n < j) : escR (t.take j) = (b, n, true) := by
  have hp := esc_le h
  unfold escR at h ⊢
  rw [get0_take (by omega)]
  cases h0 : t[0]? with
  | none => rw [h0] at h; simp at h
  | some c =>
    rw [h0] at h
    dsimp only at h ⊢
    cases hE : escS c with
    | some d => rw [hE] at h; exact h
    | none =>
      rw [hE] at h
      dsimp only at h ⊢
      by_cases hx : c = 120
      · rw [if_pos hx] at h ⊢
        have hd : (t.take j).drop 1 = (t.drop 1).take (j - 1) := by rw [List.drop_take]
        rw [hd, runLen_take]
        generalize hr : runLen isHex (t.drop 1) = r at *
        have hn : r + 1 = n := by simp only [Prod.mk.injEq] at h; exact h.2.1
        rw [Nat.min_eq_right (by omega), take_take_le (by omega)]
        exact h
      · rw [if_neg hx] at h ⊢
        rw [runLen_take]
        generalize hr : runLen isOct t = r at *
        have hn : min 3 r = n := by simp only [Prod.mk.injEq] at h; exact h.2.1
        have : min 3 (min j r) = min 3 r := by omega
        rw [this, take_take_le (by omega)]
        exact h
theorem quo_pos {q : UInt8} : ∀ {f : Nat} {r o : List UInt8} {m : Nat}, quoR q f r = some (o, m) → 0 < m := by
  intro f r o m h
  cases f with
  | zero => cases h
  | succ f =>
    cases r with
    | nil => cases h
    | cons c t =>
      simp only [quoR] at h
      split at h
      · cases h; omega
      · split at h
        · cases h
        · split at h
          · split at h
            · obtain ⟨p, _, he⟩ := Option.map_eq_some_iff.1 h
              cases he; omega
            · cases h
          · obtain ⟨p, _, he⟩ := Option.map_eq_some_iff.1 h
            cases he; omega
theorem quo_cons (q : UInt8) (f : Nat) (c : UInt8) (t : List UInt8) : quoR q (f + 1) (c :: t) = if c = q then some ([], 1)
        else if c = 10 then none
        else if c = 92 then (match escR t with
          | (b, n, true) => (quoR q f (t.drop n)).map fun p => (b :: p.1, p.2 + (n + 1))
          | (_, _, false) => none)
        else (quoR q f t).map fun p => (c :: p.1, p.2 + 1) := rfl
theorem quo_take {q : UInt8} : ∀ (f : Nat) (r o : List UInt8) (m f' j : Nat), quoR q f r = some (o, m) → m ≤ j → (r.take j).length < f' → quoR q f' (r.take j) = some (o, m) := by
  intro f
  induction f with
  | zero => intro r o m f' j h; cases h
  | succ f ih =>
    intro r o m f' j h hj hf'
    have hm0 := quo_pos h
    cases f' with
    | zero => omega
    | succ f' =>
      cases r with
      | nil => cases h
      | cons c t =>
        obtain ⟨j, rfl⟩ : ∃ i, j = i + 1 := ⟨j - 1, by omega⟩
        rw [List.take_succ_cons] at hf' ⊢
        simp only [List.length_cons] at hf'
        rw [quo_cons] at h ⊢
        by_cases hq : c = q
        · rw [if_pos hq] at h ⊢; exact h
        · rw [if_neg hq] at h ⊢
          by_cases h10 : c = 10
          · rw [if_pos h10] at h; cases h
          · rw [if_neg h10] at h ⊢
            by_cases h92 : c = 92
            · rw [if_pos h92] at h ⊢
              cases hE : escR t with
              | mk b p =>
                obtain ⟨n, ok⟩ := p
                rw [hE] at h
                cases ok with
                | false => cases h
                | true =>
                  dsimp only at h
                  obtain ⟨⟨o', m'⟩, hp, he⟩ := Option.map_eq_some_iff.1 h
                  cases he
                  have hm' := quo_pos hp
                  rw [esc_take hE (show n < j by omega)]
                  dsimp only
                  have hd : (t.take j).drop n = (t.drop n).take (j - n) := by rw [List.drop_take]
                  rw [hd, ih _ _ _ f' (j - n) hp (by omega) (by simp only [List.length_take, List.length_drop] at *; omega)]
                  rfl
            · rw [if_neg h92] at h ⊢
              obtain ⟨⟨o', m'⟩, hp, he⟩ := Option.map_eq_some_iff.1 h
              cases he
              rw [ih _ _ _ f' j hp (by omega) (by omega)]
              rfl
theorem sign_take {s : List UInt8} {j : Nat} (hne : signR s ≠ []) (hj : (signR s).length ≤ j) : signR (s.take j) = signR s := by
  have key : ∀ l : List (List UInt8), (∀ x, l.find? (fun x => hasPre x s) = some x → x.length ≤ j) → l.find? (fun x => hasPre x (s.take j)) = l.find? (fun x => hasPre x s) := by
    intro l
    induction l with
    | nil => intro _; rfl
    | cons y r ih =>
      intro h
      rw [List.find?_cons, List.find?_cons]
      rw [List.find?_cons] at h
      cases hy : hasPre y s with
      | true =>
        rw [hy] at h
        have := pre_take' hy (h y rfl)
        rw [this]
      | false =>
        rw [hy] at h
        have : hasPre y (s.take j) = false := by
          cases q : hasPre y (s.take j) with
          | false => rfl
          | true => rw [pre_take q] at hy; cases hy
        rw [this]
        exact ih h
  have hk := key sgs (fun x hx => by
    unfold signR at hj
    rw [hx] at hj
    exact hj)
  have hR : ∀ u : List UInt8, signR u = match sgs.find? (fun x => hasPre x u) with
    | some x => x
    | none => match u with
      | [] => []
      | b :: _ => if 0 ≤ Go.Lib.indexByte chs b then [b] else [] := fun _ => rfl
  rw [hR (s.take j), hR s, hk]
  cases hf : sgs.find? (fun x => hasPre x s) with
  | some x => rfl
  | none =>
    dsimp only
    have hl : 0 < (signR s).length := List.length_pos_iff.2 hne
    cases s with
    | nil => simp
    | cons b t =>
      obtain ⟨j, rfl⟩ : ∃ i, j = i + 1 := ⟨j - 1, by omega⟩
      rfl
theorem one_take {r : List UInt8} {x : Int × List UInt8 × Int} {m j : Nat} (h : oneR r = .ok (x, m)) (hj : m ≤ j) : oneR (r.take j) = .ok (x, m) := by
  have hm0 := (one_len h).1
  cases r with
  | nil => cases h
  | cons b t =>
    obtain ⟨i, rfl⟩ : ∃ i, j = i + 1 := ⟨j - 1, by omega⟩
    have hrt := runLen_take isTail (b :: t) (i + 1)
    have hsg := @sign_take (b :: t) (i + 1)
    have htk : ∀ n, n ≤ i + 1 → (b :: t.take i).take n = (b :: t).take n := fun n hn => by
      rw [← List.take_succ_cons]; exact take_take_le hn
    rw [List.take_succ_cons] at hrt hsg ⊢
    have hR : ∀ (u : List UInt8), oneR (b :: u) = if isLet b.toNat = true then (if 63 < runLen isTail (b :: u) then .error 22 else .ok ((if isKw ((b :: u).take (runLen isTail (b :: u))) = true then 2 else 1, (b :: u).take (runLen isTail (b :: u)), 0), runLen isTail (b :: u)))
      else if isDig b.toNat = true then (match numberR ((b :: u).take (runLen isTail (b :: u))) with
        | none => .error 21
        | some (t, v) => .ok ((3, t, v), runLen isTail (b :: u)))
      else if b = 39 ∨ b = 34 then (match quoR b (b :: u).length ((b :: u).drop 1) with
        | none => .error 26
        | some (o, m) => if b = 34 then .ok ((5, o, 0), m + 1) else match o with
          | [x] => .ok ((4, [], sgn x), m + 1)
          | _ => .error 26)
      else if signR (b :: u) = [] then .error 20 else .ok ((6, signR (b :: u), 0), (signR (b :: u)).length) := fun _ => rfl
    rw [hR] at h ⊢
    by_cases hl : isLet b.toNat = true
    · rw [if_pos hl] at h ⊢
      split at h
      · cases h
      · rename_i q
        have hm : runLen isTail (b :: t) = m := by cases h; rfl
        rw [hrt, Nat.min_eq_right (by omega), if_neg q, htk _ (by omega)]
        exact h
    · rw [if_neg hl] at h ⊢
      by_cases hd : isDig b.toNat = true
      · rw [if_pos hd] at h ⊢
        have hm : runLen isTail (b :: t) = m := by
          split at h
          · cases h
          · cases h; rfl
        rw [hrt, Nat.min_eq_right (by omega), htk _ (by omega)]
        exact h
      · rw [if_neg hd] at h ⊢
        by_cases hq : b = 39 ∨ b = 34
        · rw [if_pos hq] at h ⊢
          cases hQ : quoR b (b :: t).length ((b :: t).drop 1) with
          | none => rw [hQ] at h; cases h
          | some p =>
            obtain ⟨o, k⟩ := p
            rw [hQ] at h
            have hk : k + 1 = m := by
              dsimp only at h
              split at h
              · cases h; rfl
              · split at h
                · cases h; rfl
                · cases h
            have hQ' : quoR b (b :: t.take i).length ((b :: t.take i).drop 1) = some (o, k) :=
              quo_take (b :: t).length t o k (b :: t.take i).length i hQ (by omega) (by simp)
            rw [hQ']
            exact h
        · rw [if_neg hq] at h ⊢
          split at h
          · cases h
          · rename_i hne
            have hm : (signR (b :: t)).length = m := by cases h; rfl
            rw [hsg hne (by omega), if_neg hne]
            exact h
/-- What stands ahead of a fault is a text without one. -/
theorem scan_take (s : List UInt8) : ∀ (f at_ n e k f' : Nat), at_ ≤ s.length → scanR s f at_ n = .error (e, k) → e ≠ 0 → (s.take k).length < at_ + f' → at_ ≤ k ∧ k ≤ s.length ∧ ∃ l, scanR (s.take k) f' at_ n = .ok l := by
  intro f
  induction f with
  | zero => intro at_ n e k f' _ h he; cases h; exact absurd rfl he
  | succ f ih =>
    intro at_ n e k f' hat h he hf'
    obtain ⟨hn1, hn2⟩ := next_le s hat
    have hst : ∀ (s : List UInt8) (f : Nat), scanR s (f + 1) at_ n = if badC s at_ = true then .error (25, nextR s at_)
      else if nextR s at_ = s.length then .ok [((0, [], 0), nextR s at_)]
      else match oneR (s.drop (nextR s at_)) with
        | .error e => .error (e, nextR s at_)
        | .ok (x, m) => if n = 16384 then .error (23, nextR s at_) else consR (x, nextR s at_) (scanR s f (nextR s at_ + m) (n + 1)) := fun _ _ => rfl
    have hdt : ∀ i, (s.take k).drop i = (s.drop i).take (k - i) := fun i => by rw [List.drop_take]
    have hsk : ∀ j, at_ + j ≤ s.length → ((skipR (s.length + 1) (s.drop at_)).1 = j ∨ ((skipR (s.length + 1) (s.drop at_)).1 < j ∧ (skipR (s.length + 1) (s.drop at_)).2 = false)) → ∀ F, j < F → skipR F ((s.drop at_).take j) = ((skipR (s.length + 1) (s.drop at_)).1, false) := by
      intro j hj1 hj F hF
      exact skip_take (s.length + 1) (s.drop at_) F j (by simp only [List.length_drop]; omega) (by simp only [List.length_take]; omega) hj
    have hend : nextR s at_ = k → at_ ≤ k ∧ k ≤ s.length ∧ ∃ l, scanR (s.take k) f' at_ n = .ok l := by
      intro hk
      subst hk
      refine ⟨hn2, hn1, ?_⟩
      have hlen : (s.take (nextR s at_)).length = nextR s at_ := by simp only [List.length_take]; omega
      rw [hlen] at hf'
      obtain ⟨F, rfl⟩ : ∃ F, f' = F + 1 := ⟨f' - 1, by omega⟩
      have hx := hsk (nextR s at_ - at_) (by omega) (.inl (by unfold nextR; omega)) ((s.take (nextR s at_)).length + 1) (by omega)
      rw [← hdt at_] at hx
      have h1 : nextR (s.take (nextR s at_)) at_ = nextR s at_ := by
        show at_ + (skipR _ _).1 = _
        rw [hx]; rfl
      have h2 : badC (s.take (nextR s at_)) at_ = false := by
        show (skipR _ _).2 = _
        rw [hx]
      rw [hst, h1, h2, if_neg (by simp), if_pos hlen.symm]
      exact ⟨_, rfl⟩
    rw [hst] at h
    by_cases hbad : badC s at_ = true
    · rw [if_pos hbad] at h
      cases h
      exact hend rfl
    · rw [if_neg hbad] at h
      by_cases hse : nextR s at_ = s.length
      · rw [if_pos hse] at h; cases h
      · rw [if_neg hse] at h
        cases hO : oneR (s.drop (nextR s at_)) with
        | error e' =>
          rw [hO] at h
          cases h
          exact hend rfl
        | ok p =>
          obtain ⟨x, m⟩ := p
          rw [hO] at h
          dsimp only at h
          by_cases hmany : n = 16384
          · rw [if_pos hmany] at h
            cases h
            exact hend rfl
          · rw [if_neg hmany] at h
            obtain ⟨hm0, hm⟩ := one_len hO
            simp only [List.length_drop] at hm
            cases hS : scanR s f (nextR s at_ + m) (n + 1) with
            | ok l => rw [hS] at h; cases h
            | error p =>
              rw [hS] at h
              cases h
              have hb := ih (nextR s at_ + m) (n + 1) e k (k + 1) (by omega) hS he (by simp only [List.length_take]; omega)
              have hkl : (s.take k).length = k := by simp only [List.length_take]; omega
              obtain ⟨F, rfl⟩ : ∃ F, f' = F + 1 := ⟨f' - 1, by omega⟩
              obtain ⟨_, _, l, hl⟩ := ih (nextR s at_ + m) (n + 1) e k F (by omega) hS he (by omega)
              refine ⟨by omega, by omega, (x, nextR s at_) :: l, ?_⟩
              have hx := hsk (k - at_) (by omega) (.inr ⟨by unfold nextR at hb; omega, by
                have : (skipR (s.length + 1) (s.drop at_)).2 = badC s at_ := rfl
                rw [this]; simpa using hbad⟩) ((s.take k).length + 1) (by omega)
              rw [← hdt at_] at hx
              have h1 : nextR (s.take k) at_ = nextR s at_ := by
                show at_ + (skipR _ _).1 = _
                rw [hx]; rfl
              have h2 : badC (s.take k) at_ = false := by
                show (skipR _ _).2 = _
                rw [hx]
              rw [hst, h1, h2, if_neg (by simp), if_neg (by omega), hdt, one_take hO (by omega)]
              dsimp only
              rw [if_neg hmany, hl]
              rfl
theorem scan_err {s : List UInt8} : ∀ (f at_ n e k : Nat), scanR s f at_ n = .error (e, k) → at_ ≤ s.length → s.length < at_ + f → e = 20 ∨ e = 21 ∨ e = 22 ∨ e = 23 ∨ e = 25 ∨ e = 26 := by
  intro f
  induction f with
  | zero => intro at_ n e k _ h1 h2; omega
  | succ f ih =>
    intro at_ n e k h h1 h2
    obtain ⟨hn1, hn2⟩ := next_le s h1
    have hst : scanR s (f + 1) at_ n = if badC s at_ = true then .error (25, nextR s at_)
      else if nextR s at_ = s.length then .ok [((0, [], 0), nextR s at_)]
      else match oneR (s.drop (nextR s at_)) with
        | .error e => .error (e, nextR s at_)
        | .ok (x, m) => if n = 16384 then .error (23, nextR s at_) else consR (x, nextR s at_) (scanR s f (nextR s at_ + m) (n + 1)) := rfl
    rw [hst] at h
    by_cases hbad : badC s at_ = true
    · rw [if_pos hbad] at h
      cases h; simp
    · rw [if_neg hbad] at h
      by_cases hse : nextR s at_ = s.length
      · rw [if_pos hse] at h; cases h
      · rw [if_neg hse] at h
        cases hO : oneR (s.drop (nextR s at_)) with
        | error e' =>
          have := one_err hO (by intro h; have := congrArg List.length h; simp only [List.length_drop, List.length_nil] at this; omega)
          rw [hO] at h
          simp only [Except.error.injEq, Prod.mk.injEq] at h
          omega
        | ok p =>
          obtain ⟨x, m⟩ := p
          rw [hO] at h
          dsimp only at h
          by_cases hmany : n = 16384
          · rw [if_pos hmany] at h
            cases h; simp
          · rw [if_neg hmany] at h
            obtain ⟨hm0, hm⟩ := one_len hO
            simp only [List.length_drop] at hm
            cases hS : scanR s f (nextR s at_ + m) (n + 1) with
            | ok l => rw [hS] at h; cases h
            | error p =>
              rw [hS] at h
              simp only [consR, Except.error.injEq] at h
              subst h
              exact ih _ _ _ _ hS (by omega) (by omega)
theorem goS_snoc (p : Nat × Nat) (r : List UInt8) (b : UInt8) : goS p (r ++ [b]) = stepS (goS p r) b := by
  rw [goS_app]; rfl
/-- A place's line and column, told two ways. -/
theorem spot_at (s : List UInt8) : ∀ (k : Nat), k ≤ s.length → lineAt s k = (spotOf s k).1 ∧ colAt s k = (spotOf s k).2 := by
  intro k
  induction k with
  | zero => intro _; exact ⟨rfl, rfl⟩
  | succ k ih =>
    intro hk
    obtain ⟨h1, h2⟩ := ih (by omega)
    have hlt : k < s.length := by omega
    have ht : s.take (k + 1) = s.take k ++ [s[k]] := List.take_succ_eq_append_getElem hlt
    have hb : s[k]? = some s[k] := List.getElem?_eq_getElem hlt
    have hs : spotOf s (k + 1) = stepS (spotOf s k) s[k] := by unfold spotOf; rw [ht, goS_snoc]
    unfold lineAt at *
    unfold colAt at *
    rw [hs, ht]
    have hl : lastIx s 10 (k + 1) = if s[k]? = some 10 then (k : Int) else lastIx s 10 k := rfl
    rw [hl, hb]
    generalize s[k] = b at *
    unfold stepS
    by_cases q : b = 10
    · subst q
      simp only [if_true]
      rw [List.count_append]
      simp only [List.count_cons, List.count_nil]
      constructor
      · simp; omega
      · omega
    · have q' : ¬ (some b = some (10 : UInt8)) := fun h => q (Option.some.inj h)
      rw [if_neg q', if_neg q]
      rw [List.count_append]
      have : ¬ (b == 10) = true := by simpa using q
      simp only [List.count_cons, List.count_nil, if_neg this]
      constructor
      · simp; omega
      · push_cast; omega

end Go.Proofs.YtmpdpjkblcdfkaaDoor
