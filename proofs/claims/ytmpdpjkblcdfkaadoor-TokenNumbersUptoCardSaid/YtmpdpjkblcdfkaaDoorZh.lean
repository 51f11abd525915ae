/- What a text shares with its beginning, and with what it begins. -/
import Derived.Test.YtmpdpjkblcdfkaaDoorZg
import Derived.Test.YtmpdpjkblcdfkaaDoorAmW
namespace Go.Proofs.YtmpdpjkblcdfkaaDoor
open Go.AM
set_option maxRecDepth 20000
set_option maxHeartbeats 4000000
set_option linter.unusedSimpArgs false
set_option linter.unusedVariables false
attribute [local congr] andF_cg onF_cg bthen_cg bkeep_cg bcond_cg guardV_cg putF_cg guardF_cg ite_cg stepsF_cg
attribute [local simp] Brun_skip Brun_exit Brun_ret Brun_seq Brun_cond Brun_block Brun_region bthen_normal bthen_ret bthen_exit bblock_normal bblock_ret bblock_exit bkeep_some andF_some onF_some onF_none guardF_none guardF_some guardV_tup putF_some putF_none stepsF_nil stepsF_cons upd_apply ofL_cons ofL_nil bown_normal bown_ret banswer_normal banswer_ret aresults ares List.replicate stepF_call stepF_callD stepF_move stepF_pick stepF_alloc stepF_allocV stepF_box stepF_boxV stepF_build stepF_buildSlice stepF_buildSliceV stepF_load stepF_store stepF_nilCheck stepF_bin stepF_eq stepF_un stepF_conv stepF_strId strIdV_str strIdV_int stepF_toStr stepF_toBytes stepF_fn stepF_mkSlice stepF_slice stepF_strSlice stepF_fieldAddr stepF_field stepF_idxAddr stepF_idxArr stepF_index stepF_strIndex stepF_extract stepF_len0 stepF_len1 stepF_min stepF_max stepF_append stepF_appendF appF_none appF_row stepF_mkMap stepF_mkIface stepF_lookup stepF_mapUpdate stepF_ext aext_idx aext_count aext_same cellsF newF abin_add abin_sub abin_mul abin_quo abin_rem abin_eql abin_neq abin_lss abin_leq abin_gtr abin_geq abin_and abin_or abin_xor abin_shl abin_shr abin_seql abin_sneq aun_not aun_neg aeq_bool aeq_agg eqCells_nil eqCells_int eqCells_bool eqCells_str cellsOf_agg cellsOf_int cellsOf_bool cellsOf_str cellsOf_is cellsOf_ms cellsOf_fn cellsOf_nilp cellsOf_mp cellsOf_mm cellsOf_nilm cellsOf_nili cellsOf_ifc cellsOf_ip cget_one cget_agg ev_t ev_c fillp_nil fillp_cons isSc_int isSc_bool isSc_str isSc_is isSc_ms isSc_fn isSc_mm isSc_mp isSc_ip isSc_nilp isSc_nilm isSc_nili isSc_nilf isSc_ifc splice chunk strip strip.stripL imm imm.immL Areify_int Areify_bool Areify_str Areify_is Areify_nilp Areify_tup Areify_agg AreifyL andF_chi andF_ch onF_chi onF_ch bthen_ch bthen_chi bblock_ch bblock_chi bkeep_ch bkeep_chi bown_ch bown_chi banswer_ch banswer_chi isSome_ch bcond_ch guardV_ch1 guardV_ch0 chF_true chF_false chF_not
attribute [local simp ↓] andF_some andF_chi andF_ch onF_some onF_none onF_chi onF_ch bthen_normal bthen_ret bthen_exit bthen_ch bthen_chi bblock_normal bblock_ret bblock_exit bblock_ch bblock_chi bkeep_some bkeep_ch bkeep_chi bown_normal bown_ret bown_ch bown_chi banswer_normal banswer_ret banswer_ch banswer_chi bcond_ch guardV_ch1 guardV_ch0 guardV_tup guardF_none guardF_some putF_some putF_none stepsF_nil stepsF_cons chF_true chF_false Brun_seq Brun_cond Brun_block Brun_region Brun_skip Brun_ret Brun_exit stepF_call stepF_callD stepF_move stepF_pick stepF_alloc stepF_allocV stepF_box stepF_boxV stepF_build stepF_buildSlice stepF_buildSliceV stepF_load stepF_store stepF_nilCheck stepF_bin stepF_eq stepF_un stepF_conv stepF_strId stepF_toStr stepF_toBytes stepF_fn stepF_mkSlice stepF_slice stepF_strSlice stepF_fieldAddr stepF_field stepF_idxAddr stepF_idxArr stepF_index stepF_strIndex stepF_extract stepF_len0 stepF_len1 stepF_min stepF_max stepF_append stepF_appendF stepF_mkMap stepF_mkIface stepF_lookup stepF_mapUpdate stepF_ext
set_option maxHeartbeats 2000000
theorem get0_take {s : List UInt8} {j : Nat} (hj : 0 < j) : (s.take j)[0]? = s[0]? := by rw [List.getElem?_take]; simp [hj]
theorem esc_take {t : List UInt8} {b : UInt8} {n j : Nat} (h : escR t = (b, n, true)) (hj : n < j) : escR (t.take j) = (b, n, true) := by
  have hp := esc_le h
  unfold escR at h ⊢
  rw [get0_take (by omega)]
  cases h0 : t[0]? with
  | none => rw [h0] at h; simp at h
  | some c =>
    rw [h0] at h
    dsimp only at h ⊢
    cases hE : escS c with
    | some d => rw [hE] at h; exact h
    | none =>
      rw [hE] at h
      dsimp only at h ⊢
      by_cases hx : c = 120
      · rw [if_pos hx] at h ⊢
        have hd : (t.take j).drop 1 = (t.drop 1).take (j - 1) := by rw [List.drop_take]
        rw [hd, runLen_take]
        generalize hr : runLen isHex (t.drop 1) = r at *
        have hn : r + 1 = n := by simp only [Prod.mk.injEq] at h; exact h.2.1
        rw [Nat.min_eq_right (by omega), take_take_le (by omega)]
        exact h
      · rw [if_neg hx] at h ⊢
        rw [runLen_take]
        generalize hr : runLen isOct t = r at *
        have hn : min 3 r = n := by simp only [Prod.mk.injEq] at h; exact h.2.1
        have : min 3 (min j r) = min 3 r := by omega
        rw [this, take_take_le (by omega)]
        exact h
theorem quo_pos {q : UInt8} : ∀ {f : Nat} {r o : List UInt8} {m : Nat}, quoR q f r = some (o, m) → 0 < m := by
  intro f r o m h
  cases f with
  | zero => cases h
  | succ f =>
    cases r with
    | nil => cases h
    | cons c t =>
      simp only [quoR] at h
      split at h
      · cases h; omega
      · split at h
        · cases h
        · split at h
          · split at h
            · obtain ⟨p, _, he⟩ := Option.map_eq_some_iff.1 h
              cases he; omega
            · cases h
          · obtain ⟨p, _, he⟩ := Option.map_eq_some_iff.1 h
            cases he; omega
theorem quo_cons (q : UInt8) (f : Nat) (c : UInt8) (t : List UInt8) : quoR q (f + 1) (c :: t) = if c = q then some ([], 1)
        else if c = 10 then none
        else if c = 92 then (match escR t with
          | (b, n, true) => (quoR q f (t.drop n)).map fun p => (b :: p.1, p.2 + (n + 1))
          | (_, _, false) => none)
        else (quoR q f t).map fun p => (c :: p.1, p.2 + 1) := rfl
theorem quo_take {q : UInt8} : ∀ (f : Nat) (r o : List UInt8) (m f' j : Nat), quoR q f r = some (o, m) → m ≤ j → (r.take j).length < f' → quoR q f' (r.take j) = some (o, m) := by
  intro f
  induction f with
  | zero => intro r o m f' j h; cases h
  | succ f ih =>
    intro r o m f' j h hj hf'
    have hm0 := quo_pos h
    cases f' with
    | zero => omega
    | succ f' =>
      cases r with
      | nil => cases h
      | cons c t =>
        obtain ⟨j, rfl⟩ : ∃ i, j = i + 1 := ⟨j - 1, by omega⟩
        rw [List.take_succ_cons] at hf' ⊢
        simp only [List.length_cons] at hf'
        rw [quo_cons] at h ⊢
        by_cases hq : c = q
        · rw [if_pos hq] at h ⊢; exact h
        · rw [if_neg hq] at h ⊢
          by_cases h10 : c = 10
          · rw [if_pos h10] at h; cases h
          · rw [if_neg h10] at h ⊢
            by_cases h92 : c = 92
            · rw [if_pos h92] at h ⊢
              cases hE : escR t with
              | mk b p =>
                obtain ⟨n, ok⟩ := p
                rw [hE] at h
                cases ok with
                | false => cases h
                | true =>
                  dsimp only at h
                  obtain ⟨⟨o', m'⟩, hp, he⟩ := Option.map_eq_some_iff.1 h
                  cases he
                  have hm' := quo_pos hp
                  rw [esc_take hE (show n < j by omega)]
                  dsimp only
                  have hd : (t.take j).drop n = (t.drop n).take (j - n) := by rw [List.drop_take]
                  rw [hd, ih _ _ _ f' (j - n) hp (by omega) (by simp only [List.length_take, List.length_drop] at *; omega)]
                  rfl
            · rw [if_neg h92] at h ⊢
              obtain ⟨⟨o', m'⟩, hp, he⟩ := Option.map_eq_some_iff.1 h
              cases he
              rw [ih _ _ _ f' j hp (by omega) (by omega)]
              rfl
theorem sign_take {s : List UInt8} {j : Nat} (hne : signR s ≠ []) (hj : (signR s).length ≤ j) : signR (s.take j) = signR s := by
  have key : ∀ l : List (List UInt8), (∀ x, l.find? (fun x => hasPre x s) = some x → x.length ≤ j) → l.find? (fun x => hasPre x (s.take j)) = l.find? (fun x => hasPre x s) := by
    intro l
    induction l with
    | nil => intro _; rfl
    | cons y r ih =>
      intro h
      rw [List.find?_cons, List.find?_cons]
      rw [List.find?_cons] at h
      cases hy : hasPre y s with
      | true =>
        rw [hy] at h
        have := pre_take' hy (h y rfl)
        rw [this]
      | false =>
        rw [hy] at h
        have : hasPre y (s.take j) = false := by
          cases q : hasPre y (s.take j) with
          | false => rfl
          | true => rw [pre_take q] at hy; cases hy
        rw [this]
        exact ih h
  have hk := key sgs (fun x hx => by
    unfold signR at hj
    rw [hx] at hj
    exact hj)
  have hR : ∀ u : List UInt8, signR u = match sgs.find? (fun x => hasPre x u) with
    | some x => x
    | none => match u with
      | [] => []
      | b :: _ => if 0 ≤ Go.Lib.indexByte chs b then [b] else [] := fun _ => rfl
  rw [hR (s.take j), hR s, hk]
  cases hf : sgs.find? (fun x => hasPre x s) with
  | some x => rfl
  | none =>
    dsimp only
    have hl : 0 < (signR s).length := List.length_pos_iff.2 hne
    cases s with
    | nil => simp
    | cons b t =>
      obtain ⟨j, rfl⟩ : ∃ i, j = i + 1 := ⟨j - 1, by omega⟩
      rfl
theorem one_take {r : List UInt8} {x : Int × List UInt8 × Int} {m j : Nat} (h : oneR r = .ok (x, m)) (hj : m ≤ j) : oneR (r.take j) = .ok (x, m) := by
  have hm0 := (one_len h).1
  cases r with
  | nil => cases h
  | cons b t =>
    obtain ⟨i, rfl⟩ : ∃ i, j = i + 1 := ⟨j - 1, by omega⟩
    have hrt := runLen_take isTail (b :: t) (i + 1)
    have hsg := @sign_take (b :: t) (i + 1)
    have htk : ∀ n, n ≤ i + 1 → (b :: t.take i).take n = (b :: t).take n := fun n hn => by
      rw [← List.take_succ_cons]; exact take_take_le hn
    rw [List.take_succ_cons] at hrt hsg ⊢
    have hR : ∀ (u : List UInt8), oneR (b :: u) = if isLet b.toNat = true then (if 63 < runLen isTail (b :: u) then .error 22 else .ok ((if isKw ((b :: u).take (runLen isTail (b :: u))) = true then 2 else 1, (b :: u).take (runLen isTail (b :: u)), 0), runLen isTail (b :: u)))
      else if isDig b.toNat = true then (match numberR ((b :: u).take (runLen isTail (b :: u))) with
        | none => .error 21
        | some (t, v) => .ok ((3, t, v), runLen isTail (b :: u)))
      else if b = 39 ∨ b = 34 then (match quoR b (b :: u).length ((b :: u).drop 1) with
        | none => .error 26
        | some (o, m) => if b = 34 then .ok ((5, o, 0), m + 1) else match o with
          | [x] => .ok ((4, [], sgn x), m + 1)
          | _ => .error 26)
      else if signR (b :: u) = [] then .error 20 else .ok ((6, signR (b :: u), 0), (signR (b :: u)).length) := fun _ => rfl
    rw [hR] at h ⊢
    by_cases hl : isLet b.toNat = true
    · rw [if_pos hl] at h ⊢
      split at h
      · cases h
      · rename_i q
        have hm : runLen isTail (b :: t) = m := by cases h; rfl
        rw [hrt, Nat.min_eq_right (by omega), if_neg q, htk _ (by omega)]
        exact h
    · rw [if_neg hl] at h ⊢
      by_cases hd : isDig b.toNat = true
      · rw [if_pos hd] at h ⊢
        have hm : runLen isTail (b :: t) = m := by
          split at h
          · cases h
          · cases h; rfl
        rw [hrt, Nat.min_eq_right (by omega), htk _ (by omega)]
        exact h
      · rw [if_neg hd] at h ⊢
        by_cases hq : b = 39 ∨ b = 34
        · rw [if_pos hq] at h ⊢
          cases hQ : quoR b (b :: t).length ((b :: t).drop 1) with
          | none => rw [hQ] at h; cases h
          | some p =>
            obtain ⟨o, k⟩ := p
            rw [hQ] at h
            have hk : k + 1 = m := by
              dsimp only at h
              split at h
              · cases h; rfl
              · split at h
                · cases h; rfl
                · cases h
            have hQ' : quoR b (b :: t.take i).length ((b :: t.take i).drop 1) = some (o, k) :=
              quo_take (b :: t).length t o k (b :: t.take i).length i hQ (by omega) (by simp)
            rw [hQ']
            exact h
        · rw [if_neg hq] at h ⊢
          split at h
          · cases h
          · rename_i hne
            have hm : (signR (b :: t)).length = m := by cases h; rfl
            rw [hsg hne (by omega), if_neg hne]
            exact h
/-- What stands ahead of a fault is a text without one. -/
theorem scan_take (s : List UInt8) : ∀ (f at_ n e k f' : Nat), at_ ≤ s.length → scanR s f at_ n = .error (e, k) → e ≠ 0 → (s.take k).length < at_ + f' → at_ ≤ k ∧ k ≤ s.length ∧ ∃ l, scanR (s.take k) f' at_ n = .ok l := by
  intro f
  induction f with
  | zero => intro at_ n e k f' _ h he; cases h; exact absurd rfl he
  | succ f ih =>
    intro at_ n e k f' hat h he hf'
    obtain ⟨hn1, hn2⟩ := next_le s hat
    have hst : ∀ (s : List UInt8) (f : Nat), scanR s (f + 1) at_ n = if badC s at_ = true then .error (25, nextR s at_)
      else if nextR s at_ = s.length then .ok [((0, [], 0), nextR s at_)]
      else match oneR (s.drop (nextR s at_)) with
        | .error e => .error (e, nextR s at_)
        | .ok (x, m) => if n = 16384 then .error (23, nextR s at_) else consR (x, nextR s at_) (scanR s f (nextR s at_ + m) (n + 1)) := fun _ _ => rfl
    have hdt : ∀ i, (s.take k).drop i = (s.drop i).take (k - i) := fun i => by rw [List.drop_take]
    have hsk : ∀ j, at_ + j ≤ s.length → ((skipR (s.length + 1) (s.drop at_)).1 = j ∨ ((skipR (s.length + 1) (s.drop at_)).1 < j ∧ (skipR (s.length + 1) (s.drop at_)).2 = false)) → ∀ F, j < F → skipR F ((s.drop at_).take j) = ((skipR (s.length + 1) (s.drop at_)).1, false) := by
      intro j hj1 hj F hF
      exact skip_take (s.length + 1) (s.drop at_) F j (by simp only [List.length_drop]; omega) (by simp only [List.length_take]; omega) hj
    have hend : nextR s at_ = k → at_ ≤ k ∧ k ≤ s.length ∧ ∃ l, scanR (s.take k) f' at_ n = .ok l := by
      intro hk
      subst hk
      refine ⟨hn2, hn1, ?_⟩
      have hlen : (s.take (nextR s at_)).length = nextR s at_ := by simp only [List.length_take]; omega
      rw [hlen] at hf'
      obtain ⟨F, rfl⟩ : ∃ F, f' = F + 1 := ⟨f' - 1, by omega⟩
      have hx := hsk (nextR s at_ - at_) (by omega) (.inl (by unfold nextR; omega)) ((s.take (nextR s at_)).length + 1) (by omega)
      rw [← hdt at_] at hx
      have h1 : nextR (s.take (nextR s at_)) at_ = nextR s at_ := by
        show at_ + (skipR _ _).1 = _
        rw [hx]; rfl
      have h2 : badC (s.take (nextR s at_)) at_ = false := by
        show (skipR _ _).2 = _
        rw [hx]
      rw [hst, h1, h2, if_neg (by simp), if_pos hlen.symm]
      exact ⟨_, rfl⟩
    rw [hst] at h
    by_cases hbad : badC s at_ = true
    · rw [if_pos hbad] at h
      cases h
      exact hend rfl
    · rw [if_neg hbad] at h
      by_cases hse : nextR s at_ = s.length
      · rw [if_pos hse] at h; cases h
      · rw [if_neg hse] at h
        cases hO : oneR (s.drop (nextR s at_)) with
        | error e' =>
          rw [hO] at h
          cases h
          exact hend rfl
        | ok p =>
          obtain ⟨x, m⟩ := p
          rw [hO] at h
          dsimp only at h
          by_cases hmany : n = 16384
          · rw [if_pos hmany] at h
            cases h
            exact hend rfl
          · rw [if_neg hmany] at h
            obtain ⟨hm0, hm⟩ := one_len hO
            simp only [List.length_drop] at hm
            cases hS : scanR s f (nextR s at_ + m) (n + 1) with
            | ok l => rw [hS] at h; cases h
            | error p =>
              rw [hS] at h
              cases h
              have hb := ih (nextR s at_ + m) (n + 1) e k (k + 1) (by omega) hS he (by simp only [List.length_take]; omega)
              have hkl : (s.take k).length = k := by simp only [List.length_take]; omega
              obtain ⟨F, rfl⟩ : ∃ F, f' = F + 1 := ⟨f' - 1, by omega⟩
              obtain ⟨_, _, l, hl⟩ := ih (nextR s at_ + m) (n + 1) e k F (by omega) hS he (by omega)
              refine ⟨by omega, by omega, (x, nextR s at_) :: l, ?_⟩
              have hx := hsk (k - at_) (by omega) (.inr ⟨by unfold nextR at hb; omega, by
                have : (skipR (s.length + 1) (s.drop at_)).2 = badC s at_ := rfl
                rw [this]; simpa using hbad⟩) ((s.take k).length + 1) (by omega)
              rw [← hdt at_] at hx
              have h1 : nextR (s.take k) at_ = nextR s at_ := by
                show at_ + (skipR _ _).1 = _
                rw [hx]; rfl
              have h2 : badC (s.take k) at_ = false := by
                show (skipR _ _).2 = _
                rw [hx]
              rw [hst, h1, h2, if_neg (by simp), if_neg (by omega), hdt, one_take hO (by omega)]
              dsimp only
              rw [if_neg hmany, hl]
              rfl
theorem scan_err {s : List UInt8} : ∀ (f at_ n e k : Nat), scanR s f at_ n = .error (e, k) → at_ ≤ s.length → s.length < at_ + f → e = 20 ∨ e = 21 ∨ e = 22 ∨ e = 23 ∨ e = 25 ∨ e = 26 := by
  intro f
  induction f with
  | zero => intro at_ n e k _ h1 h2; omega
  | succ f ih =>
    intro at_ n e k h h1 h2
    obtain ⟨hn1, hn2⟩ := next_le s h1
    have hst : scanR s (f + 1) at_ n = if badC s at_ = true then .error (25, nextR s at_)
      else if nextR s at_ = s.length then .ok [((0, [], 0), nextR s at_)]
      else match oneR (s.drop (nextR s at_)) with
        | .error e => .error (e, nextR s at_)
        | .ok (x, m) => if n = 16384 then .error (23, nextR s at_) else consR (x, nextR s at_) (scanR s f (nextR s at_ + m) (n + 1)) := rfl
    rw [hst] at h
    by_cases hbad : badC s at_ = true
    · rw [if_pos hbad] at h
      cases h; simp
    · rw [if_neg hbad] at h
      by_cases hse : nextR s at_ = s.length
      · rw [if_pos hse] at h; cases h
      · rw [if_neg hse] at h
        cases hO : oneR (s.drop (nextR s at_)) with
        | error e' =>
          have := one_err hO (by intro h; have := congrArg List.length h; simp only [List.length_drop, List.length_nil] at this; omega)
          rw [hO] at h
          simp only [Except.error.injEq, Prod.mk.injEq] at h
          omega
        | ok p =>
          obtain ⟨x, m⟩ := p
          rw [hO] at h
          dsimp only at h
          by_cases hmany : n = 16384
          · rw [if_pos hmany] at h
            cases h; simp
          · rw [if_neg hmany] at h
            obtain ⟨hm0, hm⟩ := one_len hO
            simp only [List.length_drop] at hm
            cases hS : scanR s f (nextR s at_ + m) (n + 1) with
            | ok l => rw [hS] at h; cases h
            | error p =>
              rw [hS] at h
              simp only [consR, Except.error.injEq] at h
              subst h
              exact ih _ _ _ _ hS (by omega) (by omega)
theorem goS_snoc (p : Nat × Nat) (r : List UInt8) (b : UInt8) : goS p (r ++ [b]) = stepS (goS p r) b := by
  rw [goS_app]; rfl
/-- A place's line and column, told two ways. -/
theorem spot_at (s : List UInt8) : ∀ (k : Nat), k ≤ s.length → lineAt s k = (spotOf s k).1 ∧ colAt s k = (spotOf s k).2 := by
  intro k
  induction k with
  | zero => intro _; exact ⟨rfl, rfl⟩
  | succ k ih =>
    intro hk
    obtain ⟨h1, h2⟩ := ih (by omega)
    have hlt : k < s.length := by omega
    have ht : s.take (k + 1) = s.take k ++ [s[k]] := List.take_succ_eq_append_getElem hlt
    have hb : s[k]? = some s[k] := List.getElem?_eq_getElem hlt
    have hs : spotOf s (k + 1) = stepS (spotOf s k) s[k] := by unfold spotOf; rw [ht, goS_snoc]
    unfold lineAt at *
    unfold colAt at *
    rw [hs, ht]
    have hl : lastIx s 10 (k + 1) = if s[k]? = some 10 then (k : Int) else lastIx s 10 k := rfl
    rw [hl, hb]
    generalize s[k] = b at *
    unfold stepS
    by_cases q : b = 10
    · subst q
      simp only [if_true]
      rw [List.count_append]
      simp only [List.count_cons, List.count_nil]
      constructor
      · simp; omega
      · omega
    · have q' : ¬ (some b = some (10 : UInt8)) := fun h => q (Option.some.inj h)
      rw [if_neg q', if_neg q]
      rw [List.count_append]
      have : ¬ (b == 10) = true := by simpa using q
      simp only [List.count_cons, List.count_nil, if_neg this]
      constructor
      · simp; omega
      · push_cast; omega
/-- Begins with the end of a line. -/
def NL (u : List UInt8) : Prop := ∃ t, u = 10 :: t
theorem pre_app {p r u : List UInt8} (hu : NL u) (hp : (10 : UInt8) ∉ p) : hasPre p (r ++ u) = hasPre p r := by
  obtain ⟨t, rfl⟩ := hu
  by_cases hl : p.length ≤ r.length
  · simp only [hasPre, List.take_append_of_le_length hl]
  · have h1 : hasPre p r = false := by
      cases q : hasPre p r with
      | false => rfl
      | true => exact absurd (hasPre_len q) hl
    rw [h1]
    cases q : hasPre p (r ++ 10 :: t) with
    | false => rfl
    | true =>
      exfalso
      have h2 : (r ++ 10 :: t).take p.length = p := by simpa [hasPre] using q
      apply hp
      rw [← h2, List.take_append, show p.length - r.length = (p.length - r.length - 1) + 1 by omega, List.take_succ_cons]
      simp
theorem runLen_app {p : Nat → Bool} (hp : p 10 = false) {u : List UInt8} (hu : NL u) : ∀ (r : List UInt8), runLen p (r ++ u) = runLen p r := by
  obtain ⟨t, rfl⟩ := hu
  intro r
  induction r with
  | nil =>
    show runLen p (10 :: t) = _
    rw [runLen_cons]
    rw [if_neg (by rw [show (10 : UInt8).toNat = 10 from rfl, hp]; simp)]
    rfl
  | cons b r ih => rw [List.cons_append, runLen_cons, runLen_cons, ih]
theorem lineEnd_app {u : List UInt8} (hu : NL u) : ∀ (r : List UInt8), lineEnd (r ++ u) = lineEnd r := by
  obtain ⟨t, rfl⟩ := hu
  intro r
  induction r with
  | nil => rfl
  | cons b r ih =>
    rw [List.cons_append]
    unfold lineEnd
    rw [ih]
theorem closeC_app {u : List UInt8} (hu : NL u) : ∀ (r : List UInt8) (n : Nat), closeC r = some n → closeC (r ++ u) = some n := by
  intro r
  induction r with
  | nil => intro n h; cases h
  | cons b r ih =>
    intro n h
    have hp : hasPre [42, 47] (b :: r ++ u) = hasPre [42, 47] (b :: r) := pre_app hu (by decide)
    rw [List.cons_append] at hp ⊢
    unfold closeC at h ⊢
    rw [hp]
    by_cases q : hasPre [42, 47] (b :: r) = true
    · rw [if_pos q] at h ⊢; exact h
    · rw [if_neg q] at h ⊢
      obtain ⟨k, hk, rfl⟩ := Option.map_eq_some_iff.1 h
      rw [ih k hk]; rfl
theorem skip_app {u : List UInt8} (hu : NL u) : ∀ (f : Nat) (r : List UInt8) (F : Nat), r.length < f → (r ++ u).length < F → (skipR f r).2 = false →
    ∃ F2, u.length < F2 ∧ skipR F (r ++ u) = if (skipR f r).1 < r.length then ((skipR f r).1, false) else ((skipR f r).1 + (skipR F2 u).1, (skipR F2 u).2) := by
  intro f
  induction f with
  | zero => intro r F h; omega
  | succ f ih =>
    intro r F hf hF hb
    simp only [List.length_append] at hF
    cases F with
    | zero => omega
    | succ F =>
      cases r with
      | nil =>
        refine ⟨F + 1, by omega, ?_⟩
        rw [if_neg (by simp)]
        simp [skipR]
      | cons b t =>
        simp only [List.length_cons] at hf hF
        have hsk := skip_cons f b t
        have hskA := skip_cons F b (t ++ u)
        have hp2 : hasPre [47, 47] (b :: t ++ u) = hasPre [47, 47] (b :: t) := pre_app hu (by decide)
        have hp3 : hasPre [47, 42] (b :: t ++ u) = hasPre [47, 42] (b :: t) := pre_app hu (by decide)
        have hle := lineEnd_app hu (b :: t)
        rw [List.cons_append] at hp2 hp3 hle ⊢
        rw [hp2, hp3, hle] at hskA
        by_cases q1 : isBlank b.toNat = true
        · rw [if_pos q1] at hsk hskA
          rw [hsk] at hb ⊢
          rw [hskA]
          obtain ⟨F2, h1, h2⟩ := ih t F (by omega) (by simp only [List.length_append]; omega) hb
          refine ⟨F2, h1, ?_⟩
          rw [h2]
          simp only [List.length_cons]
          split
          · rw [if_pos (by omega)]
          · rw [if_neg (by omega)]; congr 1; dsimp only; omega
        · rw [if_neg q1] at hsk hskA
          by_cases q2 : hasPre [47, 47] (b :: t) = true
          · rw [if_pos q2] at hsk hskA
            rw [hsk] at hb ⊢
            rw [hskA]
            dsimp only at hb ⊢
            have hll := lineEnd_le (b :: t)
            simp only [List.length_cons] at hll
            obtain ⟨w, hw⟩ := pre2 q2
            have hl2 : 2 ≤ lineEnd (b :: t) := by rw [hw]; simp [lineEnd]
            have hd : (b :: (t ++ u)).drop (lineEnd (b :: t)) = (b :: t).drop (lineEnd (b :: t)) ++ u := by
              rw [← List.cons_append, List.drop_append_of_le_length (by simp only [List.length_cons]; omega)]
            rw [hd]
            obtain ⟨F2, h1, h2⟩ := ih ((b :: t).drop (lineEnd (b :: t))) F (by simp only [List.length_drop, List.length_cons]; omega) (by simp only [List.length_append, List.length_drop, List.length_cons]; omega) hb
            refine ⟨F2, h1, ?_⟩
            rw [h2]
            simp only [List.length_cons, List.length_drop]
            split
            · rw [if_pos (by omega)]
            · rw [if_neg (by omega)]; congr 1; dsimp only; omega
          · rw [if_neg q2] at hsk hskA
            by_cases q3 : hasPre [47, 42] (b :: t) = true
            · rw [if_pos q3] at hsk hskA
              obtain ⟨w, hw⟩ := pre2 q3
              have htl : (t ++ u).tail = t.tail ++ u := by
                have : t = 42 :: w := (List.cons.inj hw).2
                rw [this]; rfl
              cases hc : closeC t.tail with
              | none =>
                rw [hc] at hsk
                rw [hsk] at hb
                cases hb
              | some n =>
                have hroom := closeC_room hc
                simp only [List.length_tail] at hroom
                rw [hc] at hsk
                rw [htl, closeC_app hu _ _ hc] at hskA
                dsimp only at hsk hskA
                rw [hsk] at hb ⊢
                rw [hskA]
                dsimp only at hb ⊢
                have hd : (b :: (t ++ u)).drop (n + 4) = (b :: t).drop (n + 4) ++ u := by
                  rw [← List.cons_append, List.drop_append_of_le_length (by simp only [List.length_cons]; omega)]
                rw [hd]
                obtain ⟨F2, h1, h2⟩ := ih ((b :: t).drop (n + 4)) F (by simp only [List.length_drop, List.length_cons]; omega) (by simp only [List.length_append, List.length_drop, List.length_cons]; omega) hb
                refine ⟨F2, h1, ?_⟩
                rw [h2]
                simp only [List.length_cons, List.length_drop]
                split
                · rw [if_pos (by omega)]
                · rw [if_neg (by omega)]; congr 1; dsimp only; omega
            · rw [if_neg q3] at hsk hskA
              refine ⟨u.length + 1, by omega, ?_⟩
              rw [hsk, hskA]
              simp
theorem esc_app {t u : List UInt8} {b : UInt8} {n : Nat} (hu : NL u) (h : escR t = (b, n, true)) : escR (t ++ u) = (b, n, true) := by
  have hp := esc_le h
  cases t with
  | nil => simp at hp; omega
  | cons c w =>
    have hR : ∀ v : List UInt8, escR (c :: v) = match escS c with
      | some d => (d, 1, true)
      | none => if c = 120 then
          (UInt8.ofNat (hexW 0 (v.take (runLen isHex v))), runLen isHex v + 1, decide (0 < runLen isHex v ∧ hexW 0 (v.take (runLen isHex v)) ≤ 255))
        else (UInt8.ofNat (octW 0 ((c :: v).take (min 3 (runLen isOct (c :: v))))), min 3 (runLen isOct (c :: v)), decide (0 < min 3 (runLen isOct (c :: v)) ∧ octW 0 ((c :: v).take (min 3 (runLen isOct (c :: v)))) ≤ 255)) := fun _ => rfl
    have h1 : runLen isHex (w ++ u) = runLen isHex w := runLen_app (by decide) hu w
    have h2 : runLen isOct (c :: w ++ u) = runLen isOct (c :: w) := runLen_app (by decide) hu (c :: w)
    have h3 := runLen_le isHex w
    have h4 := runLen_le isOct (c :: w)
    have h5 : (w ++ u).take (runLen isHex w) = w.take (runLen isHex w) := List.take_append_of_le_length h3
    have h6 : (c :: (w ++ u)).take (min 3 (runLen isOct (c :: w))) = (c :: w).take (min 3 (runLen isOct (c :: w))) := by
      rw [← List.cons_append]; exact List.take_append_of_le_length (by omega)
    rw [List.cons_append] at h2 ⊢
    rw [hR] at h ⊢
    rw [h1, h2, h5, h6]
    exact h
theorem quo_app {u : List UInt8} (hu : NL u) {q : UInt8} : ∀ (f : Nat) (r o : List UInt8) (m F : Nat), quoR q f r = some (o, m) → (r ++ u).length < F → quoR q F (r ++ u) = some (o, m) := by
  intro f
  induction f with
  | zero => intro r o m F h; cases h
  | succ f ih =>
    intro r o m F h hF
    simp only [List.length_append] at hF
    cases F with
    | zero => omega
    | succ F =>
      cases r with
      | nil => cases h
      | cons c t =>
        simp only [List.length_cons] at hF
        rw [List.cons_append]
        rw [quo_cons] at h ⊢
        by_cases hq : c = q
        · rw [if_pos hq] at h ⊢; exact h
        · rw [if_neg hq] at h ⊢
          by_cases h10 : c = 10
          · rw [if_pos h10] at h; cases h
          · rw [if_neg h10] at h ⊢
            by_cases h92 : c = 92
            · rw [if_pos h92] at h ⊢
              cases hE : escR t with
              | mk b p =>
                obtain ⟨n, ok⟩ := p
                rw [hE] at h
                cases ok with
                | false => cases h
                | true =>
                  dsimp only at h
                  obtain ⟨⟨o', m'⟩, hp, he⟩ := Option.map_eq_some_iff.1 h
                  cases he
                  have hn := esc_le hE
                  rw [esc_app hu hE]
                  dsimp only
                  rw [List.drop_append_of_le_length (by omega), ih _ _ _ F hp (by simp only [List.length_append, List.length_drop]; omega)]
                  rfl
            · rw [if_neg h92] at h ⊢
              obtain ⟨⟨o', m'⟩, hp, he⟩ := Option.map_eq_some_iff.1 h
              cases he
              rw [ih _ _ _ F hp (by simp only [List.length_append]; omega)]
              rfl
theorem sign_app {s u : List UInt8} (hu : NL u) (hne : s ≠ []) : signR (s ++ u) = signR s := by
  have key : ∀ l : List (List UInt8), (∀ y ∈ l, (10 : UInt8) ∉ y) → l.find? (fun x => hasPre x (s ++ u)) = l.find? (fun x => hasPre x s) := by
    intro l
    induction l with
    | nil => intro _; rfl
    | cons y r ih =>
      intro h
      rw [List.find?_cons, List.find?_cons, pre_app hu (h y (by simp)), ih (fun z hz => h z (by simp [hz]))]
  have hk := key sgs (by decide)
  have hR : ∀ u : List UInt8, signR u = match sgs.find? (fun x => hasPre x u) with
    | some x => x
    | none => match u with
      | [] => []
      | b :: _ => if 0 ≤ Go.Lib.indexByte chs b then [b] else [] := fun _ => rfl
  rw [hR (s ++ u), hR s, hk]
  cases s with
  | nil => exact absurd rfl hne
  | cons b t => rfl
theorem one_app {r u : List UInt8} {x : Int × List UInt8 × Int} {m : Nat} (hu : NL u) (h : oneR r = .ok (x, m)) : oneR (r ++ u) = .ok (x, m) := by
  cases r with
  | nil => cases h
  | cons b t =>
    have hrl : runLen isTail (b :: t ++ u) = runLen isTail (b :: t) := runLen_app (by decide) hu (b :: t)
    have hle := runLen_le isTail (b :: t)
    have htk : (b :: (t ++ u)).take (runLen isTail (b :: t)) = (b :: t).take (runLen isTail (b :: t)) := by
      rw [← List.cons_append]; exact List.take_append_of_le_length hle
    have hsg := sign_app hu (show b :: t ≠ [] by simp)
    rw [List.cons_append] at hrl hsg ⊢
    have hR : ∀ (u : List UInt8), oneR (b :: u) = if isLet b.toNat = true then (if 63 < runLen isTail (b :: u) then .error 22 else .ok ((if isKw ((b :: u).take (runLen isTail (b :: u))) = true then 2 else 1, (b :: u).take (runLen isTail (b :: u)), 0), runLen isTail (b :: u)))
      else if isDig b.toNat = true then (match numberR ((b :: u).take (runLen isTail (b :: u))) with
        | none => .error 21
        | some (t, v) => .ok ((3, t, v), runLen isTail (b :: u)))
      else if b = 39 ∨ b = 34 then (match quoR b (b :: u).length ((b :: u).drop 1) with
        | none => .error 26
        | some (o, m) => if b = 34 then .ok ((5, o, 0), m + 1) else match o with
          | [x] => .ok ((4, [], sgn x), m + 1)
          | _ => .error 26)
      else if signR (b :: u) = [] then .error 20 else .ok ((6, signR (b :: u), 0), (signR (b :: u)).length) := fun _ => rfl
    rw [hR] at h ⊢
    rw [hrl, htk, hsg]
    by_cases hl : isLet b.toNat = true
    · rw [if_pos hl] at h ⊢; exact h
    · rw [if_neg hl] at h ⊢
      by_cases hd : isDig b.toNat = true
      · rw [if_pos hd] at h ⊢; exact h
      · rw [if_neg hd] at h ⊢
        by_cases hq : b = 39 ∨ b = 34
        · rw [if_pos hq] at h ⊢
          cases hQ : quoR b (b :: t).length ((b :: t).drop 1) with
          | none => rw [hQ] at h; cases h
          | some p =>
            obtain ⟨o, k⟩ := p
            rw [hQ] at h
            have hQ' : quoR b (b :: (t ++ u)).length ((b :: (t ++ u)).drop 1) = some (o, k) :=
              quo_app hu (b :: t).length t o k (b :: (t ++ u)).length hQ (by simp)
            rw [hQ']
            exact h
        · rw [if_neg hq] at h ⊢; exact h
theorem scan_ne {s : List UInt8} : ∀ {f at_ n : Nat} {l : List Tk}, scanR s f at_ n = .ok l → l ≠ [] := by
  intro f at_ n l h
  cases f with
  | zero => cases h
  | succ f =>
    unfold scanR at h
    split at h
    · cases h
    · split at h
      · cases h; simp
      · split at h
        · cases h
        · split at h
          · cases h
          · rename_i x m _ _
            cases hS : scanR s f (nextR s at_ + m) (n + 1) with
            | error e => rw [hS] at h; cases h
            | ok l' => rw [hS] at h; cases h; simp
theorem scan_succ (s : List UInt8) (f at_ n : Nat) : scanR s (f + 1) at_ n = if badC s at_ = true then .error (25, nextR s at_)
      else if nextR s at_ = s.length then .ok [((0, [], 0), nextR s at_)]
      else match oneR (s.drop (nextR s at_)) with
        | .error e => .error (e, nextR s at_)
        | .ok (x, m) => if n = 16384 then .error (23, nextR s at_) else consR (x, nextR s at_) (scanR s f (nextR s at_ + m) (n + 1)) := rfl
/-- What is skipped does not hang on the fuel. -/
theorem skip_fuel {f F : Nat} {r : List UInt8} (hf : r.length < f) (hF : r.length < F) (hb : (skipR f r).2 = false) : skipR F r = ((skipR f r).1, false) := by
  have hl := skip_le f r
  have := skip_take f r F r.length hf (by rw [List.take_length]; exact hF) (by
    rcases Nat.lt_or_ge (skipR f r).1 r.length with q | q
    · exact .inr ⟨q, hb⟩
    · exact .inl (by omega))
  rw [List.take_length] at this
  exact this
def shiftT (k : Nat) (x : Tk) : Tk := (x.1, k + x.2)
theorem scan_shift (S t : List UInt8) (base : Nat) (hS : ∀ i, S.drop (base + i) = t.drop i) (hlen : S.length = base + t.length) : ∀ (f i n' n F : Nat) (b : List Tk), i ≤ t.length → scanR t f i n' = .ok b → S.length < base + i + F → n + b.length ≤ 16385 → scanR S F (base + i) n = .ok (b.map (shiftT base)) := by
  intro f
  induction f with
  | zero => intro i n' n F b _ h; cases h
  | succ f ih =>
    intro i n' n F b hi h hF hb
    obtain ⟨F, rfl⟩ : ∃ G, F = G + 1 := ⟨F - 1, by omega⟩
    obtain ⟨hn1, hn2⟩ := next_le t hi
    rw [scan_succ] at h ⊢
    by_cases hbad : badC t i = true
    · rw [if_pos hbad] at h; cases h
    · rw [if_neg hbad] at h
      have hbad' : (skipR (t.length + 1) (t.drop i)).2 = false := by simpa [badC] using hbad
      have hk := skip_fuel (F := S.length + 1) (show (t.drop i).length < t.length + 1 by simp only [List.length_drop]; omega) (by simp only [List.length_drop]; omega) hbad'
      have h1 : nextR S (base + i) = base + nextR t i := by
        show base + i + (skipR _ (S.drop (base + i))).1 = _
        rw [hS, hk]
        show base + i + (skipR _ _).1 = base + (i + (skipR _ _).1)
        omega
      have h2 : badC S (base + i) = false := by
        show (skipR _ (S.drop (base + i))).2 = _
        rw [hS, hk]
      rw [h1, h2, if_neg (by simp)]
      by_cases hse : nextR t i = t.length
      · rw [if_pos hse] at h
        rw [if_pos (by omega)]
        cases h
        rfl
      · rw [if_neg hse] at h
        rw [if_neg (by omega), hS]
        cases hO : oneR (t.drop (nextR t i)) with
        | error e => rw [hO] at h; cases h
        | ok p =>
          obtain ⟨x, m⟩ := p
          rw [hO] at h
          dsimp only at h ⊢
          obtain ⟨hm0, hm⟩ := one_len hO
          simp only [List.length_drop] at hm
          split at h
          · cases h
          · cases hR : scanR t f (nextR t i + m) (n' + 1) with
            | error e => rw [hR] at h; cases h
            | ok b' =>
              rw [hR] at h
              cases h
              have hne := List.length_pos_iff.2 (scan_ne hR)
              simp only [List.length_cons] at hb
              rw [if_neg (by omega), Nat.add_assoc, ih (nextR t i + m) (n' + 1) (n + 1) F b' (by omega) hR (by omega) (by omega)]
              rfl
theorem scan_app (s t : List UInt8) (b : List Tk) (hb : scanS t = .ok b) : ∀ (f at_ n : Nat) (a : List Tk) (F : Nat), at_ ≤ s.length → scanR s f at_ n = .ok a → n + a.length + b.length ≤ 16386 → (s ++ 10 :: t).length < at_ + F →
    ∃ c, scanR (s ++ 10 :: t) F at_ n = .ok c ∧ c.map (·.1) = a.dropLast.map (·.1) ++ b.map (·.1) := by
  have hu : NL (10 :: t) := ⟨t, rfl⟩
  have hSd : ∀ i, (s ++ 10 :: t).drop (s.length + 1 + i) = t.drop i := by
    intro i
    rw [List.drop_append, List.drop_of_length_le (by omega), List.nil_append, show s.length + 1 + i - s.length = i + 1 by omega]
    rfl
  have hSl : (s ++ 10 :: t).length = s.length + 1 + t.length := by simp; omega
  intro f
  induction f with
  | zero => intro at_ n a F _ h; cases h
  | succ f ih =>
    intro at_ n a F hat h hcount hF
    obtain ⟨F, rfl⟩ : ∃ G, F = G + 1 := ⟨F - 1, by omega⟩
    obtain ⟨hn1, hn2⟩ := next_le s hat
    rw [scan_succ] at h
    by_cases hbad : badC s at_ = true
    · rw [if_pos hbad] at h; cases h
    · rw [if_neg hbad] at h
      have hbad' : (skipR (s.length + 1) (s.drop at_)).2 = false := by simpa [badC] using hbad
      have hda : (s ++ 10 :: t).drop at_ = s.drop at_ ++ 10 :: t := List.drop_append_of_le_length hat
      obtain ⟨F2, hF2, hk⟩ := skip_app hu (s.length + 1) (s.drop at_) ((s ++ 10 :: t).length + 1) (by simp only [List.length_drop]; omega) (by simp only [List.length_append, List.length_drop]; omega) hbad'
      have hnx : nextR s at_ = at_ + (skipR (s.length + 1) (s.drop at_)).1 := rfl
      by_cases hse : nextR s at_ = s.length
      · rw [if_pos hse] at h
        cases h
        rw [if_neg (by simp only [List.length_drop]; omega)] at hk
        have hb0 := hb
        unfold scanS at hb0
        rw [scan_succ] at hb0
        have hbt : badC t 0 = false := by
          cases q : badC t 0 with
          | false => rfl
          | true => rw [q, if_pos rfl] at hb0; cases hb0
        have hbt' : (skipR (t.length + 1) t).2 = false := hbt
        obtain ⟨F3, rfl⟩ : ∃ G, F2 = G + 1 := ⟨F2 - 1, by omega⟩
        simp only [List.length_cons] at hF2
        have hk2 := skip_fuel (F := F3) (show t.length < t.length + 1 by omega) (by omega) hbt'
        have hsu : skipR (F3 + 1) (10 :: t) = ((skipR (t.length + 1) t).1 + 1, false) := by
          rw [skip_cons, if_pos (by decide), hk2]
        rw [hsu] at hk
        dsimp only at hk
        have h1 : nextR (s ++ 10 :: t) at_ = nextR (s ++ 10 :: t) (s.length + 1 + 0) := by
          have hk3 := skip_fuel (F := (s ++ 10 :: t).length + 1) (show (t.drop 0).length < t.length + 1 by simp) (by rw [List.drop_zero]; omega) (by simpa using hbt')
          show at_ + (skipR _ ((s ++ 10 :: t).drop at_)).1 = s.length + 1 + 0 + (skipR _ ((s ++ 10 :: t).drop (s.length + 1 + 0))).1
          rw [hda, hk, hSd, hk3]
          simp only [List.drop_zero]
          omega
        have h2 : badC (s ++ 10 :: t) at_ = badC (s ++ 10 :: t) (s.length + 1 + 0) := by
          have hk3 := skip_fuel (F := (s ++ 10 :: t).length + 1) (show (t.drop 0).length < t.length + 1 by simp) (by rw [List.drop_zero]; omega) (by simpa using hbt')
          show (skipR _ ((s ++ 10 :: t).drop at_)).2 = (skipR _ ((s ++ 10 :: t).drop (s.length + 1 + 0))).2
          rw [hda, hk, hSd, hk3]
        have hsh := scan_shift (s ++ 10 :: t) t (s.length + 1) hSd hSl (t.length + 1) 0 0 n (F + 1) b (Nat.zero_le _) hb (by omega) (by simp only [List.length_cons, List.length_nil] at hcount; omega)
        refine ⟨b.map (shiftT (s.length + 1)), ?_, ?_⟩
        · rw [scan_succ, h1, h2, ← scan_succ]
          exact hsh
        · simp only [List.dropLast_singleton, List.map_nil, List.nil_append, List.map_map]
          rfl
      · rw [if_neg hse] at h
        rw [if_pos (by simp only [List.length_drop]; omega)] at hk
        have h1 : nextR (s ++ 10 :: t) at_ = nextR s at_ := by
          show at_ + (skipR _ ((s ++ 10 :: t).drop at_)).1 = _
          rw [hda, hk]; rfl
        have h2 : badC (s ++ 10 :: t) at_ = false := by
          show (skipR _ ((s ++ 10 :: t).drop at_)).2 = _
          rw [hda, hk]
        cases hO : oneR (s.drop (nextR s at_)) with
        | error e => rw [hO] at h; cases h
        | ok p =>
          obtain ⟨x, m⟩ := p
          rw [hO] at h
          dsimp only at h
          obtain ⟨hm0, hm⟩ := one_len hO
          simp only [List.length_drop] at hm
          by_cases hmany : n = 16384
          · rw [if_pos hmany] at h; cases h
          · rw [if_neg hmany] at h
            cases hR : scanR s f (nextR s at_ + m) (n + 1) with
            | error e => rw [hR] at h; cases h
            | ok a' =>
              rw [hR] at h
              cases h
              have hne := scan_ne hR
              simp only [List.length_cons] at hcount
              obtain ⟨c, hc1, hc2⟩ := ih (nextR s at_ + m) (n + 1) a' F (by omega) hR (by omega) (by omega)
              refine ⟨(x, nextR s at_) :: c, ?_, ?_⟩
              · rw [scan_succ, h1, h2, if_neg (by simp), if_neg (by omega), List.drop_append_of_le_length hn1, one_app hu hO]
                dsimp only
                rw [if_neg hmany, hc1]
                rfl
              · rw [List.dropLast_cons_of_ne_nil hne]
                simp only [List.map_cons, List.cons_append, hc2]

end Go.Proofs.YtmpdpjkblcdfkaaDoor
