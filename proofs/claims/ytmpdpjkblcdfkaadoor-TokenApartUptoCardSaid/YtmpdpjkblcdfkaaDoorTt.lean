/- What a text shares with what it begins. -/
import Derived.Test.YtmpdpjkblcdfkaaDoorTr
import Derived.Test.YtmpdpjkblcdfkaaDoorAmW
namespace Go.Proofs.YtmpdpjkblcdfkaaDoor
open Go.AM
set_option maxRecDepth 20000
set_option maxHeartbeats 4000000
set_option linter.unusedSimpArgs false
set_option linter.unusedVariables false
attribute [local congr] andF_cg onF_cg bthen_cg bkeep_cg bcond_cg guardV_cg putF_cg guardF_cg ite_cg stepsF_cg
attribute [local simp] Brun_skip Brun_exit Brun_ret Brun_seq Brun_cond Brun_block Brun_region bthen_normal bthen_ret bthen_exit bblock_normal bblock_ret bblock_exit bkeep_some andF_some onF_some onF_none guardF_none guardF_some guardV_tup putF_some putF_none stepsF_nil stepsF_cons upd_apply ofL_cons ofL_nil bown_normal bown_ret banswer_normal banswer_ret aresults ares List.replicate stepF_call stepF_callD stepF_move stepF_pick stepF_alloc stepF_allocV stepF_box stepF_boxV stepF_build stepF_buildSlice stepF_buildSliceV stepF_load stepF_store stepF_nilCheck stepF_bin stepF_eq stepF_un stepF_conv stepF_strId stepF_toStr stepF_toBytes stepF_fn stepF_mkSlice stepF_slice stepF_strSlice stepF_fieldAddr stepF_field stepF_idxAddr stepF_idxArr stepF_index stepF_strIndex stepF_extract stepF_len0 stepF_len1 stepF_min stepF_max stepF_append stepF_appendF appF_none appF_row stepF_mkMap stepF_mkIface stepF_lookup stepF_mapUpdate stepF_ext aext_idx aext_count aext_same cellsF newF abin_add abin_sub abin_mul abin_quo abin_rem abin_eql abin_neq abin_lss abin_leq abin_gtr abin_geq abin_and abin_or abin_xor abin_shl abin_shr abin_seql abin_sneq aun_not aun_neg aeq_bool aeq_agg eqCells_nil eqCells_int eqCells_bool eqCells_str cellsOf_agg cellsOf_int cellsOf_bool cellsOf_str cellsOf_is cellsOf_ms cellsOf_fn cellsOf_nilp cellsOf_mp cellsOf_mm cellsOf_nilm cellsOf_nili cellsOf_ifc cellsOf_ip cget_one cget_agg ev_t ev_c fillp_nil fillp_cons isSc_int isSc_bool isSc_str isSc_is isSc_ms isSc_fn isSc_mm isSc_mp isSc_ip isSc_nilp isSc_nilm isSc_nili isSc_nilf isSc_ifc splice chunk strip strip.stripL imm imm.immL Areify_int Areify_bool Areify_str Areify_is Areify_nilp Areify_tup Areify_agg AreifyL andF_chi andF_ch onF_chi onF_ch bthen_ch bthen_chi bblock_ch bblock_chi bkeep_ch bkeep_chi bown_ch bown_chi banswer_ch banswer_chi isSome_ch bcond_ch guardV_ch1 guardV_ch0 chF_true chF_false chF_not
attribute [local simp ↓] andF_some andF_chi andF_ch onF_some onF_none onF_chi onF_ch bthen_normal bthen_ret bthen_exit bthen_ch bthen_chi bblock_normal bblock_ret bblock_exit bblock_ch bblock_chi bkeep_some bkeep_ch bkeep_chi bown_normal bown_ret bown_ch bown_chi banswer_normal banswer_ret banswer_ch banswer_chi bcond_ch guardV_ch1 guardV_ch0 guardV_tup guardF_none guardF_some putF_some putF_none stepsF_nil stepsF_cons chF_true chF_false Brun_seq Brun_cond Brun_block Brun_region Brun_skip Brun_ret Brun_exit stepF_call stepF_callD stepF_move stepF_pick stepF_alloc stepF_allocV stepF_box stepF_boxV stepF_build stepF_buildSlice stepF_buildSliceV stepF_load stepF_store stepF_nilCheck stepF_bin stepF_eq stepF_un stepF_conv stepF_strId stepF_toStr stepF_toBytes stepF_fn stepF_mkSlice stepF_slice stepF_strSlice stepF_fieldAddr stepF_field stepF_idxAddr stepF_idxArr stepF_index stepF_strIndex stepF_extract stepF_len0 stepF_len1 stepF_min stepF_max stepF_append stepF_appendF stepF_mkMap stepF_mkIface stepF_lookup stepF_mapUpdate stepF_ext
set_option maxHeartbeats 1000000
/-- Begins with the end of a line. -/
def NL (u : List UInt8) : Prop := ∃ t, u = 10 :: t
theorem pre_app {p r u : List UInt8} (hu : NL u) (hp : (10 : UInt8) ∉ p) : hasPre p (r ++ u) = hasPre p r := by
  obtain ⟨t, rfl⟩ := hu
  by_cases hl : p.length ≤ r.length
  · simp only [hasPre, List.take_append_of_le_length hl]
  · have h1 : hasPre p r = false := by
      cases q : hasPre p r with
      | false => rfl
      | true => exact absurd (hasPre_len q) hl
    rw [h1]
    cases q : hasPre p (r ++ 10 :: t) with
    | false => rfl
    | true =>
      exfalso
      have h2 : (r ++ 10 :: t).take p.length = p := by simpa [hasPre] using q
      apply hp
      rw [← h2, List.take_append, show p.length - r.length = (p.length - r.length - 1) + 1 by omega, List.take_succ_cons]
      simp
theorem runLen_app {p : Nat → Bool} (hp : p 10 = false) {u : List UInt8} (hu : NL u) : ∀ (r : List UInt8), runLen p (r ++ u) = runLen p r := by
  obtain ⟨t, rfl⟩ := hu
  intro r
  induction r with
  | nil =>
    show runLen p (10 :: t) = _
    rw [runLen_cons]
    rw [if_neg (by rw [show (10 : UInt8).toNat = 10 from rfl, hp]; simp)]
    rfl
  | cons b r ih => rw [List.cons_append, runLen_cons, runLen_cons, ih]
theorem lineEnd_app {u : List UInt8} (hu : NL u) : ∀ (r : List UInt8), lineEnd (r ++ u) = lineEnd r := by
  obtain ⟨t, rfl⟩ := hu
  intro r
  induction r with
  | nil => rfl
  | cons b r ih =>
    rw [List.cons_append]
    unfold lineEnd
    rw [ih]
theorem closeC_app {u : List UInt8} (hu : NL u) : ∀ (r : List UInt8) (n : Nat), closeC r = some n → closeC (r ++ u) = some n := by
  intro r
  induction r with
  | nil => intro n h; cases h
  | cons b r ih =>
    intro n h
    have hp : hasPre [42, 47] (b :: r ++ u) = hasPre [42, 47] (b :: r) := pre_app hu (by decide)
    rw [List.cons_append] at hp ⊢
    unfold closeC at h ⊢
    rw [hp]
    by_cases q : hasPre [42, 47] (b :: r) = true
    · rw [if_pos q] at h ⊢; exact h
    · rw [if_neg q] at h ⊢
      obtain ⟨k, hk, rfl⟩ := Option.map_eq_some_iff.1 h
      rw [ih k hk]; rfl
theorem skip_app {u : List UInt8} (hu : NL u) : ∀ (f : Nat) (r : List UInt8) (F : Nat), r.length < f → (r ++ u).length < F → (skipR f r).2 = false →
    ∃ F2, u.length < F2 ∧ skipR F (r ++ u) = if (skipR f r).1 < r.length then ((skipR f r).1, false) else ((skipR f r).1 + (skipR F2 u).1, (skipR F2 u).2) := by
  intro f
  induction f with
  | zero => intro r F h; omega
  | succ f ih =>
    intro r F hf hF hb
    simp only [List.length_append] at hF
    cases F with
    | zero => omega
    | succ F =>
      cases r with
      | nil =>
        refine ⟨F + 1, by omega, ?_⟩
        rw [if_neg (by simp)]
        simp [skipR]
      | cons b t =>
        simp only [List.length_cons] at hf hF
        have hsk := skip_cons f b t
        have hskA := skip_cons F b (t ++ u)
        have hp2 : hasPre [47, 47] (b :: t ++ u) = hasPre [47, 47] (b :: t) := pre_app hu (by decide)
        have hp3 : hasPre [47, 42] (b :: t ++ u) = hasPre [47, 42] (b :: t) := pre_app hu (by decide)
        have hle := lineEnd_app hu (b :: t)
        rw [List.cons_append] at hp2 hp3 hle ⊢
        rw [hp2, hp3, hle] at hskA
        by_cases q1 : isBlank b.toNat = true
        · rw [if_pos q1] at hsk hskA
          rw [hsk] at hb ⊢
          rw [hskA]
          obtain ⟨F2, h1, h2⟩ := ih t F (by omega) (by simp only [List.length_append]; omega) hb
          refine ⟨F2, h1, ?_⟩
          rw [h2]
          simp only [List.length_cons]
          split
          · rw [if_pos (by omega)]
          · rw [if_neg (by omega)]; congr 1; dsimp only; omega
        · rw [if_neg q1] at hsk hskA
          by_cases q2 : hasPre [47, 47] (b :: t) = true
          · rw [if_pos q2] at hsk hskA
            rw [hsk] at hb ⊢
            rw [hskA]
            dsimp only at hb ⊢
            have hll := lineEnd_le (b :: t)
            simp only [List.length_cons] at hll
            obtain ⟨w, hw⟩ := pre2 q2
            have hl2 : 2 ≤ lineEnd (b :: t) := by rw [hw]; simp [lineEnd]
            have hd : (b :: (t ++ u)).drop (lineEnd (b :: t)) = (b :: t).drop (lineEnd (b :: t)) ++ u := by
              rw [← List.cons_append, List.drop_append_of_le_length (by simp only [List.length_cons]; omega)]
            rw [hd]
            obtain ⟨F2, h1, h2⟩ := ih ((b :: t).drop (lineEnd (b :: t))) F (by simp only [List.length_drop, List.length_cons]; omega) (by simp only [List.length_append, List.length_drop, List.length_cons]; omega) hb
            refine ⟨F2, h1, ?_⟩
            rw [h2]
            simp only [List.length_cons, List.length_drop]
            split
            · rw [if_pos (by omega)]
            · rw [if_neg (by omega)]; congr 1; dsimp only; omega
          · rw [if_neg q2] at hsk hskA
            by_cases q3 : hasPre [47, 42] (b :: t) = true
            · rw [if_pos q3] at hsk hskA
              obtain ⟨w, hw⟩ := pre2 q3
              have htl : (t ++ u).tail = t.tail ++ u := by
                have : t = 42 :: w := (List.cons.inj hw).2
                rw [this]; rfl
              cases hc : closeC t.tail with
              | none =>
                rw [hc] at hsk
                rw [hsk] at hb
                cases hb
              | some n =>
                have hroom := closeC_room hc
                simp only [List.length_tail] at hroom
                rw [hc] at hsk
                rw [htl, closeC_app hu _ _ hc] at hskA
                dsimp only at hsk hskA
                rw [hsk] at hb ⊢
                rw [hskA]
                dsimp only at hb ⊢
                have hd : (b :: (t ++ u)).drop (n + 4) = (b :: t).drop (n + 4) ++ u := by
                  rw [← List.cons_append, List.drop_append_of_le_length (by simp only [List.length_cons]; omega)]
                rw [hd]
                obtain ⟨F2, h1, h2⟩ := ih ((b :: t).drop (n + 4)) F (by simp only [List.length_drop, List.length_cons]; omega) (by simp only [List.length_append, List.length_drop, List.length_cons]; omega) hb
                refine ⟨F2, h1, ?_⟩
                rw [h2]
                simp only [List.length_cons, List.length_drop]
                split
                · rw [if_pos (by omega)]
                · rw [if_neg (by omega)]; congr 1; dsimp only; omega
            · rw [if_neg q3] at hsk hskA
              refine ⟨u.length + 1, by omega, ?_⟩
              rw [hsk, hskA]
              simp
theorem esc_app {t u : List UInt8} {b : UInt8} {n : Nat} (hu : NL u) (h : escR t = (b, n, true)) : escR (t ++ u) = (b, n, true) := by
  have hp := esc_le h
  cases t with
  | nil => simp at hp; omega
  | cons c w =>
    have hR : ∀ v : List UInt8, escR (c :: v) = match escS c with
      | some d => (d, 1, true)
      | none => if c = 120 then
          (UInt8.ofNat (hexW 0 (v.take (runLen isHex v))), runLen isHex v + 1, decide (0 < runLen isHex v ∧ hexW 0 (v.take (runLen isHex v)) ≤ 255))
        else (UInt8.ofNat (octW 0 ((c :: v).take (min 3 (runLen isOct (c :: v))))), min 3 (runLen isOct (c :: v)), decide (0 < min 3 (runLen isOct (c :: v)) ∧ octW 0 ((c :: v).take (min 3 (runLen isOct (c :: v)))) ≤ 255)) := fun _ => rfl
    have h1 : runLen isHex (w ++ u) = runLen isHex w := runLen_app (by decide) hu w
    have h2 : runLen isOct (c :: w ++ u) = runLen isOct (c :: w) := runLen_app (by decide) hu (c :: w)
    have h3 := runLen_le isHex w
    have h4 := runLen_le isOct (c :: w)
    have h5 : (w ++ u).take (runLen isHex w) = w.take (runLen isHex w) := List.take_append_of_le_length h3
    have h6 : (c :: (w ++ u)).take (min 3 (runLen isOct (c :: w))) = (c :: w).take (min 3 (runLen isOct (c :: w))) := by
      rw [← List.cons_append]; exact List.take_append_of_le_length (by omega)
    rw [List.cons_append] at h2 ⊢
    rw [hR] at h ⊢
    rw [h1, h2, h5, h6]
    exact h
theorem quo_app {u : List UInt8} (hu : NL u) {q : UInt8} : ∀ (f : Nat) (r o : List UInt8) (m F : Nat), quoR q f r = some (o, m) → (r ++ u).length < F → quoR q F (r ++ u) = some (o, m) := by
  intro f
  induction f with
  | zero => intro r o m F h; cases h
  | succ f ih =>
    intro r o m F h hF
    simp only [List.length_append] at hF
    cases F with
    | zero => omega
    | succ F =>
      cases r with
      | nil => cases h
      | cons c t =>
        simp only [List.length_cons] at hF
        rw [List.cons_append]
        rw [quo_cons] at h ⊢
        by_cases hq : c = q
        · rw [if_pos hq] at h ⊢; exact h
        · rw [if_neg hq] at h ⊢
          by_cases h10 : c = 10
          · rw [if_pos h10] at h; cases h
          · rw [if_neg h10] at h ⊢
            by_cases h92 : c = 92
            · rw [if_pos h92] at h ⊢
              cases hE : escR t with
              | mk b p =>
                obtain ⟨n, ok⟩ := p
                rw [hE] at h
                cases ok with
                | false => cases h
                | true =>
                  dsimp only at h
                  obtain ⟨⟨o', m'⟩, hp, he⟩ := Option.map_eq_some_iff.1 h
                  cases he
                  have hn := esc_le hE
                  rw [esc_app hu hE]
                  dsimp only
                  rw [List.drop_append_of_le_length (by omega), ih _ _ _ F hp (by simp only [List.length_append, List.length_drop]; omega)]
                  rfl
            · rw [if_neg h92] at h ⊢
              obtain ⟨⟨o', m'⟩, hp, he⟩ := Option.map_eq_some_iff.1 h
              cases he
              rw [ih _ _ _ F hp (by simp only [List.length_append]; omega)]
              rfl
theorem sign_app {s u : List UInt8} (hu : NL u) (hne : s ≠ []) : signR (s ++ u) = signR s := by
  have key : ∀ l : List (List UInt8), (∀ y ∈ l, (10 : UInt8) ∉ y) → l.find? (fun x => hasPre x (s ++ u)) = l.find? (fun x => hasPre x s) := by
    intro l
    induction l with
    | nil => intro _; rfl
    | cons y r ih =>
      intro h
      rw [List.find?_cons, List.find?_cons, pre_app hu (h y (by simp)), ih (fun z hz => h z (by simp [hz]))]
  have hk := key sgs (by decide)
  have hR : ∀ u : List UInt8, signR u = match sgs.find? (fun x => hasPre x u) with
    | some x => x
    | none => match u with
      | [] => []
      | b :: _ => if 0 ≤ Go.Lib.indexByte chs b then [b] else [] := fun _ => rfl
  rw [hR (s ++ u), hR s, hk]
  cases s with
  | nil => exact absurd rfl hne
  | cons b t => rfl
theorem one_app {r u : List UInt8} {x : Int × List UInt8 × Int} {m : Nat} (hu : NL u) (h : oneR r = .ok (x, m)) : oneR (r ++ u) = .ok (x, m) := by
  cases r with
  | nil => cases h
  | cons b t =>
    have hrl : runLen isTail (b :: t ++ u) = runLen isTail (b :: t) := runLen_app (by decide) hu (b :: t)
    have hle := runLen_le isTail (b :: t)
    have htk : (b :: (t ++ u)).take (runLen isTail (b :: t)) = (b :: t).take (runLen isTail (b :: t)) := by
      rw [← List.cons_append]; exact List.take_append_of_le_length hle
    have hsg := sign_app hu (show b :: t ≠ [] by simp)
    rw [List.cons_append] at hrl hsg ⊢
    have hR : ∀ (u : List UInt8), oneR (b :: u) = if isLet b.toNat = true then (if 63 < runLen isTail (b :: u) then .error 22 else .ok ((if isKw ((b :: u).take (runLen isTail (b :: u))) = true then 2 else 1, (b :: u).take (runLen isTail (b :: u)), 0), runLen isTail (b :: u)))
      else if isDig b.toNat = true then (match numberR ((b :: u).take (runLen isTail (b :: u))) with
        | none => .error 21
        | some (t, v) => .ok ((3, t, v), runLen isTail (b :: u)))
      else if b = 39 ∨ b = 34 then (match quoR b (b :: u).length ((b :: u).drop 1) with
        | none => .error 26
        | some (o, m) => if b = 34 then .ok ((5, o, 0), m + 1) else match o with
          | [x] => .ok ((4, [], sgn x), m + 1)
          | _ => .error 26)
      else if signR (b :: u) = [] then .error 20 else .ok ((6, signR (b :: u), 0), (signR (b :: u)).length) := fun _ => rfl
    rw [hR] at h ⊢
    rw [hrl, htk, hsg]
    by_cases hl : isLet b.toNat = true
    · rw [if_pos hl] at h ⊢; exact h
    · rw [if_neg hl] at h ⊢
      by_cases hd : isDig b.toNat = true
      · rw [if_pos hd] at h ⊢; exact h
      · rw [if_neg hd] at h ⊢
        by_cases hq : b = 39 ∨ b = 34
        · rw [if_pos hq] at h ⊢
          cases hQ : quoR b (b :: t).length ((b :: t).drop 1) with
          | none => rw [hQ] at h; cases h
          | some p =>
            obtain ⟨o, k⟩ := p
            rw [hQ] at h
            have hQ' : quoR b (b :: (t ++ u)).length ((b :: (t ++ u)).drop 1) = some (o, k) :=
              quo_app hu (b :: t).length t o k (b :: (t ++ u)).length hQ (by simp)
            rw [hQ']
            exact h
        · rw [if_neg hq] at h ⊢; exact h

end Go.Proofs.YtmpdpjkblcdfkaaDoor
