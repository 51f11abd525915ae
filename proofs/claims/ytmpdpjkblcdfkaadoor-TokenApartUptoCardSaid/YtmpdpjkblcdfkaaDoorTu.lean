/- Two texts, one behind the other. -/
import Derived.Test.YtmpdpjkblcdfkaaDoorTt
import Derived.Test.YtmpdpjkblcdfkaaDoorAmW
namespace Go.Proofs.YtmpdpjkblcdfkaaDoor
open Go.AM
set_option maxRecDepth 20000
set_option maxHeartbeats 4000000
set_option linter.unusedSimpArgs false
set_option linter.unusedVariables false
attribute [local congr] andF_cg onF_cg bthen_cg bkeep_cg bcond_cg guardV_cg putF_cg guardF_cg ite_cg stepsF_cg
attribute [local simp] Brun_skip Brun_exit Brun_ret Brun_seq Brun_cond Brun_block Brun_region bthen_normal bthen_ret bthen_exit bblock_normal bblock_ret bblock_exit bkeep_some andF_some onF_some onF_none guardF_none guardF_some guardV_tup putF_some putF_none stepsF_nil stepsF_cons upd_apply ofL_cons ofL_nil bown_normal bown_ret banswer_normal banswer_ret aresults ares List.replicate stepF_call stepF_callD stepF_move stepF_pick stepF_alloc stepF_allocV stepF_box stepF_boxV stepF_build stepF_buildSlice stepF_buildSliceV stepF_load stepF_store stepF_nilCheck stepF_bin stepF_eq stepF_un stepF_conv stepF_strId stepF_toStr stepF_toBytes stepF_fn stepF_mkSlice stepF_slice stepF_strSlice stepF_fieldAddr stepF_field stepF_idxAddr stepF_idxArr stepF_index stepF_strIndex stepF_extract stepF_len0 stepF_len1 stepF_min stepF_max stepF_append stepF_appendF appF_none appF_row stepF_mkMap stepF_mkIface stepF_lookup stepF_mapUpdate stepF_ext aext_idx aext_count aext_same cellsF newF abin_add abin_sub abin_mul abin_quo abin_rem abin_eql abin_neq abin_lss abin_leq abin_gtr abin_geq abin_and abin_or abin_xor abin_shl abin_shr abin_seql abin_sneq aun_not aun_neg aeq_bool aeq_agg eqCells_nil eqCells_int eqCells_bool eqCells_str cellsOf_agg cellsOf_int cellsOf_bool cellsOf_str cellsOf_is cellsOf_ms cellsOf_fn cellsOf_nilp cellsOf_mp cellsOf_mm cellsOf_nilm cellsOf_nili cellsOf_ifc cellsOf_ip cget_one cget_agg ev_t ev_c fillp_nil fillp_cons isSc_int isSc_bool isSc_str isSc_is isSc_ms isSc_fn isSc_mm isSc_mp isSc_ip isSc_nilp isSc_nilm isSc_nili isSc_nilf isSc_ifc splice chunk strip strip.stripL imm imm.immL Areify_int Areify_bool Areify_str Areify_is Areify_nilp Areify_tup Areify_agg AreifyL andF_chi andF_ch onF_chi onF_ch bthen_ch bthen_chi bblock_ch bblock_chi bkeep_ch bkeep_chi bown_ch bown_chi banswer_ch banswer_chi isSome_ch bcond_ch guardV_ch1 guardV_ch0 chF_true chF_false chF_not
attribute [local simp ↓] andF_some andF_chi andF_ch onF_some onF_none onF_chi onF_ch bthen_normal bthen_ret bthen_exit bthen_ch bthen_chi bblock_normal bblock_ret bblock_exit bblock_ch bblock_chi bkeep_some bkeep_ch bkeep_chi bown_normal bown_ret bown_ch bown_chi banswer_normal banswer_ret banswer_ch banswer_chi bcond_ch guardV_ch1 guardV_ch0 guardV_tup guardF_none guardF_some putF_some putF_none stepsF_nil stepsF_cons chF_true chF_false Brun_seq Brun_cond Brun_block Brun_region Brun_skip Brun_ret Brun_exit stepF_call stepF_callD stepF_move stepF_pick stepF_alloc stepF_allocV stepF_box stepF_boxV stepF_build stepF_buildSlice stepF_buildSliceV stepF_load stepF_store stepF_nilCheck stepF_bin stepF_eq stepF_un stepF_conv stepF_strId stepF_toStr stepF_toBytes stepF_fn stepF_mkSlice stepF_slice stepF_strSlice stepF_fieldAddr stepF_field stepF_idxAddr stepF_idxArr stepF_index stepF_strIndex stepF_extract stepF_len0 stepF_len1 stepF_min stepF_max stepF_append stepF_appendF stepF_mkMap stepF_mkIface stepF_lookup stepF_mapUpdate stepF_ext
theorem scan_ne {s : List UInt8} : ∀ {f at_ n : Nat} {l : List Tk}, scanR s f at_ n = .ok l → l ≠ [] := by
  intro f at_ n l h
  cases f with
  | zero => cases h
  | succ f =>
    unfold scanR at h
    split at h
    · cases h
    · split at h
      · cases h; simp
      · split at h
        · cases h
        · split at h
          · cases h
          · rename_i x m _ _
            cases hS : scanR s f (nextR s at_ + m) (n + 1) with
            | error e => rw [hS] at h; cases h
            | ok l' => rw [hS] at h; cases h; simp
theorem scan_succ (s : List UInt8) (f at_ n : Nat) : scanR s (f + 1) at_ n = if badC s at_ = true then .error (25, nextR s at_)
      else if nextR s at_ = s.length then .ok [((0, [], 0), nextR s at_)]
      else match oneR (s.drop (nextR s at_)) with
        | .error e => .error (e, nextR s at_)
        | .ok (x, m) => if n = 16384 then .error (23, nextR s at_) else consR (x, nextR s at_) (scanR s f (nextR s at_ + m) (n + 1)) := rfl
/-- What is skipped does not hang on the fuel. -/
theorem skip_fuel {f F : Nat} {r : List UInt8} (hf : r.length < f) (hF : r.length < F) (hb : (skipR f r).2 = false) : skipR F r = ((skipR f r).1, false) := by
  have hl := skip_le f r
  have := skip_take f r F r.length hf (by rw [List.take_length]; exact hF) (by
    rcases Nat.lt_or_ge (skipR f r).1 r.length with q | q
    · exact .inr ⟨q, hb⟩
    · exact .inl (by omega))
  rw [List.take_length] at this
  exact this
def shiftT (k : Nat) (x : Tk) : Tk := (x.1, k + x.2)
theorem scan_shift (S t : List UInt8) (base : Nat) (hS : ∀ i, S.drop (base + i) = t.drop i) (hlen : S.length = base + t.length) : ∀ (f i n' n F : Nat) (b : List Tk), i ≤ t.length → scanR t f i n' = .ok b → S.length < base + i + F → n + b.length ≤ 16385 → scanR S F (base + i) n = .ok (b.map (shiftT base)) := by
  intro f
  induction f with
  | zero => intro i n' n F b _ h; cases h
  | succ f ih =>
    intro i n' n F b hi h hF hb
    obtain ⟨F, rfl⟩ : ∃ G, F = G + 1 := ⟨F - 1, by omega⟩
    obtain ⟨hn1, hn2⟩ := next_le t hi
    rw [scan_succ] at h ⊢
    by_cases hbad : badC t i = true
    · rw [if_pos hbad] at h; cases h
    · rw [if_neg hbad] at h
      have hbad' : (skipR (t.length + 1) (t.drop i)).2 = false := by simpa [badC] using hbad
      have hk := skip_fuel (F := S.length + 1) (show (t.drop i).length < t.length + 1 by simp only [List.length_drop]; omega) (by simp only [List.length_drop]; omega) hbad'
      have h1 : nextR S (base + i) = base + nextR t i := by
        show base + i + (skipR _ (S.drop (base + i))).1 = _
        rw [hS, hk]
        show base + i + (skipR _ _).1 = base + (i + (skipR _ _).1)
        omega
      have h2 : badC S (base + i) = false := by
        show (skipR _ (S.drop (base + i))).2 = _
        rw [hS, hk]
      rw [h1, h2, if_neg (by simp)]
      by_cases hse : nextR t i = t.length
      · rw [if_pos hse] at h
        rw [if_pos (by omega)]
        cases h
        rfl
      · rw [if_neg hse] at h
        rw [if_neg (by omega), hS]
        cases hO : oneR (t.drop (nextR t i)) with
        | error e => rw [hO] at h; cases h
        | ok p =>
          obtain ⟨x, m⟩ := p
          rw [hO] at h
          dsimp only at h ⊢
          obtain ⟨hm0, hm⟩ := one_len hO
          simp only [List.length_drop] at hm
          split at h
          · cases h
          · cases hR : scanR t f (nextR t i + m) (n' + 1) with
            | error e => rw [hR] at h; cases h
            | ok b' =>
              rw [hR] at h
              cases h
              have hne := List.length_pos_iff.2 (scan_ne hR)
              simp only [List.length_cons] at hb
              rw [if_neg (by omega), Nat.add_assoc, ih (nextR t i + m) (n' + 1) (n + 1) F b' (by omega) hR (by omega) (by omega)]
              rfl
theorem scan_app (s t : List UInt8) (b : List Tk) (hb : scanS t = .ok b) : ∀ (f at_ n : Nat) (a : List Tk) (F : Nat), at_ ≤ s.length → scanR s f at_ n = .ok a → n + a.length + b.length ≤ 16386 → (s ++ 10 :: t).length < at_ + F →
    ∃ c, scanR (s ++ 10 :: t) F at_ n = .ok c ∧ c.map (·.1) = a.dropLast.map (·.1) ++ b.map (·.1) := by
  have hu : NL (10 :: t) := ⟨t, rfl⟩
  have hSd : ∀ i, (s ++ 10 :: t).drop (s.length + 1 + i) = t.drop i := by
    intro i
    rw [List.drop_append, List.drop_of_length_le (by omega), List.nil_append, show s.length + 1 + i - s.length = i + 1 by omega]
    rfl
  have hSl : (s ++ 10 :: t).length = s.length + 1 + t.length := by simp; omega
  intro f
  induction f with
  | zero => intro at_ n a F _ h; cases h
  | succ f ih =>
    intro at_ n a F hat h hcount hF
    obtain ⟨F, rfl⟩ : ∃ G, F = G + 1 := ⟨F - 1, by omega⟩
    obtain ⟨hn1, hn2⟩ := next_le s hat
    rw [scan_succ] at h
    by_cases hbad : badC s at_ = true
    · rw [if_pos hbad] at h; cases h
    · rw [if_neg hbad] at h
      have hbad' : (skipR (s.length + 1) (s.drop at_)).2 = false := by simpa [badC] using hbad
      have hda : (s ++ 10 :: t).drop at_ = s.drop at_ ++ 10 :: t := List.drop_append_of_le_length hat
      obtain ⟨F2, hF2, hk⟩ := skip_app hu (s.length + 1) (s.drop at_) ((s ++ 10 :: t).length + 1) (by simp only [List.length_drop]; omega) (by simp only [List.length_append, List.length_drop]; omega) hbad'
      have hnx : nextR s at_ = at_ + (skipR (s.length + 1) (s.drop at_)).1 := rfl
      by_cases hse : nextR s at_ = s.length
      · rw [if_pos hse] at h
        cases h
        rw [if_neg (by simp only [List.length_drop]; omega)] at hk
        have hb0 := hb
        unfold scanS at hb0
        rw [scan_succ] at hb0
        have hbt : badC t 0 = false := by
          cases q : badC t 0 with
          | false => rfl
          | true => rw [q, if_pos rfl] at hb0; cases hb0
        have hbt' : (skipR (t.length + 1) t).2 = false := hbt
        obtain ⟨F3, rfl⟩ : ∃ G, F2 = G + 1 := ⟨F2 - 1, by omega⟩
        simp only [List.length_cons] at hF2
        have hk2 := skip_fuel (F := F3) (show t.length < t.length + 1 by omega) (by omega) hbt'
        have hsu : skipR (F3 + 1) (10 :: t) = ((skipR (t.length + 1) t).1 + 1, false) := by
          rw [skip_cons, if_pos (by decide), hk2]
        rw [hsu] at hk
        dsimp only at hk
        have h1 : nextR (s ++ 10 :: t) at_ = nextR (s ++ 10 :: t) (s.length + 1 + 0) := by
          have hk3 := skip_fuel (F := (s ++ 10 :: t).length + 1) (show (t.drop 0).length < t.length + 1 by simp) (by rw [List.drop_zero]; omega) (by simpa using hbt')
          show at_ + (skipR _ ((s ++ 10 :: t).drop at_)).1 = s.length + 1 + 0 + (skipR _ ((s ++ 10 :: t).drop (s.length + 1 + 0))).1
          rw [hda, hk, hSd, hk3]
          simp only [List.drop_zero]
          omega
        have h2 : badC (s ++ 10 :: t) at_ = badC (s ++ 10 :: t) (s.length + 1 + 0) := by
          have hk3 := skip_fuel (F := (s ++ 10 :: t).length + 1) (show (t.drop 0).length < t.length + 1 by simp) (by rw [List.drop_zero]; omega) (by simpa using hbt')
          show (skipR _ ((s ++ 10 :: t).drop at_)).2 = (skipR _ ((s ++ 10 :: t).drop (s.length + 1 + 0))).2
          rw [hda, hk, hSd, hk3]
        have hsh := scan_shift (s ++ 10 :: t) t (s.length + 1) hSd hSl (t.length + 1) 0 0 n (F + 1) b (Nat.zero_le _) hb (by omega) (by simp only [List.length_cons, List.length_nil] at hcount; omega)
        refine ⟨b.map (shiftT (s.length + 1)), ?_, ?_⟩
        · rw [scan_succ, h1, h2, ← scan_succ]
          exact hsh
        · simp only [List.dropLast_singleton, List.map_nil, List.nil_append, List.map_map]
          rfl
      · rw [if_neg hse] at h
        rw [if_pos (by simp only [List.length_drop]; omega)] at hk
        have h1 : nextR (s ++ 10 :: t) at_ = nextR s at_ := by
          show at_ + (skipR _ ((s ++ 10 :: t).drop at_)).1 = _
          rw [hda, hk]; rfl
        have h2 : badC (s ++ 10 :: t) at_ = false := by
          show (skipR _ ((s ++ 10 :: t).drop at_)).2 = _
          rw [hda, hk]
        cases hO : oneR (s.drop (nextR s at_)) with
        | error e => rw [hO] at h; cases h
        | ok p =>
          obtain ⟨x, m⟩ := p
          rw [hO] at h
          dsimp only at h
          obtain ⟨hm0, hm⟩ := one_len hO
          simp only [List.length_drop] at hm
          by_cases hmany : n = 16384
          · rw [if_pos hmany] at h; cases h
          · rw [if_neg hmany] at h
            cases hR : scanR s f (nextR s at_ + m) (n + 1) with
            | error e => rw [hR] at h; cases h
            | ok a' =>
              rw [hR] at h
              cases h
              have hne := scan_ne hR
              simp only [List.length_cons] at hcount
              obtain ⟨c, hc1, hc2⟩ := ih (nextR s at_ + m) (n + 1) a' F (by omega) hR (by omega) (by omega)
              refine ⟨(x, nextR s at_) :: c, ?_, ?_⟩
              · rw [scan_succ, h1, h2, if_neg (by simp), if_neg (by omega), List.drop_append_of_le_length hn1, one_app hu hO]
                dsimp only
                rw [if_neg hmany, hc1]
                rfl
              · rw [List.dropLast_cons_of_ne_nil hne]
                simp only [List.map_cons, List.cons_append, hc2]

end Go.Proofs.YtmpdpjkblcdfkaaDoor
