/- What stands between quotes. -/
import Derived.Test.YtmpdpjkblcdfkaaDoorTk
import Derived.Test.YtmpdpjkblcdfkaaDoorAmW
namespace Go.Proofs.YtmpdpjkblcdfkaaDoor
open Go.AM
set_option maxRecDepth 20000
set_option maxHeartbeats 4000000
set_option linter.unusedSimpArgs false
set_option linter.unusedVariables false
attribute [local congr] andF_cg onF_cg bthen_cg bkeep_cg bcond_cg guardV_cg putF_cg guardF_cg ite_cg stepsF_cg
attribute [local simp] Brun_skip Brun_exit Brun_ret Brun_seq Brun_cond Brun_block Brun_region bthen_normal bthen_ret bthen_exit bblock_normal bblock_ret bblock_exit bkeep_some andF_some onF_some onF_none guardF_none guardF_some guardV_tup putF_some putF_none stepsF_nil stepsF_cons upd_apply ofL_cons ofL_nil bown_normal bown_ret banswer_normal banswer_ret aresults ares List.replicate stepF_call stepF_callD stepF_move stepF_pick stepF_alloc stepF_allocV stepF_box stepF_boxV stepF_build stepF_buildSlice stepF_buildSliceV stepF_load stepF_store stepF_nilCheck stepF_bin stepF_eq stepF_un stepF_conv stepF_strId stepF_toStr stepF_toBytes stepF_fn stepF_mkSlice stepF_slice stepF_strSlice stepF_fieldAddr stepF_field stepF_idxAddr stepF_idxArr stepF_index stepF_strIndex stepF_extract stepF_len0 stepF_len1 stepF_min stepF_max stepF_append stepF_appendF appF_none appF_row stepF_mkMap stepF_mkIface stepF_lookup stepF_mapUpdate stepF_ext aext_idx aext_count aext_same cellsF newF abin_add abin_sub abin_mul abin_quo abin_rem abin_eql abin_neq abin_lss abin_leq abin_gtr abin_geq abin_and abin_or abin_xor abin_shl abin_shr abin_seql abin_sneq aun_not aun_neg aeq_bool aeq_agg eqCells_nil eqCells_int eqCells_bool eqCells_str cellsOf_agg cellsOf_int cellsOf_bool cellsOf_str cellsOf_is cellsOf_ms cellsOf_fn cellsOf_nilp cellsOf_mp cellsOf_mm cellsOf_nilm cellsOf_nili cellsOf_ifc cellsOf_ip cget_one cget_agg ev_t ev_c fillp_nil fillp_cons isSc_int isSc_bool isSc_str isSc_is isSc_ms isSc_fn isSc_mm isSc_mp isSc_ip isSc_nilp isSc_nilm isSc_nili isSc_nilf isSc_ifc splice chunk strip strip.stripL imm imm.immL Areify_int Areify_bool Areify_str Areify_is Areify_nilp Areify_tup Areify_agg AreifyL andF_chi andF_ch onF_chi onF_ch bthen_ch bthen_chi bblock_ch bblock_chi bkeep_ch bkeep_chi bown_ch bown_chi banswer_ch banswer_chi isSome_ch bcond_ch guardV_ch1 guardV_ch0 chF_true chF_false chF_not
attribute [local simp ↓] andF_some andF_chi andF_ch onF_some onF_none onF_chi onF_ch bthen_normal bthen_ret bthen_exit bthen_ch bthen_chi bblock_normal bblock_ret bblock_exit bblock_ch bblock_chi bkeep_some bkeep_ch bkeep_chi bown_normal bown_ret bown_ch bown_chi banswer_normal banswer_ret banswer_ch banswer_chi bcond_ch guardV_ch1 guardV_ch0 guardV_tup guardF_none guardF_some putF_some putF_none stepsF_nil stepsF_cons chF_true chF_false Brun_seq Brun_cond Brun_block Brun_region Brun_skip Brun_ret Brun_exit stepF_call stepF_callD stepF_move stepF_pick stepF_alloc stepF_allocV stepF_box stepF_boxV stepF_build stepF_buildSlice stepF_buildSliceV stepF_load stepF_store stepF_nilCheck stepF_bin stepF_eq stepF_un stepF_conv stepF_strId stepF_toStr stepF_toBytes stepF_fn stepF_mkSlice stepF_slice stepF_strSlice stepF_fieldAddr stepF_field stepF_idxAddr stepF_idxArr stepF_index stepF_strIndex stepF_extract stepF_len0 stepF_len1 stepF_min stepF_max stepF_append stepF_appendF stepF_mkMap stepF_mkIface stepF_lookup stepF_mapUpdate stepF_ext
set_option maxHeartbeats 1000000
theorem roomy_small {n b : Nat} (h : n ≤ 4000000000) (hb : b ≤ 10000) : roomy n b = true := by
  have := Nat.mul_le_mul h hb
  simp only [roomy, decide_eq_true_eq]
  omega
theorem room0 {cap : Cap} {sz : Nat} {rows : List (List AV)} {t : Heap} (h : CapAt 0 cap sz rows t) (r : Heap) : roomOK cap sz rows (t ++ r) = true := h.room (p := []) rfl r
theorem spend0 {cap : Cap} {sz : Nat} {rows : List (List AV)} {t : Heap} (h : CapAt 0 cap sz rows t) (r : Heap) : spend cap (t ++ r) = spendAt 0 cap t ++ r := h.spend (p := []) rfl r
theorem bys_app (s : List UInt8) (b : UInt8) : bys s ++ [[.int .u8 b.toNat]] = bys (s ++ [b]) := by simp [bys]
theorem esc_le {s : List UInt8} {b : UInt8} {n : Nat} (h : escR s = (b, n, true)) : 0 < n ∧ n ≤ s.length := by
  unfold escR at h
  split at h
  · simp at h
  · rename_i c hc
    have := lt_get hc
    split at h
    · cases h; omega
    · split at h
      · simp only [Prod.mk.injEq, decide_eq_true_eq] at h
        have := runLen_le isHex (s.drop 1)
        simp only [List.length_drop] at this
        omega
      · simp only [Prod.mk.injEq, decide_eq_true_eq] at h
        have := runLen_le isOct s
        omega
/-- What stands behind a quote: the bytes, and how many there are with the quote that ends them. -/
def quoR (q : UInt8) : Nat → List UInt8 → Option (List UInt8 × Nat)
  | 0, _ => none
  | f + 1, r => match r with
    | [] => none
    | c :: t => if c = q then some ([], 1)
      else if c = 10 then none
      else if c = 92 then (match escR t with
        | (b, n, true) => (quoR q f (t.drop n)).map fun p => (b :: p.1, p.2 + (n + 1))
        | (_, _, false) => none)
      else (quoR q f t).map fun p => (c :: p.1, p.2 + 1)
def QOut (out : List UInt8) (i : Nat) (x : Option (Ex × Env × Heap)) : Option (List UInt8 × Nat) → Prop
  | some (o, m) => ∃ cap' h', x = some (.ret, ofL [(4, .is (bys (out ++ o)) cap'), (5, .int .i64 (i + m : Nat)), (6, .bool true)], h')
  | none => (∃ h', x = some (.ret, ofL [(4, .is [] .nil), (5, .int .i64 0), (6, .bool false)], h')) ∨ ∃ e h', x = some (.exit 0, e, h')
theorem QOut.step {out : List UInt8} {b : UInt8} {i k : Nat} {x : Option (Ex × Env × Heap)} {r : Option (List UInt8 × Nat)} (h : QOut (out ++ [b]) (i + k) x r) : QOut out i x (r.map fun p => (b :: p.1, p.2 + k)) := by
  cases r with
  | none => exact h
  | some p =>
    obtain ⟨cap', h', hx⟩ := h
    refine ⟨cap', h', ?_⟩
    rw [hx, List.append_assoc, show i + k + p.2 = i + (p.2 + k) by omega]
    rfl
theorem quo_loop (s : List UInt8) (hs : s.length ≤ 4194304) (q : UInt8) : ∀ (f i : Nat) (r out : List UInt8) (cap : Cap) (t : Heap), s.drop i = r → i ≤ s.length → out.length ≤ i → r.length < f → CapAt 0 cap 1 (bys out) t →
    QOut out i (Brun tab 55 (.loop f50l3) (ofL [(0, .str s), (1, .int .u8 q.toNat), (7, .is (bys out) cap), (8, .int .i64 i)]) t) (quoR q f r) := by
  intro f
  induction f with
  | zero => intro i r out cap t _ _ _ hf; omega
  | succ f ih =>
    intro i r out cap h hr hi ho hf hc
    have hlen : r.length = s.length - i := by rw [← hr]; simp
    rw [Brun_loop]
    cases r with
    | nil =>
      refine .inr ⟨ofL [(0, .str s), (1, .int .u8 q.toNat), (7, .is (bys out) cap), (8, .int .i64 i), (16, .bool false)], h, ?_⟩
      have e3 : (s.length : Int) ≤ i := by simp only [List.length_nil] at hlen; omega
      clear ih hs hr hi ho hf hc hlen
      repeat (any_goals first | simp (dsimp := false) (maxSteps := 4000000) (maxDischargeDepth := 8) (implicitDefEqProofs := false) [*, -Int.not_le, -Int.not_lt, amLt, f50c, f50m3, f50r0, f50r1, f50r2, f50r3, f50r4, f50r5, f50r6, f50r7, f50r8, f50r9, f50r10, f50r11, f50r12, f50r13, f50r14, f50r15, f50r16, f50r17, f50r18, f50l3_b] | with_reducible refine ch_both (fun _ => ?_) (fun _ => ?_) | with_reducible refine ite_both (fun _ => ?_) (fun _ => ?_) | intro _)
    | cons c t =>
      simp only [List.length_cons] at hlen hf
      have hb : s[i]? = some c := by
        have := congrArg (·[0]?) hr
        simpa using this
      have htl : s.drop (i + 1) = t := by
        have := congrArg List.tail hr
        simpa using this
      have e3 : ¬ (s.length : Int) ≤ i := by omega
      have hw := w64 i (by omega)
      have hstep : quoR q (f + 1) (c :: t) = if c = q then some ([], 1)
        else if c = 10 then none
        else if c = 92 then (match escR t with
          | (b, n, true) => (quoR q f (t.drop n)).map fun p => (b :: p.1, p.2 + (n + 1))
          | (_, _, false) => none)
        else (quoR q f t).map fun p => (c :: p.1, p.2 + 1) := rfl
      rw [hstep]
      by_cases hq : c = q
      · subst hq
        rw [if_pos rfl]
        refine ⟨cap, h, ?_⟩
        rw [List.append_nil]
        have ei : ((i + 1 : Nat) : Int) = i + 1 := by push_cast; rfl
        rw [ei]
        clear ih hs hr hi ho hf hc hlen htl hstep ei
        repeat (any_goals first | simp (dsimp := false) (maxSteps := 4000000) (maxDischargeDepth := 8) (implicitDefEqProofs := false) [*, -Int.not_le, -Int.not_lt, amLt, f50c, f50m3, f50r0, f50r1, f50r2, f50r3, f50r4, f50r5, f50r6, f50r7, f50r8, f50r9, f50r10, f50r11, f50r12, f50r13, f50r14, f50r15, f50r16, f50r17, f50r18, f50l3_b] | with_reducible refine ch_both (fun _ => ?_) (fun _ => ?_) | with_reducible refine ite_both (fun _ => ?_) (fun _ => ?_) | intro _)
      · have hq' : ¬ (c.toNat : Int) = q.toNat := fun h => hq ((u8_inj c q).1 h)
        rw [if_neg hq]
        by_cases h10 : c = 10
        · rw [if_pos h10]
          subst h10
          refine .inl ⟨h, ?_⟩
          have hq2 : ¬ (10 : Int) = q.toNat := hq'
          clear ih hs hr hi ho hf hc hlen htl hstep
          repeat (any_goals first | simp (dsimp := false) (maxSteps := 4000000) (maxDischargeDepth := 8) (implicitDefEqProofs := false) [*, -Int.not_le, -Int.not_lt, amLt, f50c, f50m3, f50r0, f50r1, f50r2, f50r3, f50r4, f50r5, f50r6, f50r7, f50r8, f50r9, f50r10, f50r11, f50r12, f50r13, f50r14, f50r15, f50r16, f50r17, f50r18, f50l3_b] | with_reducible refine ch_both (fun _ => ?_) (fun _ => ?_) | with_reducible refine ite_both (fun _ => ?_) (fun _ => ?_) | intro _)
        · have h10' : ¬ (c.toNat : Int) = 10 := fun h => h10 (UInt8.toNat_inj.1 (by show c.toNat = 10; omega))
          rw [if_neg h10]
          have hr0 := room0 hc
          have hs0 := spend0 hc
          have hsl := spendAt_len 0 cap h
          have hroom : roomy (out.length + 1) 1 = true := roomy_small (by omega) (by decide)
          have hnew : CapAt 0 (.tok h.length 1) 1 (bys (out ++ [c])) (spendAt 0 cap h ++ [.tok]) := CapAt.new (k := 0) (j := 0) hsl rfl
          by_cases h92 : c = 92
          · have h92' : (c.toNat : Int) = 92 := by rw [h92]; rfl
            rw [if_pos h92]
            have hE := fun h => escaped_ok h t (by omega)
            have hle := @esc_le t
            have e1 : (i : Int) + 1 ≤ s.length := by omega
            have e0 : (0 : Int) ≤ (i : Int) + 1 := by omega
            have en : ((i : Int) + 1).toNat = i + 1 := by omega
            have hq9 : ¬ (92 : Int) = q.toNat := by rw [← h92']; exact hq'
            rcases hEq : escR t with ⟨b, n, ok⟩
            simp only [hEq] at hE
            cases ok with
            | false =>
              dsimp only
              unfold escV at hE
              refine .inl ⟨h, ?_⟩
              clear ih hs hr hi ho hf hc hlen hstep hnew hr0 hs0 hsl hroom hEq hle
              repeat (any_goals first | simp (dsimp := false) (maxSteps := 4000000) (maxDischargeDepth := 8) (implicitDefEqProofs := false) [*, -Int.not_le, -Int.not_lt, amLt, f50c, f50m3, f50r0, f50r1, f50r2, f50r3, f50r4, f50r5, f50r6, f50r7, f50r8, f50r9, f50r10, f50r11, f50r12, f50r13, f50r14, f50r15, f50r16, f50r17, f50r18, f50l3_b, obound_some, obound_none, abound_int] | with_reducible refine ch_both (fun _ => ?_) (fun _ => ?_) | with_reducible refine ite_both (fun _ => ?_) (fun _ => ?_) | intro _)
            | true =>
              dsimp only
              obtain ⟨hn0, hn⟩ := hle hEq
              unfold escV at hE
              have hnew : CapAt 0 (.tok h.length 1) 1 (bys (out ++ [b])) (spendAt 0 cap h ++ [.tok]) := CapAt.new (k := 0) (j := 0) hsl rfl
              have hdt : s.drop (i + (n + 1)) = t.drop n := by rw [← htl, List.drop_drop]; congr 1; omega
              have ih2 := ih (i + (n + 1)) (t.drop n) (out ++ [b]) (.tok h.length 1) (spendAt 0 cap h ++ [.tok]) hdt (by omega) (by simp; omega) (by simp only [List.length_drop]; omega) hnew
              refine QOut.step (k := n + 1) (Eq.mp (congrArg (fun x => QOut _ _ x _) ?_) ih2)
              symm
              have ha := bys_app out b
              have w1 : IntKind.i64.wrap ((i : Int) + n) = ((i + n : Nat) : Int) := by rw [IntWalk.i64_in _ (by omega)]; push_cast; rfl
              have w2 := w64 (i + n) (by omega)
              have ei : ((i + (n + 1) : Nat) : Int) = ((i + n : Nat) : Int) + 1 := by push_cast; omega
              rw [ei]
              generalize hk : i + n = k at *
              clear ih ih2 hs hr hi ho hf hc hlen hstep hnew hdt hk hn hn0 ei hEq hle
              repeat (any_goals first | simp (dsimp := false) (maxSteps := 4000000) (maxDischargeDepth := 8) (implicitDefEqProofs := false) [*, -Int.not_le, -Int.not_lt, amLt, f50c, f50m3, f50r0, f50r1, f50r2, f50r3, f50r4, f50r5, f50r6, f50r7, f50r8, f50r9, f50r10, f50r11, f50r12, f50r13, f50r14, f50r15, f50r16, f50r17, f50r18, f50l3_b, obound_some, obound_none, abound_int, bys_len, app_get, app_get0, app_set, app_set0] | with_reducible refine ch_both (fun _ => ?_) (fun _ => ?_) | with_reducible refine ite_both (fun _ => ?_) (fun _ => ?_) | intro _)
          · have h92' : ¬ (c.toNat : Int) = 92 := fun h => h92 (UInt8.toNat_inj.1 (by show c.toNat = 92; omega))
            rw [if_neg h92]
            have ih2 := ih (i + 1) t (out ++ [c]) (.tok h.length 1) (spendAt 0 cap h ++ [.tok]) htl (by omega) (by simp; omega) (by omega) hnew
            refine QOut.step (k := 1) (Eq.mp (congrArg (fun x => QOut _ _ x _) ?_) ih2)
            symm
            have ha := bys_app out c
            have ei : ((i + 1 : Nat) : Int) = i + 1 := by push_cast; rfl
            rw [ei]
            clear ih ih2 hs hr hi ho hf hc hlen htl hstep hnew ei
            repeat (any_goals first | simp (dsimp := false) (maxSteps := 4000000) (maxDischargeDepth := 8) (implicitDefEqProofs := false) [*, -Int.not_le, -Int.not_lt, amLt, f50c, f50m3, f50r0, f50r1, f50r2, f50r3, f50r4, f50r5, f50r6, f50r7, f50r8, f50r9, f50r10, f50r11, f50r12, f50r13, f50r14, f50r15, f50r16, f50r17, f50r18, f50l3_b, bys_len, app_get, app_get0, app_set, app_set0] | with_reducible refine ch_both (fun _ => ?_) (fun _ => ?_) | with_reducible refine ite_both (fun _ => ?_) (fun _ => ?_) | intro _)

end Go.Proofs.YtmpdpjkblcdfkaaDoor
