/- Quotes, signs, one token. -/
import Derived.Test.YtmpdpjkblcdfkaaDoorZe
import Derived.Test.YtmpdpjkblcdfkaaDoorAmW
namespace Go.Proofs.YtmpdpjkblcdfkaaDoor
open Go.AM
set_option maxRecDepth 20000
set_option maxHeartbeats 4000000
set_option linter.unusedSimpArgs false
set_option linter.unusedVariables false
attribute [local congr] andF_cg onF_cg bthen_cg bkeep_cg bcond_cg guardV_cg putF_cg guardF_cg ite_cg stepsF_cg
attribute [local simp] Brun_skip Brun_exit Brun_ret Brun_seq Brun_cond Brun_block Brun_region bthen_normal bthen_ret bthen_exit bblock_normal bblock_ret bblock_exit bkeep_some andF_some onF_some onF_none guardF_none guardF_some guardV_tup putF_some putF_none stepsF_nil stepsF_cons upd_apply ofL_cons ofL_nil bown_normal bown_ret banswer_normal banswer_ret aresults ares List.replicate stepF_call stepF_callD stepF_move stepF_pick stepF_alloc stepF_allocV stepF_box stepF_boxV stepF_build stepF_buildSlice stepF_buildSliceV stepF_load stepF_store stepF_nilCheck stepF_bin stepF_eq stepF_un stepF_conv stepF_strId strIdV_str strIdV_int stepF_toStr stepF_toBytes stepF_fn stepF_mkSlice stepF_slice stepF_strSlice stepF_fieldAddr stepF_field stepF_idxAddr stepF_idxArr stepF_index stepF_strIndex stepF_extract stepF_len0 stepF_len1 stepF_min stepF_max stepF_append stepF_appendF appF_none appF_row stepF_mkMap stepF_mkIface stepF_lookup stepF_mapUpdate stepF_ext aext_idx aext_count aext_same cellsF newF abin_add abin_sub abin_mul abin_quo abin_rem abin_eql abin_neq abin_lss abin_leq abin_gtr abin_geq abin_and abin_or abin_xor abin_shl abin_shr abin_seql abin_sneq aun_not aun_neg aeq_bool aeq_agg eqCells_nil eqCells_int eqCells_bool eqCells_str cellsOf_agg cellsOf_int cellsOf_bool cellsOf_str cellsOf_is cellsOf_ms cellsOf_fn cellsOf_nilp cellsOf_mp cellsOf_mm cellsOf_nilm cellsOf_nili cellsOf_ifc cellsOf_ip cget_one cget_agg ev_t ev_c fillp_nil fillp_cons isSc_int isSc_bool isSc_str isSc_is isSc_ms isSc_fn isSc_mm isSc_mp isSc_ip isSc_nilp isSc_nilm isSc_nili isSc_nilf isSc_ifc splice chunk strip strip.stripL imm imm.immL Areify_int Areify_bool Areify_str Areify_is Areify_nilp Areify_tup Areify_agg AreifyL andF_chi andF_ch onF_chi onF_ch bthen_ch bthen_chi bblock_ch bblock_chi bkeep_ch bkeep_chi bown_ch bown_chi banswer_ch banswer_chi isSome_ch bcond_ch guardV_ch1 guardV_ch0 chF_true chF_false chF_not
attribute [local simp ↓] andF_some andF_chi andF_ch onF_some onF_none onF_chi onF_ch bthen_normal bthen_ret bthen_exit bthen_ch bthen_chi bblock_normal bblock_ret bblock_exit bblock_ch bblock_chi bkeep_some bkeep_ch bkeep_chi bown_normal bown_ret bown_ch bown_chi banswer_normal banswer_ret banswer_ch banswer_chi bcond_ch guardV_ch1 guardV_ch0 guardV_tup guardF_none guardF_some putF_some putF_none stepsF_nil stepsF_cons chF_true chF_false Brun_seq Brun_cond Brun_block Brun_region Brun_skip Brun_ret Brun_exit stepF_call stepF_callD stepF_move stepF_pick stepF_alloc stepF_allocV stepF_box stepF_boxV stepF_build stepF_buildSlice stepF_buildSliceV stepF_load stepF_store stepF_nilCheck stepF_bin stepF_eq stepF_un stepF_conv stepF_strId stepF_toStr stepF_toBytes stepF_fn stepF_mkSlice stepF_slice stepF_strSlice stepF_fieldAddr stepF_field stepF_idxAddr stepF_idxArr stepF_index stepF_strIndex stepF_extract stepF_len0 stepF_len1 stepF_min stepF_max stepF_append stepF_appendF stepF_mkMap stepF_mkIface stepF_lookup stepF_mapUpdate stepF_ext
set_option maxHeartbeats 2000000
theorem roomy_small {n b : Nat} (h : n ≤ 4000000000) (hb : b ≤ 10000) : roomy n b = true := by
  have := Nat.mul_le_mul h hb
  simp only [roomy, decide_eq_true_eq]
  omega
theorem room0 {cap : Cap} {sz : Nat} {rows : List (List AV)} {t : Heap} (h : CapAt 0 cap sz rows t) (r : Heap) : roomOK cap sz rows (t ++ r) = true := h.room (p := []) rfl r
theorem spend0 {cap : Cap} {sz : Nat} {rows : List (List AV)} {t : Heap} (h : CapAt 0 cap sz rows t) (r : Heap) : spend cap (t ++ r) = spendAt 0 cap t ++ r := h.spend (p := []) rfl r
theorem bys_app (s : List UInt8) (b : UInt8) : bys s ++ [[.int .u8 b.toNat]] = bys (s ++ [b]) := by simp [bys]
theorem esc_le {s : List UInt8} {b : UInt8} {n : Nat} (h : escR s = (b, n, true)) : 0 < n ∧ n ≤ s.length := by
  unfold escR at h
  split at h
  · simp at h
  · rename_i c hc
    have := lt_get hc
    split at h
    · cases h; omega
    · split at h
      · simp only [Prod.mk.injEq, decide_eq_true_eq] at h
        have := runLen_le isHex (s.drop 1)
        simp only [List.length_drop] at this
        omega
      · simp only [Prod.mk.injEq, decide_eq_true_eq] at h
        have := runLen_le isOct s
        omega
/-- What stands behind a quote: the bytes, and how many there are with the quote that ends them. -/
def quoR (q : UInt8) : Nat → List UInt8 → Option (List UInt8 × Nat)
  | 0, _ => none
  | f + 1, r => match r with
    | [] => none
    | c :: t => if c = q then some ([], 1)
      else if c = 10 then none
      else if c = 92 then (match escR t with
        | (b, n, true) => (quoR q f (t.drop n)).map fun p => (b :: p.1, p.2 + (n + 1))
        | (_, _, false) => none)
      else (quoR q f t).map fun p => (c :: p.1, p.2 + 1)
def QOut (out : List UInt8) (i : Nat) (x : Option (Ex × Env × Heap)) : Option (List UInt8 × Nat) → Prop
  | some (o, m) => ∃ cap' h', x = some (.ret, ofL [(4, .is (bys (out ++ o)) cap'), (5, .int .i64 (i + m : Nat)), (6, .bool true)], h')
  | none => (∃ h', x = some (.ret, ofL [(4, .is [] .nil), (5, .int .i64 0), (6, .bool false)], h')) ∨ ∃ e h', x = some (.exit 0, e, h')
theorem QOut.step {out : List UInt8} {b : UInt8} {i k : Nat} {x : Option (Ex × Env × Heap)} {r : Option (List UInt8 × Nat)} (h : QOut (out ++ [b]) (i + k) x r) : QOut out i x (r.map fun p => (b :: p.1, p.2 + k)) := by
  cases r with
  | none => exact h
  | some p =>
    obtain ⟨cap', h', hx⟩ := h
    refine ⟨cap', h', ?_⟩
    rw [hx, List.append_assoc, show i + k + p.2 = i + (p.2 + k) by omega]
    rfl
theorem quo_loop (s : List UInt8) (hs : s.length ≤ 16777216) (q : UInt8) : ∀ (f i : Nat) (r out : List UInt8) (cap : Cap) (t : Heap), s.drop i = r → i ≤ s.length → out.length ≤ i → r.length < f → CapAt 0 cap 1 (bys out) t →
    QOut out i (Brun tab 55 (.loop f50l3) (ofL [(0, .str s), (1, .int .u8 q.toNat), (7, .is (bys out) cap), (8, .int .i64 i)]) t) (quoR q f r) := by
  intro f
  induction f with
  | zero => intro i r out cap t _ _ _ hf; omega
  | succ f ih =>
    intro i r out cap h hr hi ho hf hc
    have hlen : r.length = s.length - i := by rw [← hr]; simp
    rw [Brun_loop]
    cases r with
    | nil =>
      refine .inr ⟨ofL [(0, .str s), (1, .int .u8 q.toNat), (7, .is (bys out) cap), (8, .int .i64 i), (16, .bool false)], h, ?_⟩
      have e3 : (s.length : Int) ≤ i := by simp only [List.length_nil] at hlen; omega
      clear ih hs hr hi ho hf hc hlen
      repeat (any_goals first | simp (dsimp := false) (maxSteps := 4000000) (maxDischargeDepth := 8) (implicitDefEqProofs := false) [*, -Int.not_le, -Int.not_lt, amLt, f50c, f50m3, f50r0, f50r1, f50r2, f50r3, f50r4, f50r5, f50r6, f50r7, f50r8, f50r9, f50r10, f50r11, f50r12, f50r13, f50r14, f50r15, f50r16, f50r17, f50r18, f50l3_b] | with_reducible refine ch_both (fun _ => ?_) (fun _ => ?_) | with_reducible refine ite_both (fun _ => ?_) (fun _ => ?_) | intro _)
    | cons c t =>
      simp only [List.length_cons] at hlen hf
      have hb : s[i]? = some c := by
        have := congrArg (·[0]?) hr
        simpa using this
      have htl : s.drop (i + 1) = t := by
        have := congrArg List.tail hr
        simpa using this
      have e3 : ¬ (s.length : Int) ≤ i := by omega
      have hw := w64 i (by omega)
      have hstep : quoR q (f + 1) (c :: t) = if c = q then some ([], 1)
        else if c = 10 then none
        else if c = 92 then (match escR t with
          | (b, n, true) => (quoR q f (t.drop n)).map fun p => (b :: p.1, p.2 + (n + 1))
          | (_, _, false) => none)
        else (quoR q f t).map fun p => (c :: p.1, p.2 + 1) := rfl
      rw [hstep]
      by_cases hq : c = q
      · subst hq
        rw [if_pos rfl]
        refine ⟨cap, h, ?_⟩
        rw [List.append_nil]
        have ei : ((i + 1 : Nat) : Int) = i + 1 := by push_cast; rfl
        rw [ei]
        clear ih hs hr hi ho hf hc hlen htl hstep ei
        repeat (any_goals first | simp (dsimp := false) (maxSteps := 4000000) (maxDischargeDepth := 8) (implicitDefEqProofs := false) [*, -Int.not_le, -Int.not_lt, amLt, f50c, f50m3, f50r0, f50r1, f50r2, f50r3, f50r4, f50r5, f50r6, f50r7, f50r8, f50r9, f50r10, f50r11, f50r12, f50r13, f50r14, f50r15, f50r16, f50r17, f50r18, f50l3_b] | with_reducible refine ch_both (fun _ => ?_) (fun _ => ?_) | with_reducible refine ite_both (fun _ => ?_) (fun _ => ?_) | intro _)
      · have hq' : ¬ (c.toNat : Int) = q.toNat := fun h => hq ((u8_inj c q).1 h)
        rw [if_neg hq]
        by_cases h10 : c = 10
        · rw [if_pos h10]
          subst h10
          refine .inl ⟨h, ?_⟩
          have hq2 : ¬ (10 : Int) = q.toNat := hq'
          clear ih hs hr hi ho hf hc hlen htl hstep
          repeat (any_goals first | simp (dsimp := false) (maxSteps := 4000000) (maxDischargeDepth := 8) (implicitDefEqProofs := false) [*, -Int.not_le, -Int.not_lt, amLt, f50c, f50m3, f50r0, f50r1, f50r2, f50r3, f50r4, f50r5, f50r6, f50r7, f50r8, f50r9, f50r10, f50r11, f50r12, f50r13, f50r14, f50r15, f50r16, f50r17, f50r18, f50l3_b] | with_reducible refine ch_both (fun _ => ?_) (fun _ => ?_) | with_reducible refine ite_both (fun _ => ?_) (fun _ => ?_) | intro _)
        · have h10' : ¬ (c.toNat : Int) = 10 := fun h => h10 (UInt8.toNat_inj.1 (by show c.toNat = 10; omega))
          rw [if_neg h10]
          have hr0 := room0 hc
          have hs0 := spend0 hc
          have hsl := spendAt_len 0 cap h
          have hroom : roomy (out.length + 1) 1 = true := roomy_small (by omega) (by decide)
          have hnew : CapAt 0 (.tok h.length 1) 1 (bys (out ++ [c])) (spendAt 0 cap h ++ [.tok]) := CapAt.new (k := 0) (j := 0) hsl rfl
          by_cases h92 : c = 92
          · have h92' : (c.toNat : Int) = 92 := by rw [h92]; rfl
            rw [if_pos h92]
            have hE := fun h => escaped_ok h t (by omega)
            have hle := @esc_le t
            have e1 : (i : Int) + 1 ≤ s.length := by omega
            have e0 : (0 : Int) ≤ (i : Int) + 1 := by omega
            have en : ((i : Int) + 1).toNat = i + 1 := by omega
            have hq9 : ¬ (92 : Int) = q.toNat := by rw [← h92']; exact hq'
            rcases hEq : escR t with ⟨b, n, ok⟩
            simp only [hEq] at hE
            cases ok with
            | false =>
              dsimp only
              unfold escV at hE
              refine .inl ⟨h, ?_⟩
              clear ih hs hr hi ho hf hc hlen hstep hnew hr0 hs0 hsl hroom hEq hle
              repeat (any_goals first | simp (dsimp := false) (maxSteps := 4000000) (maxDischargeDepth := 8) (implicitDefEqProofs := false) [*, -Int.not_le, -Int.not_lt, amLt, f50c, f50m3, f50r0, f50r1, f50r2, f50r3, f50r4, f50r5, f50r6, f50r7, f50r8, f50r9, f50r10, f50r11, f50r12, f50r13, f50r14, f50r15, f50r16, f50r17, f50r18, f50l3_b, obound_some, obound_none, abound_int] | with_reducible refine ch_both (fun _ => ?_) (fun _ => ?_) | with_reducible refine ite_both (fun _ => ?_) (fun _ => ?_) | intro _)
            | true =>
              dsimp only
              obtain ⟨hn0, hn⟩ := hle hEq
              unfold escV at hE
              have hnew : CapAt 0 (.tok h.length 1) 1 (bys (out ++ [b])) (spendAt 0 cap h ++ [.tok]) := CapAt.new (k := 0) (j := 0) hsl rfl
              have hdt : s.drop (i + (n + 1)) = t.drop n := by rw [← htl, List.drop_drop]; congr 1; omega
              have ih2 := ih (i + (n + 1)) (t.drop n) (out ++ [b]) (.tok h.length 1) (spendAt 0 cap h ++ [.tok]) hdt (by omega) (by simp; omega) (by simp only [List.length_drop]; omega) hnew
              refine QOut.step (k := n + 1) (Eq.mp (congrArg (fun x => QOut _ _ x _) ?_) ih2)
              symm
              have ha := bys_app out b
              have w1 : IntKind.i64.wrap ((i : Int) + n) = ((i + n : Nat) : Int) := by rw [IntWalk.i64_in _ (by omega)]; push_cast; rfl
              have w2 := w64 (i + n) (by omega)
              have ei : ((i + (n + 1) : Nat) : Int) = ((i + n : Nat) : Int) + 1 := by push_cast; omega
              rw [ei]
              generalize hk : i + n = k at *
              clear ih ih2 hs hr hi ho hf hc hlen hstep hnew hdt hk hn hn0 ei hEq hle
              repeat (any_goals first | simp (dsimp := false) (maxSteps := 4000000) (maxDischargeDepth := 8) (implicitDefEqProofs := false) [*, -Int.not_le, -Int.not_lt, amLt, f50c, f50m3, f50r0, f50r1, f50r2, f50r3, f50r4, f50r5, f50r6, f50r7, f50r8, f50r9, f50r10, f50r11, f50r12, f50r13, f50r14, f50r15, f50r16, f50r17, f50r18, f50l3_b, obound_some, obound_none, abound_int, bys_len, app_get, app_get0, app_set, app_set0] | with_reducible refine ch_both (fun _ => ?_) (fun _ => ?_) | with_reducible refine ite_both (fun _ => ?_) (fun _ => ?_) | intro _)
          · have h92' : ¬ (c.toNat : Int) = 92 := fun h => h92 (UInt8.toNat_inj.1 (by show c.toNat = 92; omega))
            rw [if_neg h92]
            have ih2 := ih (i + 1) t (out ++ [c]) (.tok h.length 1) (spendAt 0 cap h ++ [.tok]) htl (by omega) (by simp; omega) (by omega) hnew
            refine QOut.step (k := 1) (Eq.mp (congrArg (fun x => QOut _ _ x _) ?_) ih2)
            symm
            have ha := bys_app out c
            have ei : ((i + 1 : Nat) : Int) = i + 1 := by push_cast; rfl
            rw [ei]
            clear ih ih2 hs hr hi ho hf hc hlen htl hstep hnew ei
            repeat (any_goals first | simp (dsimp := false) (maxSteps := 4000000) (maxDischargeDepth := 8) (implicitDefEqProofs := false) [*, -Int.not_le, -Int.not_lt, amLt, f50c, f50m3, f50r0, f50r1, f50r2, f50r3, f50r4, f50r5, f50r6, f50r7, f50r8, f50r9, f50r10, f50r11, f50r12, f50r13, f50r14, f50r15, f50r16, f50r17, f50r18, f50l3_b, bys_len, app_get, app_get0, app_set, app_set0] | with_reducible refine ch_both (fun _ => ?_) (fun _ => ?_) | with_reducible refine ite_both (fun _ => ?_) (fun _ => ?_) | intro _)
def quoV : Option (List UInt8 × Nat) → AV
  | some (o, m) => .tup [.is (bys o) .no, .int .i64 m, .bool true]
  | none => .tup [.is [] .no, .int .i64 0, .bool false]
theorem quoted_ok (h : Heap) (s : List UInt8) (q : UInt8) (hs : s.length ≤ 16777216) : Ccall tab 50 [.str s, .int .u8 q.toNat] h = some (quoV (quoR q (s.length + 1) s), h) := by
  have lq := quo_loop s hs q (s.length + 1) 0 s [] .nil [] rfl (by omega) (by simp) (by omega) (CapAt.nil 0 1 [])
  refine Ccall_own rfl rfl rfl rfl ?_
  have e0 : bys [] = [] := rfl
  cases hq : quoR q (s.length + 1) s with
  | none =>
    rw [hq] at lq
    rcases lq with ⟨h', lq⟩ | ⟨e, h', lq⟩
    · rw [e0] at lq
      push_cast at lq
      clear hs hq
      repeat (any_goals first | simp (dsimp := false) (maxSteps := 4000000) (maxDischargeDepth := 8) (implicitDefEqProofs := false) [*, -Int.not_le, -Int.not_lt, amLt, f50c, f50m3, f50r0, f50r1, f50r2, f50r3, f50r4, f50r5, f50r6, f50r7, f50r8, f50r9, f50r10, f50r11, f50r12, f50r13, f50r14, f50r15, f50r16, f50r17, f50r18, f50l3_b, quoV] | with_reducible refine ch_both (fun _ => ?_) (fun _ => ?_) | with_reducible refine ite_both (fun _ => ?_) (fun _ => ?_) | intro _)
    · rw [e0] at lq
      push_cast at lq
      clear hs hq
      repeat (any_goals first | simp (dsimp := false) (maxSteps := 4000000) (maxDischargeDepth := 8) (implicitDefEqProofs := false) [*, -Int.not_le, -Int.not_lt, amLt, f50c, f50m3, f50r0, f50r1, f50r2, f50r3, f50r4, f50r5, f50r6, f50r7, f50r8, f50r9, f50r10, f50r11, f50r12, f50r13, f50r14, f50r15, f50r16, f50r17, f50r18, f50l3_b, quoV] | with_reducible refine ch_both (fun _ => ?_) (fun _ => ?_) | with_reducible refine ite_both (fun _ => ?_) (fun _ => ?_) | intro _)
  | some p =>
    obtain ⟨o, m⟩ := p
    rw [hq] at lq
    obtain ⟨cap', h', lq⟩ := lq
    rw [e0, List.nil_append] at lq
    simp only [Nat.zero_add] at lq
    push_cast at lq
    clear hs hq
    repeat (any_goals first | simp (dsimp := false) (maxSteps := 4000000) (maxDischargeDepth := 8) (implicitDefEqProofs := false) [*, -Int.not_le, -Int.not_lt, amLt, f50c, f50m3, f50r0, f50r1, f50r2, f50r3, f50r4, f50r5, f50r6, f50r7, f50r8, f50r9, f50r10, f50r11, f50r12, f50r13, f50r14, f50r15, f50r16, f50r17, f50r18, f50l3_b, quoV] | with_reducible refine ch_both (fun _ => ?_) (fun _ => ?_) | with_reducible refine ite_both (fun _ => ?_) (fun _ => ?_) | intro _)
def sgs : List (List UInt8) := [[60, 60, 61], [62, 62, 61], [45, 62], [43, 43], [45, 45], [60, 60], [62, 62], [60, 61], [62, 61], [61, 61], [33, 61], [38, 38], [124, 124], [42, 61], [47, 61], [37, 61], [43, 61], [45, 61], [38, 61], [94, 61], [124, 61]]
def chs : List UInt8 := [91, 93, 40, 41, 123, 125, 46, 38, 42, 43, 45, 126, 33, 47, 37, 60, 62, 94, 124, 63, 58, 59, 61, 44]
theorem sign_loop (s : List UInt8) (hs : s.length ≤ 16777216) (h : Heap) : ∀ (r : List (List UInt8)) (i : Nat), sgs.drop i = r → i ≤ 21 →
    Brun tab 22 (.loop f51l3) (ofL [(0, .str s), (7, .agg (sgs.map AV.str)), (8, .int .i64 i)]) h = match r.find? (fun x => hasPre x s) with
      | some x => some (.ret, ofL [(2, .str x)], h)
      | none => some (.exit 0, ofL [(0, .str s), (7, .agg (sgs.map AV.str)), (8, .int .i64 21), (9, .bool false)], h) := by
  intro r
  have hl21 : sgs.length = 21 := by decide
  induction r with
  | nil =>
    intro i hr hi
    have hlen := congrArg List.length hr
    simp only [List.length_drop, List.length_nil, hl21] at hlen
    have e3 : (i : Int) = 21 := by omega
    rw [Brun_loop, e3]
    generalize sgs.map AV.str = L at *
    clear hr hi hlen hs hl21
    repeat (any_goals first | simp (dsimp := false) (maxSteps := 4000000) (maxDischargeDepth := 8) (implicitDefEqProofs := false) [*, -Int.not_le, -Int.not_lt, amLt, f51c, f51m3, f51r0, f51r1, f51r2, f51r3, f51r4, f51r5, f51r6, f51r7, f51r8, f51r9, f51r10, f51l3_b] | with_reducible refine ch_both (fun _ => ?_) (fun _ => ?_) | with_reducible refine ite_both (fun _ => ?_) (fun _ => ?_) | intro _)
  | cons x t ih =>
    intro i hr hi
    have hlen := congrArg List.length hr
    simp only [List.length_drop, List.length_cons, hl21] at hlen
    have hb : sgs[i]? = some x := by
      have := congrArg (·[0]?) hr
      simpa using this
    have hm : (sgs.map AV.str)[i]? = some (AV.str x) := by rw [List.getElem?_map, hb]; rfl
    have htl : sgs.drop (i + 1) = t := by
      have := congrArg List.tail hr
      simpa using this
    have e3 : (i : Int) < 21 := by omega
    have e4 : ¬ (21 : Int) ≤ i := by omega
    have hw := w64 i (by omega)
    have hp := fun h => prefix_ok h s x hs
    have ih2 := ih (i + 1) htl (by omega)
    have ei : ((i + 1 : Nat) : Int) = i + 1 := by push_cast; rfl
    rw [ei] at ih2
    rw [Brun_loop, List.find?_cons]
    generalize sgs.map AV.str = L at *
    cases hpx : hasPre x s with
    | true =>
      rw [hpx] at hp
      clear hr hi hlen hs hl21 ih ih2 htl hb ei
      repeat (any_goals first | simp (dsimp := false) (maxSteps := 4000000) (maxDischargeDepth := 8) (implicitDefEqProofs := false) [*, -Int.not_le, -Int.not_lt, amLt, f51c, f51m3, f51r0, f51r1, f51r2, f51r3, f51r4, f51r5, f51r6, f51r7, f51r8, f51r9, f51r10, f51l3_b] | with_reducible refine ch_both (fun _ => ?_) (fun _ => ?_) | with_reducible refine ite_both (fun _ => ?_) (fun _ => ?_) | intro _)
    | false =>
      rw [hpx] at hp
      dsimp only
      rw [← ih2]
      clear hr hi hlen hs hl21 ih ih2 htl hb ei
      repeat (any_goals first | simp (dsimp := false) (maxSteps := 4000000) (maxDischargeDepth := 8) (implicitDefEqProofs := false) [*, -Int.not_le, -Int.not_lt, amLt, f51c, f51m3, f51r0, f51r1, f51r2, f51r3, f51r4, f51r5, f51r6, f51r7, f51r8, f51r9, f51r10, f51l3_b] | with_reducible refine ch_both (fun _ => ?_) (fun _ => ?_) | with_reducible refine ite_both (fun _ => ?_) (fun _ => ?_) | intro _)
def signR (s : List UInt8) : List UInt8 := match sgs.find? (fun x => hasPre x s) with
  | some x => x
  | none => match s with
    | [] => []
    | b :: _ => if 0 ≤ Go.Lib.indexByte chs b then [b] else []
theorem sign_ok (h : Heap) (s : List UInt8) (b : UInt8) (hb : s[0]? = some b) (hs : s.length ≤ 16777216) : Ccall tab 51 [.str s] h = some (.str (signR s), h) := by
  have lq := fun hp => sign_loop s hs hp sgs 0 rfl (by omega)
  have hi := fun h => indexByte_ok h chs b
  have hlt := lt_get hb
  have e1 : (1 : Int) ≤ s.length := by omega
  have ht : s.take 1 = [b] := by cases s with | nil => simp at hb | cons a t => simp at hb; subst hb; rfl
  have hR : signR s = match sgs.find? (fun x => hasPre x s) with
    | some x => x
    | none => if 0 ≤ Go.Lib.indexByte chs b then [b] else [] := by
    cases s with
    | nil => simp at hb
    | cons a t => simp at hb; subst hb; rfl
  rw [hR]
  generalize sgs.find? (fun x => hasPre x s) = R at *
  push_cast at lq
  unfold chs at hi
  unfold sgs at lq
  simp only [List.map_cons, List.map_nil] at lq
  unfold chs
  generalize Go.Lib.indexByte [91, 93, 40, 41, 123, 125, 46, 38, 42, 43, 45, 126, 33, 47, 37, 60, 62, 94, 124, 63, 58, 59, 61, 44] b = ix at *
  refine Ccall_own rfl rfl rfl rfl ?_
  clear hs hlt hR
  cases R with
  | some x =>
    repeat (any_goals first | simp (dsimp := false) (maxSteps := 4000000) (maxDischargeDepth := 8) (implicitDefEqProofs := false) [*, -Int.not_le, -Int.not_lt, amLt, f51c, f51m3, f51r0, f51r1, f51r2, f51r3, f51r4, f51r5, f51r6, f51r7, f51r8, f51r9, f51r10, f51l3_b] | with_reducible refine ch_both (fun _ => ?_) (fun _ => ?_) | with_reducible refine ite_both (fun _ => ?_) (fun _ => ?_) | intro _)
  | none =>
    by_cases q : 0 ≤ ix
    · rw [if_pos q]
      repeat (any_goals first | simp (dsimp := false) (maxSteps := 4000000) (maxDischargeDepth := 8) (implicitDefEqProofs := false) [*, -Int.not_le, -Int.not_lt, amLt, f51c, f51m3, f51r0, f51r1, f51r2, f51r3, f51r4, f51r5, f51r6, f51r7, f51r8, f51r9, f51r10, f51l3_b, obound_some, obound_none, abound_int] | with_reducible refine ch_both (fun _ => ?_) (fun _ => ?_) | with_reducible refine ite_both (fun _ => ?_) (fun _ => ?_) | intro _)
    · rw [if_neg q]
      repeat (any_goals first | simp (dsimp := false) (maxSteps := 4000000) (maxDischargeDepth := 8) (implicitDefEqProofs := false) [*, -Int.not_le, -Int.not_lt, amLt, f51c, f51m3, f51r0, f51r1, f51r2, f51r3, f51r4, f51r5, f51r6, f51r7, f51r8, f51r9, f51r10, f51l3_b, obound_some, obound_none, abound_int] | with_reducible refine ch_both (fun _ => ?_) (fun _ => ?_) | with_reducible refine ite_both (fun _ => ?_) (fun _ => ?_) | intro _)
theorem ssz_bys (o : List UInt8) (c : Cap) : ssz 1 (.is (bys o) c) = true := by simp [ssz, rowsz, bys]
theorem bys_flat (o : List UInt8) : (bys o).flatten = ofBytes o := by
  induction o with
  | nil => rfl
  | cons a t ih => show _ :: (bys t).flatten = _ :: ofBytes t; rw [ih]
theorem scells_bys (o : List UInt8) (c : Cap) (h : Heap) : scellsF (.is (bys o) c) h = some (ofBytes o) := by
  show some (bys o).flatten = _
  rw [bys_flat]
theorem bytesOf_of (o : List UInt8) : bytesOf (ofBytes o) = some o := by
  induction o with
  | nil => rfl
  | cons a t ih =>
    show (bytesOf (ofBytes t)).map _ = _
    rw [ih]
    simp
/-- A byte as a number with a sign. -/
def sgn (b : UInt8) : Int := IntKind.i8.wrap b.toNat
theorem sgn_in (b : UInt8) : IntKind.i64.wrap (sgn b) = sgn b := by
  have hb := UInt8.toNat_lt b
  have h : -128 ≤ sgn b ∧ sgn b ≤ 127 := by
    unfold sgn
    simp only [IntKind.wrap, IntKind.bits, IntKind.signed]
    simp
    omega
  exact IntWalk.i64_in _ (by omega)
/-- The token at the beginning, or what is wrong: its kind, text and number, and how many bytes it has. -/
def oneR (s : List UInt8) : Except Nat ((Int × List UInt8 × Int) × Nat) := match s with
  | [] => .error 0
  | b :: _ =>
    if isLet b.toNat = true then (if 63 < runLen isTail s then .error 22 else .ok ((if isKw (s.take (runLen isTail s)) = true then 2 else 1, s.take (runLen isTail s), 0), runLen isTail s))
    else if isDig b.toNat = true then (match numberR (s.take (runLen isTail s)) with
      | none => .error 21
      | some (t, v) => .ok ((3, t, v), runLen isTail s))
    else if b = 39 ∨ b = 34 then (match quoR b s.length (s.drop 1) with
      | none => .error 26
      | some (o, m) => if b = 34 then .ok ((5, o, 0), m + 1) else match o with
        | [x] => .ok ((4, [], sgn x), m + 1)
        | _ => .error 26)
    else if signR s = [] then .error 20 else .ok ((6, signR s, 0), (signR s).length)
def oneV : Except Nat ((Int × List UInt8 × Int) × Nat) → AV
  | .error e => .tup [tokV 0 [] 0 0 0 0, .int .i64 0, .int .i64 e]
  | .ok ((k, t, v), n) => .tup [tokV k t v 0 0 0, .int .i64 n, .int .i64 0]
theorem quoR_len {q : UInt8} : ∀ {f : Nat} {r o : List UInt8} {m : Nat}, quoR q f r = some (o, m) → m ≤ r.length := by
  intro f
  induction f with
  | zero => intro r o m h; cases h
  | succ f ih =>
    intro r o m h
    cases r with
    | nil => cases h
    | cons c t =>
      simp only [quoR] at h
      split at h
      · cases h; simp
      · split at h
        · cases h
        · split at h
          · split at h
            · rename_i b n he
              obtain ⟨p, hp, he2⟩ := Option.map_eq_some_iff.1 h
              cases he2
              have := ih hp
              have h2 := esc_le he
              simp only [List.length_drop, List.length_cons] at *
              omega
            · cases h
          · obtain ⟨p, hp, he2⟩ := Option.map_eq_some_iff.1 h
            cases he2
            have := ih hp
            simp only [List.length_cons]
            omega
theorem sign_len (s : List UInt8) : (signR s).length ≤ s.length := by
  unfold signR
  split
  · rename_i x hx
    have := List.find?_some hx
    exact hasPre_len (p := x) (s := s) this
  · cases s with
    | nil => simp
    | cons b t => dsimp only; split <;> simp
theorem let39 (h : Heap) : Ccall tab 38 [.int .u8 39] h = some (.bool false, h) := letter_ok h 39
theorem let34 (h : Heap) : Ccall tab 38 [.int .u8 34] h = some (.bool false, h) := letter_ok h 34
theorem dig39 (h : Heap) : Ccall tab 48 [.int .u8 39] h = some (.bool false, h) := digit_ok h 39
theorem dig34 (h : Heap) : Ccall tab 48 [.int .u8 34] h = some (.bool false, h) := digit_ok h 34
theorem one_ok (h : Heap) (s : List UInt8) (b : UInt8) (hs : s.length ≤ 16777216) (h0 : s[0]? = some b) : Ccall tab 31 [.str s] h = some (oneV (oneR s), h) := by
  have hne : s ≠ [] := by rintro rfl; simp at h0
  have hR : oneR s = if isLet b.toNat = true then (if 63 < runLen isTail s then .error 22 else .ok ((if isKw (s.take (runLen isTail s)) = true then 2 else 1, s.take (runLen isTail s), 0), runLen isTail s))
    else if isDig b.toNat = true then (match numberR (s.take (runLen isTail s)) with
      | none => .error 21
      | some (t, v) => .ok ((3, t, v), runLen isTail s))
    else if b = 39 ∨ b = 34 then (match quoR b s.length (s.drop 1) with
      | none => .error 26
      | some (o, m) => if b = 34 then .ok ((5, o, 0), m + 1) else match o with
        | [x] => .ok ((4, [], sgn x), m + 1)
        | _ => .error 26)
    else if signR s = [] then .error 20 else .ok ((6, signR s, 0), (signR s).length) := by
    cases s with
    | nil => simp at h0
    | cons a t => simp at h0; subst h0; rfl
  rw [hR]
  have hlt := lt_get h0
  by_cases hl : isLet b.toNat = true
  · rw [if_pos hl]
    have ho := one_word h s b hs h0 hl
    unfold oneWord at ho
    rw [ho]
    by_cases q : 63 < runLen isTail s
    · rw [if_pos q, if_pos q]; rfl
    · rw [if_neg q, if_neg q]; rfl
  · rw [if_neg hl]
    have hl' : isLet b.toNat = false := by simpa using hl
    by_cases hd : isDig b.toNat = true
    · rw [if_pos hd]
      have hr := fun h => run_ok 46 isTail tail_ok h s hs
      have hle := runLen_le isTail s
      have hnum := fun h => number_ok h (s.take (runLen isTail s)) (by simp only [List.length_take]; omega)
      generalize hn : runLen isTail s = n at *
      have e1 : (n : Int) ≤ s.length := by omega
      refine Ccall_own rfl rfl rfl rfl ?_
      cases hN : numberR (s.take n) with
      | none =>
        rw [hN] at hnum
        unfold numV at hnum
        clear hs hR hlt hl hle hn hN
        repeat (any_goals first | simp (dsimp := false) (maxSteps := 4000000) (maxDischargeDepth := 8) (implicitDefEqProofs := false) [*, -Int.not_le, -Int.not_lt, amLt, f31c, f31r0, f31r1, f31r2, f31r3, f31r4, f31r5, f31r6, f31r7, f31r8, f31r9, f31r10, f31r11, f31r12, f31r13, f31r14, f31r15, f31r16, f31r17, f31r18, f31r19, f31r20, f31r21, f31r22, f31r23, f31r24, f31r25, letter_ok, digit_ok, let39, let34, dig39, dig34, obound_some, obound_none, abound_int, oneV, tokV] | with_reducible refine ch_both (fun _ => ?_) (fun _ => ?_) | with_reducible refine ite_both (fun _ => ?_) (fun _ => ?_) | intro _)
      | some p =>
        obtain ⟨t, v⟩ := p
        rw [hN] at hnum
        unfold numV at hnum
        clear hs hR hlt hl hle hn hN
        repeat (any_goals first | simp (dsimp := false) (maxSteps := 4000000) (maxDischargeDepth := 8) (implicitDefEqProofs := false) [*, -Int.not_le, -Int.not_lt, amLt, f31c, f31r0, f31r1, f31r2, f31r3, f31r4, f31r5, f31r6, f31r7, f31r8, f31r9, f31r10, f31r11, f31r12, f31r13, f31r14, f31r15, f31r16, f31r17, f31r18, f31r19, f31r20, f31r21, f31r22, f31r23, f31r24, f31r25, letter_ok, digit_ok, let39, let34, dig39, dig34, obound_some, obound_none, abound_int, oneV, tokV] | with_reducible refine ch_both (fun _ => ?_) (fun _ => ?_) | with_reducible refine ite_both (fun _ => ?_) (fun _ => ?_) | intro _)
    · rw [if_neg hd]
      have hd' : isDig b.toNat = false := by simpa using hd
      by_cases hq : b = 39 ∨ b = 34
      · rw [if_pos hq]
        have hquo := fun h => quoted_ok h (s.drop 1) b (by simp only [List.length_drop]; omega)
        rw [show (s.drop 1).length + 1 = s.length by simp only [List.length_drop]; omega] at hquo
        have hlq := @quoR_len b s.length (s.drop 1)
        simp only [List.drop_one] at hquo hlq ⊢
        have e1 : (1 : Int) ≤ s.length := by omega
        refine Ccall_own rfl rfl rfl rfl ?_
        cases hQ : quoR b s.length s.tail with
        | none =>
          rw [hQ] at hquo
          unfold quoV at hquo
          rcases hq with rfl | rfl
          · replace hquo := fun h => (show Ccall tab 50 [.str s.tail, .int .u8 39] h = _ from hquo h)
            clear hs hR hlt hl hd hQ hlq
            repeat (any_goals first | simp (dsimp := false) (maxSteps := 4000000) (maxDischargeDepth := 8) (implicitDefEqProofs := false) [*, -Int.not_le, -Int.not_lt, amLt, f31c, f31r0, f31r1, f31r2, f31r3, f31r4, f31r5, f31r6, f31r7, f31r8, f31r9, f31r10, f31r11, f31r12, f31r13, f31r14, f31r15, f31r16, f31r17, f31r18, f31r19, f31r20, f31r21, f31r22, f31r23, f31r24, f31r25, letter_ok, digit_ok, let39, let34, dig39, dig34, obound_some, obound_none, abound_int, oneV, tokV] | with_reducible refine ch_both (fun _ => ?_) (fun _ => ?_) | with_reducible refine ite_both (fun _ => ?_) (fun _ => ?_) | intro _)
          · replace hquo := fun h => (show Ccall tab 50 [.str s.tail, .int .u8 34] h = _ from hquo h)
            clear hs hR hlt hl hd hQ hlq
            repeat (any_goals first | simp (dsimp := false) (maxSteps := 4000000) (maxDischargeDepth := 8) (implicitDefEqProofs := false) [*, -Int.not_le, -Int.not_lt, amLt, f31c, f31r0, f31r1, f31r2, f31r3, f31r4, f31r5, f31r6, f31r7, f31r8, f31r9, f31r10, f31r11, f31r12, f31r13, f31r14, f31r15, f31r16, f31r17, f31r18, f31r19, f31r20, f31r21, f31r22, f31r23, f31r24, f31r25, letter_ok, digit_ok, let39, let34, dig39, dig34, obound_some, obound_none, abound_int, oneV, tokV] | with_reducible refine ch_both (fun _ => ?_) (fun _ => ?_) | with_reducible refine ite_both (fun _ => ?_) (fun _ => ?_) | intro _)
        | some p =>
          obtain ⟨o, m⟩ := p
          have hm := hlq hQ
          simp only [List.length_tail] at hm
          have hw := w64 m (by omega)
          have ei : ((m + 1 : Nat) : Int) = m + 1 := by push_cast; rfl
          rw [hQ] at hquo
          unfold quoV at hquo
          by_cases h34 : b = 34
          · subst h34
            replace hquo := fun h => (show Ccall tab 50 [.str s.tail, .int .u8 34] h = _ from hquo h)
            dsimp only
            rw [if_pos rfl]
            clear hs hR hlt hl hd hQ hlq hm hq
            repeat (any_goals first | simp (dsimp := false) (maxSteps := 4000000) (maxDischargeDepth := 8) (implicitDefEqProofs := false) [*, -Int.not_le, -Int.not_lt, amLt, f31c, f31r0, f31r1, f31r2, f31r3, f31r4, f31r5, f31r6, f31r7, f31r8, f31r9, f31r10, f31r11, f31r12, f31r13, f31r14, f31r15, f31r16, f31r17, f31r18, f31r19, f31r20, f31r21, f31r22, f31r23, f31r24, f31r25, letter_ok, digit_ok, let39, let34, dig39, dig34, obound_some, obound_none, abound_int, oneV, tokV, ssz_bys, scells_bys, bytesOf_of] | with_reducible refine ch_both (fun _ => ?_) (fun _ => ?_) | with_reducible refine ite_both (fun _ => ?_) (fun _ => ?_) | intro _)
          · have h39 : b = 39 := hq.resolve_right h34
            subst h39
            replace hquo := fun h => (show Ccall tab 50 [.str s.tail, .int .u8 39] h = _ from hquo h)
            dsimp only
            rw [if_neg h34]
            match o with
            | [] =>
              dsimp only
              clear hs hR hlt hl hd hQ hlq hm hq
              repeat (any_goals first | simp (dsimp := false) (maxSteps := 4000000) (maxDischargeDepth := 8) (implicitDefEqProofs := false) [*, -Int.not_le, -Int.not_lt, amLt, f31c, f31r0, f31r1, f31r2, f31r3, f31r4, f31r5, f31r6, f31r7, f31r8, f31r9, f31r10, f31r11, f31r12, f31r13, f31r14, f31r15, f31r16, f31r17, f31r18, f31r19, f31r20, f31r21, f31r22, f31r23, f31r24, f31r25, letter_ok, digit_ok, let39, let34, dig39, dig34, obound_some, obound_none, abound_int, oneV, tokV, bys_len] | with_reducible refine ch_both (fun _ => ?_) (fun _ => ?_) | with_reducible refine ite_both (fun _ => ?_) (fun _ => ?_) | intro _)
            | [x] =>
              dsimp only
              have hb1 : bys [x] = [[.int .u8 x.toNat]] := rfl
              simp only [hb1] at hquo
              have hsg := sgn_in x
              have hsg2 : IntKind.i8.wrap x.toNat = sgn x := rfl
              generalize sgn x = sg at *
              clear hs hR hlt hl hd hQ hlq hm hq
              repeat (any_goals first | simp (dsimp := false) (maxSteps := 4000000) (maxDischargeDepth := 8) (implicitDefEqProofs := false) [*, -Int.not_le, -Int.not_lt, amLt, f31c, f31r0, f31r1, f31r2, f31r3, f31r4, f31r5, f31r6, f31r7, f31r8, f31r9, f31r10, f31r11, f31r12, f31r13, f31r14, f31r15, f31r16, f31r17, f31r18, f31r19, f31r20, f31r21, f31r22, f31r23, f31r24, f31r25, letter_ok, digit_ok, let39, let34, dig39, dig34, obound_some, obound_none, abound_int, oneV, tokV] | with_reducible refine ch_both (fun _ => ?_) (fun _ => ?_) | with_reducible refine ite_both (fun _ => ?_) (fun _ => ?_) | intro _)
            | x :: y :: u =>
              dsimp only
              have hlen : ¬ ((bys (x :: y :: u)).length : Int) = 1 := by rw [bys_len]; simp only [List.length_cons]; omega
              have hlen2 : ¬ (bys (x :: y :: u)).length = 1 := by rw [bys_len]; simp only [List.length_cons]; omega
              dsimp only at hquo
              generalize bys (x :: y :: u) = rows at hquo hlen hlen2
              clear hs hR hlt hl hd hQ hlq hm hq
              repeat (any_goals first | simp (dsimp := false) (maxSteps := 4000000) (maxDischargeDepth := 8) (implicitDefEqProofs := false) [*, -Int.not_le, -Int.not_lt, amLt, f31c, f31r0, f31r1, f31r2, f31r3, f31r4, f31r5, f31r6, f31r7, f31r8, f31r9, f31r10, f31r11, f31r12, f31r13, f31r14, f31r15, f31r16, f31r17, f31r18, f31r19, f31r20, f31r21, f31r22, f31r23, f31r24, f31r25, letter_ok, digit_ok, let39, let34, dig39, dig34, obound_some, obound_none, abound_int, oneV, tokV] | with_reducible refine ch_both (fun _ => ?_) (fun _ => ?_) | with_reducible refine ite_both (fun _ => ?_) (fun _ => ?_) | intro _)
      · rw [if_neg hq]
        have h39 : ¬ (b.toNat : Int) = 39 := fun h => hq (.inl (UInt8.toNat_inj.1 (by show b.toNat = 39; omega)))
        have h34 : ¬ (b.toNat : Int) = 34 := fun h => hq (.inr (UInt8.toNat_inj.1 (by show b.toNat = 34; omega)))
        have hsg := fun h => sign_ok h s b h0 hs
        generalize signR s = x at *
        refine Ccall_own rfl rfl rfl rfl ?_
        by_cases hx : x = []
        · rw [if_pos hx]
          clear hs hR hlt hl hd hq
          subst hx
          repeat (any_goals first | simp (dsimp := false) (maxSteps := 4000000) (maxDischargeDepth := 8) (implicitDefEqProofs := false) [*, -Int.not_le, -Int.not_lt, amLt, f31c, f31r0, f31r1, f31r2, f31r3, f31r4, f31r5, f31r6, f31r7, f31r8, f31r9, f31r10, f31r11, f31r12, f31r13, f31r14, f31r15, f31r16, f31r17, f31r18, f31r19, f31r20, f31r21, f31r22, f31r23, f31r24, f31r25, letter_ok, digit_ok, let39, let34, dig39, dig34, obound_some, obound_none, abound_int, oneV, tokV] | with_reducible refine ch_both (fun _ => ?_) (fun _ => ?_) | with_reducible refine ite_both (fun _ => ?_) (fun _ => ?_) | intro _)
        · rw [if_neg hx]
          clear hs hR hlt hl hd hq
          repeat (any_goals first | simp (dsimp := false) (maxSteps := 4000000) (maxDischargeDepth := 8) (implicitDefEqProofs := false) [*, -Int.not_le, -Int.not_lt, amLt, f31c, f31r0, f31r1, f31r2, f31r3, f31r4, f31r5, f31r6, f31r7, f31r8, f31r9, f31r10, f31r11, f31r12, f31r13, f31r14, f31r15, f31r16, f31r17, f31r18, f31r19, f31r20, f31r21, f31r22, f31r23, f31r24, f31r25, letter_ok, digit_ok, let39, let34, dig39, dig34, obound_some, obound_none, abound_int, oneV, tokV] | with_reducible refine ch_both (fun _ => ?_) (fun _ => ?_) | with_reducible refine ite_both (fun _ => ?_) (fun _ => ?_) | intro _)

end Go.Proofs.YtmpdpjkblcdfkaaDoor
