/- The reference: quotes. -/
import Derived.Test.YtmpdpjkblcdfkaaGreatDoorZk
import Derived.Test.YtmpdpjkblcdfkaaGreatDoorAmW
namespace Go.Proofs.YtmpdpjkblcdfkaaGreatDoor
open Go.AM
set_option maxRecDepth 20000
set_option maxHeartbeats 4000000
set_option linter.unusedSimpArgs false
set_option linter.unusedVariables false
attribute [local congr] andF_cg onF_cg bthen_cg bkeep_cg bcond_cg guardV_cg putF_cg guardF_cg ite_cg stepsF_cg
attribute [local simp] Brun_skip Brun_exit Brun_ret Brun_seq Brun_cond Brun_block Brun_region bthen_normal bthen_ret bthen_exit bblock_normal bblock_ret bblock_exit bkeep_some andF_some onF_some onF_none guardF_none guardF_some guardV_tup putF_some putF_none stepsF_nil stepsF_cons upd_apply ofL_cons ofL_nil bown_normal bown_ret banswer_normal banswer_ret aresults ares List.replicate stepF_call stepF_callD stepF_move stepF_pick stepF_alloc stepF_allocV stepF_box stepF_boxV stepF_build stepF_buildSlice stepF_buildSliceV stepF_load stepF_store stepF_nilCheck stepF_bin stepF_eq stepF_un stepF_conv stepF_strId stepF_toStr stepF_toBytes stepF_fn stepF_mkSlice stepF_slice stepF_strSlice stepF_fieldAddr stepF_field stepF_idxAddr stepF_idxArr stepF_index stepF_strIndex stepF_extract stepF_len0 stepF_len1 stepF_min stepF_max stepF_append stepF_appendF appF_none appF_row stepF_mkMap stepF_mkIface stepF_lookup stepF_mapUpdate stepF_ext aext_idx aext_count aext_same cellsF newF abin_add abin_sub abin_mul abin_quo abin_rem abin_eql abin_neq abin_lss abin_leq abin_gtr abin_geq abin_and abin_or abin_xor abin_shl abin_shr abin_seql abin_sneq aun_not aun_neg aeq_bool aeq_agg eqCells_nil eqCells_int eqCells_bool eqCells_str cellsOf_agg cellsOf_int cellsOf_bool cellsOf_str cellsOf_is cellsOf_ms cellsOf_fn cellsOf_nilp cellsOf_mp cellsOf_mm cellsOf_nilm cellsOf_nili cellsOf_ifc cellsOf_ip cget_one cget_agg ev_t ev_c fillp_nil fillp_cons isSc_int isSc_bool isSc_str isSc_is isSc_ms isSc_fn isSc_mm isSc_mp isSc_ip isSc_nilp isSc_nilm isSc_nili isSc_nilf isSc_ifc splice chunk strip strip.stripL imm imm.immL Areify_int Areify_bool Areify_str Areify_is Areify_nilp Areify_tup Areify_agg AreifyL andF_chi andF_ch onF_chi onF_ch bthen_ch bthen_chi bblock_ch bblock_chi bkeep_ch bkeep_chi bown_ch bown_chi banswer_ch banswer_chi isSome_ch bcond_ch guardV_ch1 guardV_ch0 chF_true chF_false chF_not
attribute [local simp ↓] andF_some andF_chi andF_ch onF_some onF_none onF_chi onF_ch bthen_normal bthen_ret bthen_exit bthen_ch bthen_chi bblock_normal bblock_ret bblock_exit bblock_ch bblock_chi bkeep_some bkeep_ch bkeep_chi bown_normal bown_ret bown_ch bown_chi banswer_normal banswer_ret banswer_ch banswer_chi bcond_ch guardV_ch1 guardV_ch0 guardV_tup guardF_none guardF_some putF_some putF_none stepsF_nil stepsF_cons chF_true chF_false Brun_seq Brun_cond Brun_block Brun_region Brun_skip Brun_ret Brun_exit stepF_call stepF_callD stepF_move stepF_pick stepF_alloc stepF_allocV stepF_box stepF_boxV stepF_build stepF_buildSlice stepF_buildSliceV stepF_load stepF_store stepF_nilCheck stepF_bin stepF_eq stepF_un stepF_conv stepF_strId stepF_toStr stepF_toBytes stepF_fn stepF_mkSlice stepF_slice stepF_strSlice stepF_fieldAddr stepF_field stepF_idxAddr stepF_idxArr stepF_index stepF_strIndex stepF_extract stepF_len0 stepF_len1 stepF_min stepF_max stepF_append stepF_appendF stepF_mkMap stepF_mkIface stepF_lookup stepF_mapUpdate stepF_ext
set_option maxHeartbeats 2000000
theorem resc10 (h : Heap) (s : List UInt8) (i : Nat) (q : UInt8) (hs : s.length ≤ 16777216) (hb : s[i]? = some 10) : Ccall tab 67 [.str s, .int .i64 i, .int .u8 q.toNat] h = some (.tup [.int .u8 0, .int .i64 i, .bool false], h) := by
  have hlt := lt_get hb
  have e1 : ¬ (s.length : Int) ≤ i := by omega
  refine Ccall_own rfl rfl rfl rfl ?_
  clear hs hlt
  repeat (any_goals first | simp (dsimp := false) (maxSteps := 4000000) (maxDischargeDepth := 8) (implicitDefEqProofs := false) [*, -Int.not_le, -Int.not_lt, amLt, f67c, f67r0, f67r1, f67r2, f67r3, f67r4, f67r5, f67r6, f67r7, f67r8, f67r9, f67m11, f67m20, f67q12, f67r10, f67r11, f67r13, f67r14, f67r15, f67r16, f67r17, f67r18, f67r19, f67r20, f67r21, f67r22, f67r23, f67r24, f67r25, f67l11_b, f67l20_b, f67r12_u, f67r12_w] | with_reducible refine ch_both (fun _ => ?_) (fun _ => ?_) | with_reducible refine ite_both (fun _ => ?_) (fun _ => ?_) | intro _)
theorem resc_else (h : Heap) (s : List UInt8) (i : Nat) (q c : UInt8) (hs : s.length ≤ 16777216) (hb : s[i]? = some c) (h1 : c ≠ 10) (h2 : c ≠ q) (h3 : c ≠ 92) : Ccall tab 67 [.str s, .int .i64 i, .int .u8 q.toNat] h = some (.tup [.int .u8 c.toNat, .int .i64 (i + 1), .bool true], h) := by
  have hlt := lt_get hb
  have e1 : ¬ (s.length : Int) ≤ i := by omega
  have hw := w64 i (by omega)
  have q1 : ¬ (c.toNat : Int) = 10 := fun h => h1 (UInt8.toNat_inj.1 (by show c.toNat = 10; omega))
  have q2 : ¬ (c.toNat : Int) = q.toNat := fun h => h2 ((u8_inj c q).1 h)
  have q3 : ¬ (c.toNat : Int) = 92 := fun h => h3 (UInt8.toNat_inj.1 (by show c.toNat = 92; omega))
  refine Ccall_own rfl rfl rfl rfl ?_
  clear hs hlt h1 h2 h3
  repeat (any_goals first | simp (dsimp := false) (maxSteps := 4000000) (maxDischargeDepth := 8) (implicitDefEqProofs := false) [*, -Int.not_le, -Int.not_lt, amLt, f67c, f67r0, f67r1, f67r2, f67r3, f67r4, f67r5, f67r6, f67r7, f67r8, f67r9, f67m11, f67m20, f67q12, f67r10, f67r11, f67r13, f67r14, f67r15, f67r16, f67r17, f67r18, f67r19, f67r20, f67r21, f67r22, f67r23, f67r24, f67r25, f67l11_b, f67l20_b, f67r12_u, f67r12_w] | with_reducible refine ch_both (fun _ => ?_) (fun _ => ?_) | with_reducible refine ite_both (fun _ => ?_) (fun _ => ?_) | intro _)
def zeroT : Blk := .cells [.int .i64 0, .str [], .int .i64 0, .int .i64 0, .int .i64 0, .int .i64 0]
def RQ (s out : List UInt8) (i : Nat) (q : UInt8) (Z : Blk) (x : Option (Ex × Env × Heap)) : Option (List UInt8 × Nat) → Prop
  | some (o, m) => i + m ≤ s.length ∧ ∃ cap' t', x = some (.exit 0, ofL [(0, .str s), (1, .int .i64 (i + m - 1 : Nat)), (4, .mp 0 0), (7, .int .u8 q.toNat), (8, .is (bys (out ++ o)) cap'), (27, .bool false)], Z :: t')
  | none => (∃ (k : Int) (t' : Heap), x = some (.ret, ofL [(4, .mp 0 0), (5, .int .i64 k), (6, .bool false)], zeroT :: t')) ∨ ∃ o c' t', x = some (.exit 0, ofL [(0, .str s), (1, .int .i64 s.length), (4, .mp 0 0), (7, .int .u8 q.toNat), (8, .is (bys o) c'), (27, .bool false)], Z :: t')
theorem RQ.step {s out : List UInt8} {b q : UInt8} {i k : Nat} {Z : Blk} {x : Option (Ex × Env × Heap)} {r : Option (List UInt8 × Nat)} (h : RQ s (out ++ [b]) (i + k) q Z x r) : RQ s out i q Z x (r.map fun p => (b :: p.1, p.2 + k)) := by
  cases r with
  | none => exact h
  | some p =>
    obtain ⟨hl, cap', h', hx⟩ := h
    refine ⟨by show i + (p.2 + k) ≤ s.length; omega, cap', h', ?_⟩
    rw [hx, List.append_assoc, show i + k + p.2 - 1 = i + (p.2 + k) - 1 by omega]
    rfl
theorem quo_cons (q : UInt8) (f : Nat) (c : UInt8) (t : List UInt8) : quoR q (f + 1) (c :: t) = if c = q then some ([], 1)
        else if c = 10 then none
        else if c = 92 then (match escR t with
          | (b, n, true) => (quoR q f (t.drop n)).map fun p => (b :: p.1, p.2 + (n + 1))
          | (_, _, false) => none)
        else (quoR q f t).map fun p => (c :: p.1, p.2 + 1) := rfl
theorem rquo_loop (s : List UInt8) (hs : s.length ≤ 16777216) (q : UInt8) (hq10 : q ≠ 10) (hq92 : q ≠ 92) (z0 z1 z2 z3 z4 z5 : AV) : ∀ (f i : Nat) (r out : List UInt8) (cap : Cap) (t : Heap), s.drop i = r → i ≤ s.length → out.length ≤ i → r.length < f → CapAt 1 cap 1 (bys out) t →
    RQ s out i q (.cells [z0, z1, z2, z3, z4, z5]) (Brun tab 71 (.loop f44l4) (ofL [(0, .str s), (1, .int .i64 i), (4, .mp 0 0), (7, .int .u8 q.toNat), (8, .is (bys out) cap)]) (.cells [z0, z1, z2, z3, z4, z5] :: t)) (quoR q f r) := by
  intro f
  induction f with
  | zero => intro i r out cap t _ _ _ hf; omega
  | succ f ih =>
    intro i r out cap t hr hi ho hf hc
    have hlen : r.length = s.length - i := by rw [← hr]; simp
    rw [Brun_loop]
    cases r with
    | nil =>
      simp only [List.length_nil] at hlen
      have e4 : i = s.length := by omega
      refine .inr ⟨out, cap, t, ?_⟩
      have e3 : (s.length : Int) ≤ i := by omega
      subst e4
      clear ih hs hr hi ho hf hc hlen
      repeat (any_goals first | simp (dsimp := false) (maxSteps := 4000000) (maxDischargeDepth := 8) (implicitDefEqProofs := false) [*, -Int.not_le, -Int.not_lt, amLt, f44c, f44m4, f44r0, f44r1, f44r2, f44r3, f44r4, f44r5, f44r6, f44r7, f44r8, f44r9, f44r10, f44r11, f44r12, f44r13, f44r14, f44r15, f44r16, f44l4_b] | with_reducible refine ch_both (fun _ => ?_) (fun _ => ?_) | with_reducible refine ite_both (fun _ => ?_) (fun _ => ?_) | intro _)
    | cons c u =>
      simp only [List.length_cons] at hlen hf
      have hb : s[i]? = some c := by
        have := congrArg (·[0]?) hr
        simpa using this
      have htl : s.drop (i + 1) = u := by
        have := congrArg List.tail hr
        simpa using this
      have e3 : ¬ (s.length : Int) ≤ i := by omega
      have e3' : (i : Int) < s.length := by omega
      rw [quo_cons]
      by_cases hq : c = q
      · subst hq
        rw [if_pos rfl]
        refine ⟨by omega, cap, t, ?_⟩
        rw [List.append_nil, Nat.add_sub_cancel]
        clear ih hs hr hi ho hf hc hlen htl
        repeat (any_goals first | simp (dsimp := false) (maxSteps := 4000000) (maxDischargeDepth := 8) (implicitDefEqProofs := false) [*, -Int.not_le, -Int.not_lt, amLt, f44c, f44m4, f44r0, f44r1, f44r2, f44r3, f44r4, f44r5, f44r6, f44r7, f44r8, f44r9, f44r10, f44r11, f44r12, f44r13, f44r14, f44r15, f44r16, f44l4_b] | with_reducible refine ch_both (fun _ => ?_) (fun _ => ?_) | with_reducible refine ite_both (fun _ => ?_) (fun _ => ?_) | intro _)
      · have hq' : ¬ (c.toNat : Int) = q.toNat := fun h => hq ((u8_inj c q).1 h)
        rw [if_neg hq]
        by_cases h10 : c = 10
        · rw [if_pos h10]
          subst h10
          have hE := fun h => resc10 h s i q hs hb
          refine .inl ⟨i, t, ?_⟩
          have hq2 : ¬ (10 : Int) = q.toNat := hq'
          unfold zeroT
          clear ih hs hr hi ho hf hc hlen htl
          repeat (any_goals first | simp (dsimp := false) (maxSteps := 4000000) (maxDischargeDepth := 8) (implicitDefEqProofs := false) [*, -Int.not_le, -Int.not_lt, amLt, f44c, f44m4, f44r0, f44r1, f44r2, f44r3, f44r4, f44r5, f44r6, f44r7, f44r8, f44r9, f44r10, f44r11, f44r12, f44r13, f44r14, f44r15, f44r16, f44l4_b] | with_reducible refine ch_both (fun _ => ?_) (fun _ => ?_) | with_reducible refine ite_both (fun _ => ?_) (fun _ => ?_) | intro _)
        · rw [if_neg h10]
          have hr1 := hc.room1
          have hs1 := hc.spend1
          have hsl := spendAt_len 1 cap t
          have hroom : roomy (out.length + 1) 1 = true := roomy_small (by omega) (by decide)
          by_cases h92 : c = 92
          · rw [if_pos h92]
            subst h92
            have hq2 : ¬ (92 : Int) = q.toNat := hq'
            have hE := fun h => resc_ok h s i q hs hb hq92
            rw [htl] at hE
            have hle := @esc_le u
            rcases hEq : escR u with ⟨b, n, ok⟩
            rw [hEq] at hE
            cases ok with
            | false =>
              dsimp only
              obtain ⟨k, hk⟩ := hE (.cells [z0, z1, z2, z3, z4, z5] :: t)
              refine .inl ⟨i, t, ?_⟩
              unfold zeroT
              clear ih hs hr hi ho hf hc hlen htl hE hle hEq hr1 hs1 hsl hroom
              repeat (any_goals first | simp (dsimp := false) (maxSteps := 4000000) (maxDischargeDepth := 8) (implicitDefEqProofs := false) [*, -Int.not_le, -Int.not_lt, amLt, f44c, f44m4, f44r0, f44r1, f44r2, f44r3, f44r4, f44r5, f44r6, f44r7, f44r8, f44r9, f44r10, f44r11, f44r12, f44r13, f44r14, f44r15, f44r16, f44l4_b] | with_reducible refine ch_both (fun _ => ?_) (fun _ => ?_) | with_reducible refine ite_both (fun _ => ?_) (fun _ => ?_) | intro _)
            | true =>
              dsimp only
              obtain ⟨hn0, hn⟩ := hle hEq
              replace hE : ∀ h : Heap, Ccall tab 67 [.str s, .int .i64 i, .int .u8 q.toNat] h = some (.tup [.int .u8 b.toNat, .int .i64 (i + 1 + n : Nat), .bool true], h) := hE
              have hnew : CapAt 1 (.tok (t.length + 1) 1) 1 (bys (out ++ [b])) (spendAt 1 cap t ++ [.tok]) := CapAt.new (k := 1) (j := 0) hsl rfl
              have hdt : s.drop (i + (n + 1)) = u.drop n := by rw [← htl, List.drop_drop]; congr 1; omega
              have ih2 := ih (i + (n + 1)) (u.drop n) (out ++ [b]) _ _ hdt (by omega) (by simp; omega) (by simp only [List.length_drop]; omega) hnew
              refine RQ.step (k := n + 1) (Eq.mp (congrArg (fun x => RQ s _ _ q _ x _) ?_) ih2)
              symm
              have ha := bys_app out b
              rw [show i + (n + 1) = i + 1 + n by omega]
              generalize i + 1 + n = k at *
              clear ih ih2 hs hr hi ho hf hc hlen hnew hdt hn hn0 hEq hle htl
              repeat (any_goals first | simp (dsimp := false) (maxSteps := 4000000) (maxDischargeDepth := 8) (implicitDefEqProofs := false) [*, -Int.not_le, -Int.not_lt, amLt, f44c, f44m4, f44r0, f44r1, f44r2, f44r3, f44r4, f44r5, f44r6, f44r7, f44r8, f44r9, f44r10, f44r11, f44r12, f44r13, f44r14, f44r15, f44r16, f44l4_b, bys_len, app_get, app_get0, app_set, app_set0] | with_reducible refine ch_both (fun _ => ?_) (fun _ => ?_) | with_reducible refine ite_both (fun _ => ?_) (fun _ => ?_) | intro _)
          · rw [if_neg h92]
            have hE := fun h => resc_else h s i q c hs hb h10 hq h92
            have hnew : CapAt 1 (.tok (t.length + 1) 1) 1 (bys (out ++ [c])) (spendAt 1 cap t ++ [.tok]) := CapAt.new (k := 1) (j := 0) hsl rfl
            have ih2 := ih (i + 1) u (out ++ [c]) _ _ htl (by omega) (by simp; omega) (by omega) hnew
            refine RQ.step (k := 1) (Eq.mp (congrArg (fun x => RQ s _ _ q _ x _) ?_) ih2)
            symm
            have ha := bys_app out c
            have ei : ((i + 1 : Nat) : Int) = i + 1 := by push_cast; rfl
            rw [ei]
            clear ih ih2 hs hr hi ho hf hc hlen htl hnew ei
            repeat (any_goals first | simp (dsimp := false) (maxSteps := 4000000) (maxDischargeDepth := 8) (implicitDefEqProofs := false) [*, -Int.not_le, -Int.not_lt, amLt, f44c, f44m4, f44r0, f44r1, f44r2, f44r3, f44r4, f44r5, f44r6, f44r7, f44r8, f44r9, f44r10, f44r11, f44r12, f44r13, f44r14, f44r15, f44r16, f44l4_b, bys_len, app_get, app_get0, app_set, app_set0] | with_reducible refine ch_both (fun _ => ?_) (fun _ => ?_) | with_reducible refine ite_both (fun _ => ?_) (fun _ => ?_) | intro _)
def quoT (q : UInt8) (o : List UInt8) (m : Nat) : Option ((Int × List UInt8 × Int) × Nat) := if q = 34 then some ((5, o, 0), m + 1) else match o with
  | [x] => some ((4, [], sgn x), m + 1)
  | _ => none
def RQO (h : Heap) (i : Nat) (x : Option (AV × Heap)) : Option ((Int × List UInt8 × Int) × Nat) → Prop
  | some ((k, t, v), n) => x = some (.tup [tokV k t v 0 0 0, .int .i64 (i + n : Nat), .bool true], h)
  | none => ∃ k : Int, x = some (.tup [tokV 0 [] 0 0 0 0, .int .i64 k, .bool false], h)
theorem rquoted_ok (h : Heap) (s : List UInt8) (i : Nat) (q : UInt8) (hs : s.length ≤ 16777216) (hb : s[i]? = some q) (hq : q = 39 ∨ q = 34) :
    RQO h i (Ccall tab 44 [.str s, .int .i64 i] h) (match quoR q (s.length - i) (s.drop (i + 1)) with | none => none | some (o, m) => quoT q o m) := by
  have hlt := lt_get hb
  have hw := w64 i (by omega)
  have lp := rquo_loop s hs q (by rcases hq with rfl | rfl <;> decide) (by rcases hq with rfl | rfl <;> decide) (.int .i64 0) (.str []) (.int .i64 0) (.int .i64 0) (.int .i64 0) (.int .i64 0) (s.length - i) (i + 1) (s.drop (i + 1)) [] .nil [] rfl (by omega) (by simp) (by simp only [List.length_drop]; omega) (CapAt.nil 1 1 [])
  have e0 : bys [] = [] := rfl
  rw [e0] at lp
  have ei : ((i + 1 : Nat) : Int) = i + 1 := by push_cast; rfl
  rw [ei] at lp
  cases hQ : quoR q (s.length - i) (s.drop (i + 1)) with
  | none =>
    rw [hQ] at lp
    rcases lp with ⟨k, t', lp⟩ | ⟨o, c', t', lp⟩
    · refine ⟨k, ?_⟩
      refine Ccall_own rfl rfl rfl rfl ?_
      unfold zeroT at lp
      clear hs hlt hQ ei hq
      repeat (any_goals first | simp (dsimp := false) (maxSteps := 4000000) (maxDischargeDepth := 8) (implicitDefEqProofs := false) [*, -Int.not_le, -Int.not_lt, amLt, f44c, f44m4, f44r0, f44r1, f44r2, f44r3, f44r4, f44r5, f44r6, f44r7, f44r8, f44r9, f44r10, f44r11, f44r12, f44r13, f44r14, f44r15, f44r16, f44l4_b, tokV] | with_reducible refine ch_both (fun _ => ?_) (fun _ => ?_) | with_reducible refine ite_both (fun _ => ?_) (fun _ => ?_) | intro _)
    · refine ⟨s.length, ?_⟩
      refine Ccall_own rfl rfl rfl rfl ?_
      clear hs hlt hQ ei hq
      repeat (any_goals first | simp (dsimp := false) (maxSteps := 4000000) (maxDischargeDepth := 8) (implicitDefEqProofs := false) [*, -Int.not_le, -Int.not_lt, amLt, f44c, f44m4, f44r0, f44r1, f44r2, f44r3, f44r4, f44r5, f44r6, f44r7, f44r8, f44r9, f44r10, f44r11, f44r12, f44r13, f44r14, f44r15, f44r16, f44l4_b, tokV] | with_reducible refine ch_both (fun _ => ?_) (fun _ => ?_) | with_reducible refine ite_both (fun _ => ?_) (fun _ => ?_) | intro _)
  | some p =>
    obtain ⟨o, m⟩ := p
    rw [hQ] at lp
    obtain ⟨hm, cap', t', lp⟩ := lp
    rw [List.nil_append] at lp
    have hm0 : 0 < m := by
      cases m with
      | zero =>
        exfalso
        have : ∀ {f : Nat} {r o : List UInt8} {m : Nat}, quoR q f r = some (o, m) → 0 < m := by
          intro f r o m h
          cases f with
          | zero => cases h
          | succ f =>
            cases r with
            | nil => cases h
            | cons c t =>
              rw [quo_cons] at h
              split at h
              · cases h; omega
              · split at h
                · cases h
                · split at h
                  · split at h
                    · obtain ⟨p, _, he⟩ := Option.map_eq_some_iff.1 h
                      cases he; omega
                    · cases h
                  · obtain ⟨p, _, he⟩ := Option.map_eq_some_iff.1 h
                    cases he; omega
        exact absurd (this hQ) (by omega)
      | succ m => omega
    rw [show i + 1 + m - 1 = i + m by omega] at lp
    have e3 : ¬ (s.length : Int) ≤ ((i + m : Nat) : Int) := by omega
    have hw2 : IntKind.i64.wrap (((i + m : Nat) : Int) + 1) = ((i + (m + 1) : Nat) : Int) := by rw [IntWalk.i64_in _ (by omega)]; omega
    dsimp only
    unfold quoT
    by_cases h34 : q = 34
    · rw [if_pos h34]
      have h34' : (q.toNat : Int) = 34 := by rw [h34]; rfl
      simp only [h34'] at lp
      show Ccall tab 44 _ h = _
      refine Ccall_own rfl rfl rfl rfl ?_
      generalize i + m = k at *
      generalize i + (m + 1) = k2 at *
      clear hs hlt hQ ei hm hm0 h34 hq
      repeat (any_goals first | simp (dsimp := false) (maxSteps := 4000000) (maxDischargeDepth := 8) (implicitDefEqProofs := false) [*, -Int.not_le, -Int.not_lt, amLt, f44c, f44m4, f44r0, f44r1, f44r2, f44r3, f44r4, f44r5, f44r6, f44r7, f44r8, f44r9, f44r10, f44r11, f44r12, f44r13, f44r14, f44r15, f44r16, f44l4_b, tokV, ssz_bys, scells_bys, bytesOf_of] | with_reducible refine ch_both (fun _ => ?_) (fun _ => ?_) | with_reducible refine ite_both (fun _ => ?_) (fun _ => ?_) | intro _)
    · rw [if_neg h34]
      have h34' : ¬ (q.toNat : Int) = 34 := fun h => h34 (UInt8.toNat_inj.1 (by show q.toNat = 34; omega))
      match o with
      | [] =>
        refine ⟨((i + m : Nat) : Int), ?_⟩
        refine Ccall_own rfl rfl rfl rfl ?_
        generalize i + m = k at *
        generalize i + (m + 1) = k2 at *
        clear hs hlt hQ ei hm hm0 h34 hq
        repeat (any_goals first | simp (dsimp := false) (maxSteps := 4000000) (maxDischargeDepth := 8) (implicitDefEqProofs := false) [*, -Int.not_le, -Int.not_lt, amLt, f44c, f44m4, f44r0, f44r1, f44r2, f44r3, f44r4, f44r5, f44r6, f44r7, f44r8, f44r9, f44r10, f44r11, f44r12, f44r13, f44r14, f44r15, f44r16, f44l4_b, tokV, bys_len] | with_reducible refine ch_both (fun _ => ?_) (fun _ => ?_) | with_reducible refine ite_both (fun _ => ?_) (fun _ => ?_) | intro _)
      | [x] =>
        dsimp only
        show Ccall tab 44 _ h = _
        have hb1 : bys [x] = [[.int .u8 x.toNat]] := rfl
        rw [hb1] at lp
        have hsg := sgn_in x
        have hsg2 : IntKind.i8.wrap x.toNat = sgn x := rfl
        generalize sgn x = sg at *
        refine Ccall_own rfl rfl rfl rfl ?_
        generalize i + m = k at *
        generalize i + (m + 1) = k2 at *
        clear hs hlt hQ ei hm hm0 h34 hq
        repeat (any_goals first | simp (dsimp := false) (maxSteps := 4000000) (maxDischargeDepth := 8) (implicitDefEqProofs := false) [*, -Int.not_le, -Int.not_lt, amLt, f44c, f44m4, f44r0, f44r1, f44r2, f44r3, f44r4, f44r5, f44r6, f44r7, f44r8, f44r9, f44r10, f44r11, f44r12, f44r13, f44r14, f44r15, f44r16, f44l4_b, tokV] | with_reducible refine ch_both (fun _ => ?_) (fun _ => ?_) | with_reducible refine ite_both (fun _ => ?_) (fun _ => ?_) | intro _)
      | x :: y :: u =>
        refine ⟨((i + m : Nat) : Int), ?_⟩
        have hlen : ¬ ((bys (x :: y :: u)).length : Int) = 1 := by rw [bys_len]; simp only [List.length_cons]; omega
        have hlen2 : ¬ (bys (x :: y :: u)).length = 1 := by rw [bys_len]; simp only [List.length_cons]; omega
        generalize bys (x :: y :: u) = rows at *
        refine Ccall_own rfl rfl rfl rfl ?_
        generalize i + m = k at *
        generalize i + (m + 1) = k2 at *
        clear hs hlt hQ ei hm hm0 h34 hq
        repeat (any_goals first | simp (dsimp := false) (maxSteps := 4000000) (maxDischargeDepth := 8) (implicitDefEqProofs := false) [*, -Int.not_le, -Int.not_lt, amLt, f44c, f44m4, f44r0, f44r1, f44r2, f44r3, f44r4, f44r5, f44r6, f44r7, f44r8, f44r9, f44r10, f44r11, f44r12, f44r13, f44r14, f44r15, f44r16, f44l4_b, tokV] | with_reducible refine ch_both (fun _ => ?_) (fun _ => ?_) | with_reducible refine ite_both (fun _ => ?_) (fun _ => ?_) | intro _)

end Go.Proofs.YtmpdpjkblcdfkaaGreatDoor
