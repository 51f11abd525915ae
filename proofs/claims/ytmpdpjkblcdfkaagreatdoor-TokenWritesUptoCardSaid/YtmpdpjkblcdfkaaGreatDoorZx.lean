/- The reference writes a token. -/
import Derived.Test.YtmpdpjkblcdfkaaGreatDoorZw
import Derived.Test.YtmpdpjkblcdfkaaGreatDoorAmW
namespace Go.Proofs.YtmpdpjkblcdfkaaGreatDoor
open Go.AM
set_option maxRecDepth 20000
set_option maxHeartbeats 4000000
set_option linter.unusedSimpArgs false
set_option linter.unusedVariables false
attribute [local congr] andF_cg onF_cg bthen_cg bkeep_cg bcond_cg guardV_cg putF_cg guardF_cg ite_cg stepsF_cg
attribute [local simp] Brun_skip Brun_exit Brun_ret Brun_seq Brun_cond Brun_block Brun_region bthen_normal bthen_ret bthen_exit bblock_normal bblock_ret bblock_exit bkeep_some andF_some onF_some onF_none guardF_none guardF_some guardV_tup putF_some putF_none stepsF_nil stepsF_cons upd_apply ofL_cons ofL_nil bown_normal bown_ret banswer_normal banswer_ret aresults ares List.replicate stepF_call stepF_callD stepF_move stepF_pick stepF_alloc stepF_allocV stepF_box stepF_boxV stepF_build stepF_buildSlice stepF_buildSliceV stepF_load stepF_store stepF_nilCheck stepF_bin stepF_eq stepF_un stepF_conv stepF_strId stepF_toStr stepF_toBytes stepF_fn stepF_mkSlice stepF_slice stepF_strSlice stepF_fieldAddr stepF_field stepF_idxAddr stepF_idxArr stepF_index stepF_strIndex stepF_extract stepF_len0 stepF_len1 stepF_min stepF_max stepF_append stepF_appendF appF_none appF_row stepF_mkMap stepF_mkIface stepF_lookup stepF_mapUpdate stepF_ext aext_idx aext_count aext_same cellsF newF abin_add abin_sub abin_mul abin_quo abin_rem abin_eql abin_neq abin_lss abin_leq abin_gtr abin_geq abin_and abin_or abin_xor abin_shl abin_shr abin_seql abin_sneq aun_not aun_neg aeq_bool aeq_agg eqCells_nil eqCells_int eqCells_bool eqCells_str cellsOf_agg cellsOf_int cellsOf_bool cellsOf_str cellsOf_is cellsOf_ms cellsOf_fn cellsOf_nilp cellsOf_mp cellsOf_mm cellsOf_nilm cellsOf_nili cellsOf_ifc cellsOf_ip cget_one cget_agg ev_t ev_c fillp_nil fillp_cons isSc_int isSc_bool isSc_str isSc_is isSc_ms isSc_fn isSc_mm isSc_mp isSc_ip isSc_nilp isSc_nilm isSc_nili isSc_nilf isSc_ifc splice chunk strip strip.stripL imm imm.immL Areify_int Areify_bool Areify_str Areify_is Areify_nilp Areify_tup Areify_agg AreifyL andF_chi andF_ch onF_chi onF_ch bthen_ch bthen_chi bblock_ch bblock_chi bkeep_ch bkeep_chi bown_ch bown_chi banswer_ch banswer_chi isSome_ch bcond_ch guardV_ch1 guardV_ch0 chF_true chF_false chF_not
attribute [local simp ↓] andF_some andF_chi andF_ch onF_some onF_none onF_chi onF_ch bthen_normal bthen_ret bthen_exit bthen_ch bthen_chi bblock_normal bblock_ret bblock_exit bblock_ch bblock_chi bkeep_some bkeep_ch bkeep_chi bown_normal bown_ret bown_ch bown_chi banswer_normal banswer_ret banswer_ch banswer_chi bcond_ch guardV_ch1 guardV_ch0 guardV_tup guardF_none guardF_some putF_some putF_none stepsF_nil stepsF_cons chF_true chF_false Brun_seq Brun_cond Brun_block Brun_region Brun_skip Brun_ret Brun_exit stepF_call stepF_callD stepF_move stepF_pick stepF_alloc stepF_allocV stepF_box stepF_boxV stepF_build stepF_buildSlice stepF_buildSliceV stepF_load stepF_store stepF_nilCheck stepF_bin stepF_eq stepF_un stepF_conv stepF_strId stepF_toStr stepF_toBytes stepF_fn stepF_mkSlice stepF_slice stepF_strSlice stepF_fieldAddr stepF_field stepF_idxAddr stepF_idxArr stepF_index stepF_strIndex stepF_extract stepF_len0 stepF_len1 stepF_min stepF_max stepF_append stepF_appendF stepF_mkMap stepF_mkIface stepF_lookup stepF_mapUpdate stepF_ext
set_option maxHeartbeats 2000000
theorem roct_bys (c : UInt8) : bys (octS c) = [[AV.int IntKind.u8 92], [AV.int IntKind.u8 (IntKind.u8.wrap (48 + IntKind.u8.wrap ((↑c.toNat : Int).tdiv 64)))], [AV.int IntKind.u8 (IntKind.u8.wrap (48 + (IntKind.u8.wrap ((↑c.toNat : Int).tdiv 8)).tmod 8))], [AV.int IntKind.u8 (IntKind.u8.wrap (48 + (↑c.toNat : Int).tmod 8))]] := by
  have h1 := byte_all (p := fun n => decide (((UInt8.ofNat (48 + n / 64)).toNat : Int) = IntKind.u8.wrap (48 + IntKind.u8.wrap ((n : Int).tdiv 64)))) (by decide +kernel) c
  have h2 := byte_all (p := fun n => decide (((UInt8.ofNat (48 + n / 8 % 8)).toNat : Int) = IntKind.u8.wrap (48 + (IntKind.u8.wrap ((n : Int).tdiv 8)).tmod 8))) (by decide +kernel) c
  have h3 := byte_all (p := fun n => decide (((UInt8.ofNat (48 + n % 8)).toNat : Int) = IntKind.u8.wrap (48 + (n : Int).tmod 8))) (by decide +kernel) c
  simp only [decide_eq_true_eq] at h1 h2 h3
  rw [← h1, ← h2, ← h3]
  rfl
theorem inside_body (s : List UInt8) (hs : s.length ≤ 16777216) (q c : UInt8) (i : Nat) (out : List UInt8) (cap : Cap) (t : Heap) (hb : s[i]? = some c) (hi : i < s.length) (ho : out.length ≤ 4 * i) (hc : CapAt 0 cap 1 (bys out) t) :
    Brun tab 61 f26l3 (ofL [(0, .str s), (1, .int .u8 q.toNat), (5, .is (bys out) cap), (6, .int .i64 i)]) t =
      some (.normal, ofL [(0, .str s), (1, .int .u8 q.toNat), (5, .is (bys (out ++ insB q c)) (.tok t.length 1)), (6, .int .i64 (i + 1))], spendAt 0 cap t ++ [.tok]) := by
  have e3 : ¬ (s.length : Int) ≤ i := by omega
  have hw := w64 i (by omega)
  have hr0 := room0 hc
  have hs0 := spend0 hc
  have hsl := spendAt_len 0 cap t
  have hroom1 : roomy (out.length + 1) 1 = true := roomy_small (by omega) (by decide)
  have hroom2 : roomy (out.length + 2) 1 = true := roomy_small (by omega) (by decide)
  have hroom4 : roomy (out.length + 4) 1 = true := roomy_small (by omega) (by decide)
  rw [← bys_cat]
  unfold insB
  by_cases h10 : c = 10
  · rw [if_pos h10]
    subst h10
    rw [show bys [92, 110] = [[.int .u8 92], [.int .u8 110]] from rfl]
    clear hs hi ho hc
    repeat (any_goals first | simp (dsimp := false) (maxSteps := 4000000) (maxDischargeDepth := 8) (implicitDefEqProofs := false) [*, -Int.not_le, -Int.not_lt, amLt, f26c, f26m3, f26r0, f26r1, f26r2, f26r3, f26r4, f26r5, f26r6, f26r7, f26r8, f26r9, f26r10, f26r11, f26r12, f26r13, f26l3_b, bys_len, app_get, app_get0, app_set, app_set0, appF_two] | with_reducible refine ch_both (fun _ => ?_) (fun _ => ?_) | with_reducible refine ite_both (fun _ => ?_) (fun _ => ?_) | intro _)
  · have h10' : ¬ (c.toNat : Int) = 10 := fun h => h10 (UInt8.toNat_inj.1 (by show c.toNat = 10; omega))
    rw [if_neg h10]
    by_cases hq : c = q ∨ c = 92
    · rw [if_pos hq, show bys [92, c] = [[.int .u8 92], [.int .u8 c.toNat]] from rfl]
      by_cases hcq : c = q
      · subst hcq
        by_cases h92 : (c.toNat : Int) = 92
        · clear hs hi ho hc hq
          repeat (any_goals first | simp (dsimp := false) (maxSteps := 4000000) (maxDischargeDepth := 8) (implicitDefEqProofs := false) [*, -Int.not_le, -Int.not_lt, amLt, f26c, f26m3, f26r0, f26r1, f26r2, f26r3, f26r4, f26r5, f26r6, f26r7, f26r8, f26r9, f26r10, f26r11, f26r12, f26r13, f26l3_b, bys_len, app_get, app_get0, app_set, app_set0, appF_two] | with_reducible refine ch_both (fun _ => ?_) (fun _ => ?_) | with_reducible refine ite_both (fun _ => ?_) (fun _ => ?_) | intro _)
        · clear hs hi ho hc hq
          repeat (any_goals first | simp (dsimp := false) (maxSteps := 4000000) (maxDischargeDepth := 8) (implicitDefEqProofs := false) [*, -Int.not_le, -Int.not_lt, amLt, f26c, f26m3, f26r0, f26r1, f26r2, f26r3, f26r4, f26r5, f26r6, f26r7, f26r8, f26r9, f26r10, f26r11, f26r12, f26r13, f26l3_b, bys_len, app_get, app_get0, app_set, app_set0, appF_two] | with_reducible refine ch_both (fun _ => ?_) (fun _ => ?_) | with_reducible refine ite_both (fun _ => ?_) (fun _ => ?_) | intro _)
      · have hcq' : ¬ (c.toNat : Int) = q.toNat := fun h => hcq ((u8_inj c q).1 h)
        have h92 : (c.toNat : Int) = 92 := by rcases hq with h | h; exact absurd h hcq; rw [h]; rfl
        clear hs hi ho hc hq hcq h10
        repeat (any_goals first | simp (dsimp := false) (maxSteps := 4000000) (maxDischargeDepth := 8) (implicitDefEqProofs := false) [*, -Int.not_le, -Int.not_lt, amLt, f26c, f26m3, f26r0, f26r1, f26r2, f26r3, f26r4, f26r5, f26r6, f26r7, f26r8, f26r9, f26r10, f26r11, f26r12, f26r13, f26l3_b, bys_len, app_get, app_get0, app_set, app_set0, appF_two] | with_reducible refine ch_both (fun _ => ?_) (fun _ => ?_) | with_reducible refine ite_both (fun _ => ?_) (fun _ => ?_) | intro _)
    · have hcq' : ¬ (c.toNat : Int) = q.toNat := fun h => hq (.inl ((u8_inj c q).1 h))
      have h92 : ¬ (c.toNat : Int) = 92 := fun h => hq (.inr (UInt8.toNat_inj.1 (by show c.toNat = 92; omega)))
      rw [if_neg hq]
      by_cases h3 : 32 ≤ c.toNat ∧ c.toNat ≤ 126
      · have h3a : (32 : Int) ≤ c.toNat := by omega
        have h3b : (c.toNat : Int) ≤ 126 := by omega
        rw [if_pos h3, show bys [c] = [[.int .u8 c.toNat]] from rfl]
        clear hs hi ho hc hq h10 h3
        repeat (any_goals first | simp (dsimp := false) (maxSteps := 4000000) (maxDischargeDepth := 8) (implicitDefEqProofs := false) [*, -Int.not_le, -Int.not_lt, amLt, f26c, f26m3, f26r0, f26r1, f26r2, f26r3, f26r4, f26r5, f26r6, f26r7, f26r8, f26r9, f26r10, f26r11, f26r12, f26r13, f26l3_b, bys_len, app_get, app_get0, app_set, app_set0] | with_reducible refine ch_both (fun _ => ?_) (fun _ => ?_) | with_reducible refine ite_both (fun _ => ?_) (fun _ => ?_) | intro _)
      · rw [if_neg h3]
        rw [roct_bys]
        by_cases h3a : (32 : Int) ≤ c.toNat
        · have h3b : ¬ (c.toNat : Int) ≤ 126 := by omega
          clear hs hi ho hc hq h10 h3
          repeat (any_goals first | simp (dsimp := false) (maxSteps := 4000000) (maxDischargeDepth := 8) (implicitDefEqProofs := false) [*, -Int.not_le, -Int.not_lt, amLt, f26c, f26m3, f26r0, f26r1, f26r2, f26r3, f26r4, f26r5, f26r6, f26r7, f26r8, f26r9, f26r10, f26r11, f26r12, f26r13, f26l3_b, bys_len, app_get, app_get0, app_set, app_set0, appF_four] | with_reducible refine ch_both (fun _ => ?_) (fun _ => ?_) | with_reducible refine ite_both (fun _ => ?_) (fun _ => ?_) | intro _)
        · clear hs hi ho hc hq h10 h3
          repeat (any_goals first | simp (dsimp := false) (maxSteps := 4000000) (maxDischargeDepth := 8) (implicitDefEqProofs := false) [*, -Int.not_le, -Int.not_lt, amLt, f26c, f26m3, f26r0, f26r1, f26r2, f26r3, f26r4, f26r5, f26r6, f26r7, f26r8, f26r9, f26r10, f26r11, f26r12, f26r13, f26l3_b, bys_len, app_get, app_get0, app_set, app_set0, appF_four] | with_reducible refine ch_both (fun _ => ?_) (fun _ => ?_) | with_reducible refine ite_both (fun _ => ?_) (fun _ => ?_) | intro _)
theorem inside_loop (s : List UInt8) (hs : s.length ≤ 16777216) (q : UInt8) : ∀ (r : List UInt8) (i : Nat) (out : List UInt8) (cap : Cap) (t : Heap), s.drop i = r → i ≤ s.length → out.length ≤ 4 * i → CapAt 0 cap 1 (bys out) t →
    ∃ cap' t', Brun tab 61 (.loop f26l3) (ofL [(0, .str s), (1, .int .u8 q.toNat), (5, .is (bys out) cap), (6, .int .i64 i)]) t =
      some (.exit 0, ofL [(0, .str s), (1, .int .u8 q.toNat), (5, .is (bys (out ++ ins q r)) cap'), (6, .int .i64 s.length), (11, .bool false)], t') := by
  intro r
  induction r with
  | nil =>
    intro i out cap t hr hi ho hc
    have hlen := congrArg List.length hr
    simp only [List.length_drop, List.length_nil] at hlen
    refine ⟨cap, t, ?_⟩
    have e3 : (s.length : Int) = i := by omega
    rw [show out ++ ins q [] = out by simp [ins], Brun_loop]
    clear hr hi hlen hs ho hc
    repeat (any_goals first | simp (dsimp := false) (maxSteps := 4000000) (maxDischargeDepth := 8) (implicitDefEqProofs := false) [*, -Int.not_le, -Int.not_lt, amLt, f26c, f26m3, f26r0, f26r1, f26r2, f26r3, f26r4, f26r5, f26r6, f26r7, f26r8, f26r9, f26r10, f26r11, f26r12, f26r13, f26l3_b] | with_reducible refine ch_both (fun _ => ?_) (fun _ => ?_) | with_reducible refine ite_both (fun _ => ?_) (fun _ => ?_) | intro _)
  | cons c r ih =>
    intro i out cap t hr hi ho hc
    have hlen := congrArg List.length hr
    simp only [List.length_drop, List.length_cons] at hlen
    have hb : s[i]? = some c := by
      have := congrArg (·[0]?) hr
      simpa using this
    have htl : s.drop (i + 1) = r := by
      have := congrArg List.tail hr
      simpa using this
    have hbd := inside_body s hs q c i out cap t hb (by omega) ho hc
    have hsl := spendAt_len 0 cap t
    have h4 := insB_len q c
    obtain ⟨cap', t', h3⟩ := ih (i + 1) (out ++ insB q c) (.tok t.length 1) (spendAt 0 cap t ++ [.tok]) htl (by omega) (by simp only [List.length_append]; omega) (CapAt.new (k := 0) (j := 0) hsl rfl)
    have e : out ++ insB q c ++ ins q r = out ++ ins q (c :: r) := by simp [ins]
    rw [e] at h3
    refine ⟨cap', t', ?_⟩
    push_cast at h3
    rw [Brun_loop, hbd, bthen_normal]
    exact h3
theorem inside_ok (h : Heap) (s : List UInt8) (hs : s.length ≤ 16777216) (q : UInt8) : Ccall tab 26 [.str s, .int .u8 q.toNat] h = some (.str (ins q s), h) := by
  obtain ⟨cap', t', lp⟩ := inside_loop s hs q s 0 [] .nil [] rfl (by omega) (by simp) ⟨rfl, rfl⟩
  refine Ccall_own rfl rfl rfl rfl ?_
  have hsc := fun c h => scells_bys (ins q s) c h
  have hss := fun c => ssz_bys (ins q s) c
  have hbo := bytesOf_of (ins q s)
  rw [show bys [] = [] from rfl, List.nil_append] at lp
  simp only [Int.natCast_zero] at lp
  generalize ins q s = o at *
  clear hs
  repeat (any_goals first | simp (dsimp := false) (maxSteps := 4000000) (maxDischargeDepth := 8) (implicitDefEqProofs := false) [*, -Int.not_le, -Int.not_lt, amLt, f26c, f26m3, f26r0, f26r1, f26r2, f26r3, f26r4, f26r5, f26r6, f26r7, f26r8, f26r9, f26r10, f26r11, f26r12, f26r13, f26l3_b] | with_reducible refine ch_both (fun _ => ?_) (fun _ => ?_) | with_reducible refine ite_both (fun _ => ?_) (fun _ => ?_) | intro _)
/-! The document's Write. -/
def outL : Option (List UInt8) → List (Nat × AV)
  | some s => [(2, .str s), (3, .int .i64 0)]
  | none => [(2, .str []), (3, .int .i64 2)]
theorem rwrite_rest (ex : List (Nat × AV)) (k n : Int) (t s : List UInt8) (hs : s.length ≤ 16777216) (r : Option (List UInt8)) (hr : (r = some s ∧ s ≠ [] ∧ oneR s = .ok ((k, t, n), s.length)) ∨ (r = none ∧ (s ≠ [] → oneR s ≠ .ok ((k, t, n), s.length)))) :
    ∃ h', Brun tab 97 (.seq (.seq (.region false f10r29 [1, 4, 76] 0)
  (.cond (.t 76)
    (.seq (.region false f10r30 [2, 3] 0)
    (.ret))
    (.skip)))
  (.seq (.region false f10r31 [1, 4, 5, 6, 7] 1)
  (.seq (.seq (.region false f10r32 [4, 95] 0)
  (.cond (.t 95)
    (.seq (.region false f10r33 [2, 3] 0)
    (.ret))
    (.skip)))
  (.seq (.region false f10r34 [2, 3] 0)
  (.ret))))) (ofL ((1, .mp 0 0) :: (4, .str s) :: ex)) [.cells [.int .i64 k, .str t, .int .i64 n, .int .i64 0, .int .i64 0, .int .i64 0]] = some (.ret, ofL (outL r), h') := by
  by_cases h0 : s = []
  · subst h0
    rcases hr with ⟨_, h, _⟩ | ⟨rfl, _⟩
    · exact absurd rfl h
    · refine ⟨[.cells [.int .i64 k, .str t, .int .i64 n, .int .i64 0, .int .i64 0, .int .i64 0]], ?_⟩
      unfold outL
      clear hs
      repeat (any_goals first | simp (dsimp := false) (maxSteps := 4000000) (maxDischargeDepth := 8) (implicitDefEqProofs := false) [*, -Int.not_le, -Int.not_lt, amLt, f10c, f10r0, f10r1, f10r2, f10r3, f10r4, f10r5, f10r6, f10r7, f10r8, f10r9, f10r10, f10r11, f10r12, f10r13, f10r14, f10r15, f10r16, f10r17, f10r18, f10r19, f10r20, f10r21, f10r22, f10r23, f10r24, f10r25, f10r26, f10r27, f10r28, f10r29, f10r30, f10r31, f10r32, f10r33, f10r34] | with_reducible refine ch_both (fun _ => ?_) (fun _ => ?_) | with_reducible refine ite_both (fun _ => ?_) (fun _ => ?_) | intro _)
  · have hlp := List.length_pos_iff.2 h0
    have ho := fun h => rone_ok h s 0 hs hlp
    simp only [List.drop_zero, Int.natCast_zero] at ho
    rcases hr with ⟨rfl, _, h1⟩ | ⟨rfl, h1⟩
    · rw [h1] at ho
      simp only [ROne, Nat.zero_add] at ho
      refine ⟨[.cells [.int .i64 k, .str t, .int .i64 n, .int .i64 0, .int .i64 0, .int .i64 0], .cells [.int .i64 k, .str t, .int .i64 n, .int .i64 0, .int .i64 0, .int .i64 0]], ?_⟩
      unfold tokV at ho
      unfold outL
      clear hs hlp h1
      repeat (any_goals first | simp (dsimp := false) (maxSteps := 4000000) (maxDischargeDepth := 8) (implicitDefEqProofs := false) [*, -Int.not_le, -Int.not_lt, amLt, f10c, f10r0, f10r1, f10r2, f10r3, f10r4, f10r5, f10r6, f10r7, f10r8, f10r9, f10r10, f10r11, f10r12, f10r13, f10r14, f10r15, f10r16, f10r17, f10r18, f10r19, f10r20, f10r21, f10r22, f10r23, f10r24, f10r25, f10r26, f10r27, f10r28, f10r29, f10r30, f10r31, f10r32, f10r33, f10r34] | with_reducible refine ch_both (fun _ => ?_) (fun _ => ?_) | with_reducible refine ite_both (fun _ => ?_) (fun _ => ?_) | intro _)
    · have h1 := h1 h0
      unfold outL
      cases hO : oneR s with
      | error e =>
        rw [hO] at ho
        have he := one_err hO h0
        simp only [ROne] at ho
        have ho' : ∀ h, ∃ k, Ccall tab 19 [.str s, .int .i64 0] h = some (.tup [tokV 0 [] 0 0 0 0, .int .i64 k, .int .i64 e], h) := ho
        obtain ⟨k1, ho1⟩ := ho' [.cells [.int .i64 k, .str t, .int .i64 n, .int .i64 0, .int .i64 0, .int .i64 0], .free]
        have he0 : ¬ (e : Int) = 0 := by omega
        have he1 : ¬ e = 0 := by omega
        refine ⟨[.cells [.int .i64 k, .str t, .int .i64 n, .int .i64 0, .int .i64 0, .int .i64 0], .cells [.int .i64 0, .str [], .int .i64 0, .int .i64 0, .int .i64 0, .int .i64 0]], ?_⟩
        unfold tokV at ho1
        clear hs hlp h1 hO he ho ho'
        repeat (any_goals first | simp (dsimp := false) (maxSteps := 4000000) (maxDischargeDepth := 8) (implicitDefEqProofs := false) [*, -Int.not_le, -Int.not_lt, amLt, f10c, f10r0, f10r1, f10r2, f10r3, f10r4, f10r5, f10r6, f10r7, f10r8, f10r9, f10r10, f10r11, f10r12, f10r13, f10r14, f10r15, f10r16, f10r17, f10r18, f10r19, f10r20, f10r21, f10r22, f10r23, f10r24, f10r25, f10r26, f10r27, f10r28, f10r29, f10r30, f10r31, f10r32, f10r33, f10r34] | with_reducible refine ch_both (fun _ => ?_) (fun _ => ?_) | with_reducible refine ite_both (fun _ => ?_) (fun _ => ?_) | intro _)
      | ok p =>
        obtain ⟨⟨k', t', v'⟩, m⟩ := p
        rw [hO] at ho h1
        simp only [ROne, Nat.zero_add] at ho
        refine ⟨[.cells [.int .i64 k, .str t, .int .i64 n, .int .i64 0, .int .i64 0, .int .i64 0], .cells [.int .i64 k', .str t', .int .i64 v', .int .i64 0, .int .i64 0, .int .i64 0]], ?_⟩
        unfold tokV at ho
        by_cases hm : m = s.length
        · subst hm
          by_cases hk : k' = k
          · subst hk
            by_cases ht : t' = t
            · subst ht
              have hv : ¬ v' = n := fun e => h1 (by rw [e])
              clear hs hlp h1 hO
              repeat (any_goals first | simp (dsimp := false) (maxSteps := 4000000) (maxDischargeDepth := 8) (implicitDefEqProofs := false) [*, -Int.not_le, -Int.not_lt, amLt, f10c, f10r0, f10r1, f10r2, f10r3, f10r4, f10r5, f10r6, f10r7, f10r8, f10r9, f10r10, f10r11, f10r12, f10r13, f10r14, f10r15, f10r16, f10r17, f10r18, f10r19, f10r20, f10r21, f10r22, f10r23, f10r24, f10r25, f10r26, f10r27, f10r28, f10r29, f10r30, f10r31, f10r32, f10r33, f10r34] | with_reducible refine ch_both (fun _ => ?_) (fun _ => ?_) | with_reducible refine ite_both (fun _ => ?_) (fun _ => ?_) | intro _)
            · clear hs hlp h1 hO
              repeat (any_goals first | simp (dsimp := false) (maxSteps := 4000000) (maxDischargeDepth := 8) (implicitDefEqProofs := false) [*, -Int.not_le, -Int.not_lt, amLt, f10c, f10r0, f10r1, f10r2, f10r3, f10r4, f10r5, f10r6, f10r7, f10r8, f10r9, f10r10, f10r11, f10r12, f10r13, f10r14, f10r15, f10r16, f10r17, f10r18, f10r19, f10r20, f10r21, f10r22, f10r23, f10r24, f10r25, f10r26, f10r27, f10r28, f10r29, f10r30, f10r31, f10r32, f10r33, f10r34] | with_reducible refine ch_both (fun _ => ?_) (fun _ => ?_) | with_reducible refine ite_both (fun _ => ?_) (fun _ => ?_) | intro _)
          · clear hs hlp h1 hO
            repeat (any_goals first | simp (dsimp := false) (maxSteps := 4000000) (maxDischargeDepth := 8) (implicitDefEqProofs := false) [*, -Int.not_le, -Int.not_lt, amLt, f10c, f10r0, f10r1, f10r2, f10r3, f10r4, f10r5, f10r6, f10r7, f10r8, f10r9, f10r10, f10r11, f10r12, f10r13, f10r14, f10r15, f10r16, f10r17, f10r18, f10r19, f10r20, f10r21, f10r22, f10r23, f10r24, f10r25, f10r26, f10r27, f10r28, f10r29, f10r30, f10r31, f10r32, f10r33, f10r34] | with_reducible refine ch_both (fun _ => ?_) (fun _ => ?_) | with_reducible refine ite_both (fun _ => ?_) (fun _ => ?_) | intro _)
        · have hm' : ¬ (m : Int) = s.length := by omega
          clear hs hlp h1 hO hm
          repeat (any_goals first | simp (dsimp := false) (maxSteps := 4000000) (maxDischargeDepth := 8) (implicitDefEqProofs := false) [*, -Int.not_le, -Int.not_lt, amLt, f10c, f10r0, f10r1, f10r2, f10r3, f10r4, f10r5, f10r6, f10r7, f10r8, f10r9, f10r10, f10r11, f10r12, f10r13, f10r14, f10r15, f10r16, f10r17, f10r18, f10r19, f10r20, f10r21, f10r22, f10r23, f10r24, f10r25, f10r26, f10r27, f10r28, f10r29, f10r30, f10r31, f10r32, f10r33, f10r34] | with_reducible refine ch_both (fun _ => ?_) (fun _ => ?_) | with_reducible refine ite_both (fun _ => ?_) (fun _ => ?_) | intro _)
theorem rpick {k n : Int} {t s : List UInt8} (hk : k ≠ 0) (h : refS k t n = some s) : (outS k t n = some s ∧ s ≠ [] ∧ oneR s = .ok ((k, t, n), s.length)) ∨ (outS k t n = none ∧ (s ≠ [] → oneR s ≠ .ok ((k, t, n), s.length))) := by
  by_cases q : s ≠ [] ∧ oneR s = .ok ((k, t, n), s.length)
  · exact .inl ⟨out_some hk h q.1 q.2, q⟩
  · refine .inr ⟨out_none hk fun s' h' h0 h1 => ?_, fun h0 h1 => q ⟨h0, h1⟩⟩
    rw [h] at h'
    cases h'
    exact q ⟨h0, h1⟩
theorem rwrite_head (k n l c o : Int) (t s : List UInt8) (hk : k ≠ 0) (ht : t.length ≤ 1048576) (hr : refS k t n = some s) (X : ACode) : ∃ ex, Brun tab 97 (.seq (.region false f10r0 [1] 1)
  (.seq (.region false f10r1 [1] 0)
  (.seq (.region false f10r2 [1, 4] 0)
  (.seq (.seq (.region false f10r3 [1, 4, 11] 0)
  (.block 0 (.seq (.seq (.region false f10r4 [1, 4, 11, 12] 0)
    (.cond (.t 12)
      (.skip)
      (.seq (.region false f10r5 [1, 4, 11, 12] 0)
      (.cond (.t 12)
        (.skip)
        (.region false f10r6 [1, 4, 11, 12] 0)))))
    (.cond (.t 12)
      (.region false f10r7 [1, 4] 0)
      (.seq (.region false f10r8 [1, 4, 11, 18] 0)
      (.cond (.t 18)
        (.seq (.seq (.region false f10r9 [1, 27] 0)
        (.cond (.t 27)
          (.seq (.region false f10r10 [2, 3] 0)
          (.ret))
          (.skip)))
        (.seq (.region false f10r11 [1, 4] 0)
        (.seq (.region false f10r12 [1, 4, 32] 0)
        (.block 1 (.seq (.region false f10r13 [1, 4, 32, 33] 0)
          (.cond (.t 33)
            (.region false f10r14 [1, 4] 0)
            (.seq (.region false f10r15 [1, 4, 32, 37] 0)
            (.cond (.t 37)
              (.region false f10r16 [1, 4] 0)
              (.seq (.region false f10r17 [1, 4, 41] 0)
              (.cond (.t 41)
                (.region false f10r18 [1, 4] 0)
                (.skip)))))))))))
        (.seq (.region false f10r19 [1, 4, 11, 45] 0)
        (.cond (.t 45)
          (.seq (.seq (.region false f10r20 [1, 54] 0)
          (.cond (.t 54)
            (.seq (.region false f10r21 [2, 3] 0)
            (.ret))
            (.skip)))
          (.region false f10r22 [1, 4] 0))
          (.seq (.region false f10r23 [1, 4, 11, 63] 0)
          (.cond (.t 63)
            (.region false f10r24 [1, 4] 0)
            (.seq (.region false f10r25 [1, 4, 70] 0)
            (.cond (.t 70)
              (.seq (.seq (.region false f10r26 [74] 0)
              (.cond (.t 74)
                (.seq (.region false f10r27 [2, 3] 0)
                (.ret))
                (.skip)))
              (.seq (.region false f10r28 [2, 3] 0)
              (.ret)))
              (.skip))))))))))))) X)))) (ofL [(0, .agg [.int .i64 k, .str t, .int .i64 n, .int .i64 l, .int .i64 c, .int .i64 o])]) [] = Brun tab 97 X (ofL ((1, .mp 0 0) :: (4, .str s) :: ex)) [.cells [.int .i64 k, .str t, .int .i64 n, .int .i64 0, .int .i64 0, .int .i64 0]] := by
  unfold refS at hr
  by_cases k1 : k = 1 ∨ k = 2 ∨ k = 6
  · rw [if_pos k1] at hr
    cases hr
    clear ht hk
    rcases k1 with rfl | rfl | rfl
    · refine ⟨[], ?_⟩
      repeat (any_goals first | simp (dsimp := false) (maxSteps := 4000000) (maxDischargeDepth := 8) (implicitDefEqProofs := false) [*, -Int.not_le, -Int.not_lt, amLt, f10c, f10r0, f10r1, f10r2, f10r3, f10r4, f10r5, f10r6, f10r7, f10r8, f10r9, f10r10, f10r11, f10r12, f10r13, f10r14, f10r15, f10r16, f10r17, f10r18, f10r19, f10r20, f10r21, f10r22, f10r23, f10r24, f10r25, f10r26, f10r27, f10r28, f10r29, f10r30, f10r31, f10r32, f10r33, f10r34] | with_reducible refine ch_both (fun _ => ?_) (fun _ => ?_) | with_reducible refine ite_both (fun _ => ?_) (fun _ => ?_) | intro _)
    · refine ⟨[], ?_⟩
      repeat (any_goals first | simp (dsimp := false) (maxSteps := 4000000) (maxDischargeDepth := 8) (implicitDefEqProofs := false) [*, -Int.not_le, -Int.not_lt, amLt, f10c, f10r0, f10r1, f10r2, f10r3, f10r4, f10r5, f10r6, f10r7, f10r8, f10r9, f10r10, f10r11, f10r12, f10r13, f10r14, f10r15, f10r16, f10r17, f10r18, f10r19, f10r20, f10r21, f10r22, f10r23, f10r24, f10r25, f10r26, f10r27, f10r28, f10r29, f10r30, f10r31, f10r32, f10r33, f10r34] | with_reducible refine ch_both (fun _ => ?_) (fun _ => ?_) | with_reducible refine ite_both (fun _ => ?_) (fun _ => ?_) | intro _)
    · refine ⟨[], ?_⟩
      repeat (any_goals first | simp (dsimp := false) (maxSteps := 4000000) (maxDischargeDepth := 8) (implicitDefEqProofs := false) [*, -Int.not_le, -Int.not_lt, amLt, f10c, f10r0, f10r1, f10r2, f10r3, f10r4, f10r5, f10r6, f10r7, f10r8, f10r9, f10r10, f10r11, f10r12, f10r13, f10r14, f10r15, f10r16, f10r17, f10r18, f10r19, f10r20, f10r21, f10r22, f10r23, f10r24, f10r25, f10r26, f10r27, f10r28, f10r29, f10r30, f10r31, f10r32, f10r33, f10r34] | with_reducible refine ch_both (fun _ => ?_) (fun _ => ?_) | with_reducible refine ite_both (fun _ => ?_) (fun _ => ?_) | intro _)
  · rw [if_neg k1] at hr
    have n1 : ¬ k = 1 := fun e => k1 (.inl e)
    have n2 : ¬ k = 2 := fun e => k1 (.inr (.inl e))
    have n6 : ¬ k = 6 := fun e => k1 (.inr (.inr e))
    by_cases k3 : k = 3
    · subst k3
      rw [if_pos rfl] at hr
      split at hr
      · cases hr
      · rename_i hrange
        have h0 : 0 ≤ n := by omega
        have h1 : n ≤ 4294967295 := by omega
        have g1 : ¬ n < 0 := by omega
        have g2 : ¬ 4294967295 < n := by omega
        have hi := fun h => itoa_ok h n h0 h1
        have hil := itoa_len h0 h1
        have a1 := str_add (a := Go.Lib.itoa n) (b := [85]) (by simp; omega)
        have a2 := str_add (a := Go.Lib.itoa n) (b := [76]) (by simp; omega)
        have a3 := str_add (a := Go.Lib.itoa n) (b := [85, 76]) (by simp; omega)
        simp only [Option.some.injEq] at hr
        unfold refsuf at hr
        have e2 : typT false true = [108, 111, 110, 103] := rfl
        have e3 : typT true false = [117, 110, 115, 105, 103, 110, 101, 100, 32, 105, 110, 116] := rfl
        have e4 : typT true true = [117, 110, 115, 105, 103, 110, 101, 100, 32, 108, 111, 110, 103] := rfl
        have s1 : sufT false true = [76] := rfl
        have s2 : sufT true false = [85] := rfl
        have s3 : sufT true true = [85, 76] := rfl
        rw [e2, e3, e4, s1, s2, s3] at hr
        generalize Go.Lib.itoa n = w at *
        clear e2 e3 e4 s1 s2 s3 ht hk k1 n1 n2 n6 hrange hil
        by_cases t1 : t = [108, 111, 110, 103]
        · subst t1
          rw [if_pos rfl] at hr
          subst hr
          refine ⟨[], ?_⟩
          repeat (any_goals first | simp (dsimp := false) (maxSteps := 4000000) (maxDischargeDepth := 8) (implicitDefEqProofs := false) [*, -Int.not_le, -Int.not_lt, amLt, f10c, f10r0, f10r1, f10r2, f10r3, f10r4, f10r5, f10r6, f10r7, f10r8, f10r9, f10r10, f10r11, f10r12, f10r13, f10r14, f10r15, f10r16, f10r17, f10r18, f10r19, f10r20, f10r21, f10r22, f10r23, f10r24, f10r25, f10r26, f10r27, f10r28, f10r29, f10r30, f10r31, f10r32, f10r33, f10r34] | with_reducible refine ch_both (fun _ => ?_) (fun _ => ?_) | with_reducible refine ite_both (fun _ => ?_) (fun _ => ?_) | intro _)
        · rw [if_neg t1] at hr
          by_cases t2 : t = [117, 110, 115, 105, 103, 110, 101, 100, 32, 105, 110, 116]
          · subst t2
            rw [if_pos rfl] at hr
            subst hr
            clear t1
            refine ⟨[], ?_⟩
            repeat (any_goals first | simp (dsimp := false) (maxSteps := 4000000) (maxDischargeDepth := 8) (implicitDefEqProofs := false) [*, -Int.not_le, -Int.not_lt, amLt, f10c, f10r0, f10r1, f10r2, f10r3, f10r4, f10r5, f10r6, f10r7, f10r8, f10r9, f10r10, f10r11, f10r12, f10r13, f10r14, f10r15, f10r16, f10r17, f10r18, f10r19, f10r20, f10r21, f10r22, f10r23, f10r24, f10r25, f10r26, f10r27, f10r28, f10r29, f10r30, f10r31, f10r32, f10r33, f10r34] | with_reducible refine ch_both (fun _ => ?_) (fun _ => ?_) | with_reducible refine ite_both (fun _ => ?_) (fun _ => ?_) | intro _)
          · rw [if_neg t2] at hr
            by_cases t3 : t = [117, 110, 115, 105, 103, 110, 101, 100, 32, 108, 111, 110, 103]
            · subst t3
              rw [if_pos rfl] at hr
              subst hr
              clear t1 t2
              refine ⟨[], ?_⟩
              repeat (any_goals first | simp (dsimp := false) (maxSteps := 4000000) (maxDischargeDepth := 8) (implicitDefEqProofs := false) [*, -Int.not_le, -Int.not_lt, amLt, f10c, f10r0, f10r1, f10r2, f10r3, f10r4, f10r5, f10r6, f10r7, f10r8, f10r9, f10r10, f10r11, f10r12, f10r13, f10r14, f10r15, f10r16, f10r17, f10r18, f10r19, f10r20, f10r21, f10r22, f10r23, f10r24, f10r25, f10r26, f10r27, f10r28, f10r29, f10r30, f10r31, f10r32, f10r33, f10r34] | with_reducible refine ch_both (fun _ => ?_) (fun _ => ?_) | with_reducible refine ite_both (fun _ => ?_) (fun _ => ?_) | intro _)
            · rw [if_neg t3, List.append_nil] at hr
              subst hr
              refine ⟨[(41, .bool false)], ?_⟩
              repeat (any_goals first | simp (dsimp := false) (maxSteps := 4000000) (maxDischargeDepth := 8) (implicitDefEqProofs := false) [*, -Int.not_le, -Int.not_lt, amLt, f10c, f10r0, f10r1, f10r2, f10r3, f10r4, f10r5, f10r6, f10r7, f10r8, f10r9, f10r10, f10r11, f10r12, f10r13, f10r14, f10r15, f10r16, f10r17, f10r18, f10r19, f10r20, f10r21, f10r22, f10r23, f10r24, f10r25, f10r26, f10r27, f10r28, f10r29, f10r30, f10r31, f10r32, f10r33, f10r34] | with_reducible refine ch_both (fun _ => ?_) (fun _ => ?_) | with_reducible refine ite_both (fun _ => ?_) (fun _ => ?_) | intro _)
    · rw [if_neg k3] at hr
      by_cases k4 : k = 4
      · subst k4
        rw [if_pos rfl] at hr
        split at hr
        · cases hr
        · rename_i hrange
          simp only [Option.some.injEq] at hr
          subst hr
          have g1 : ¬ n < -128 := by omega
          have g2 : ¬ 127 < n := by omega
          have hb : ((b8 n).toNat : Int) = IntKind.u8.wrap n := by
            unfold b8
            rw [IntKind.wrap_u8]
            show ((((n % 256).toNat) % 256 : Nat) : Int) = _
            omega
          have hq := fun h => inside_ok h [b8 n] (by simp) 39
          rw [show ((39 : UInt8).toNat : Int) = 39 from rfl] at hq
          have hbo : bytesOf [AV.int IntKind.u8 (IntKind.u8.wrap n)] = some [b8 n] := by rw [← hb]; exact bytesOf_of [b8 n]
          have hl := ins_len 39 [b8 n]
          simp only [List.length_cons, List.length_nil] at hl
          have a1 := str_add (a := [39]) (b := ins 39 [b8 n]) (by simp; omega)
          have a2 := str_add (a := [39] ++ ins 39 [b8 n]) (b := [39]) (by simp; omega)
          have eq : quoteS 39 [b8 n] = [39] ++ ins 39 [b8 n] ++ [39] := by simp [quoteS]
          rw [eq]
          generalize [39] ++ ins 39 [b8 n] = w at *
          generalize ins 39 [b8 n] = w2 at *
          generalize w ++ [39] = w3 at *
          generalize b8 n = x at *
          clear ht hk k1 hrange hl eq n1 n2 n6 k3
          refine ⟨[], ?_⟩
          repeat (any_goals first | simp (dsimp := false) (maxSteps := 4000000) (maxDischargeDepth := 8) (implicitDefEqProofs := false) [*, -Int.not_le, -Int.not_lt, amLt, f10c, f10r0, f10r1, f10r2, f10r3, f10r4, f10r5, f10r6, f10r7, f10r8, f10r9, f10r10, f10r11, f10r12, f10r13, f10r14, f10r15, f10r16, f10r17, f10r18, f10r19, f10r20, f10r21, f10r22, f10r23, f10r24, f10r25, f10r26, f10r27, f10r28, f10r29, f10r30, f10r31, f10r32, f10r33, f10r34, ssz, scellsF, rowsz] | with_reducible refine ch_both (fun _ => ?_) (fun _ => ?_) | with_reducible refine ite_both (fun _ => ?_) (fun _ => ?_) | intro _)
      · rw [if_neg k4] at hr
        by_cases k5 : k = 5
        · subst k5
          rw [if_pos rfl] at hr
          simp only [Option.some.injEq] at hr
          subst hr
          have hq := fun h => inside_ok h t (by omega) 34
          rw [show ((34 : UInt8).toNat : Int) = 34 from rfl] at hq
          have hl := ins_len 34 t
          have a1 := str_add (a := [34]) (b := ins 34 t) (by simp; omega)
          have a2 := str_add (a := [34] ++ ins 34 t) (b := [34]) (by simp; omega)
          have eq : quoteS 34 t = [34] ++ ins 34 t ++ [34] := by simp [quoteS]
          rw [eq]
          generalize [34] ++ ins 34 t = w at *
          generalize ins 34 t = w2 at *
          generalize w ++ [34] = w3 at *
          clear ht hk k1 hl eq n1 n2 n6 k3 k4
          refine ⟨[], ?_⟩
          repeat (any_goals first | simp (dsimp := false) (maxSteps := 4000000) (maxDischargeDepth := 8) (implicitDefEqProofs := false) [*, -Int.not_le, -Int.not_lt, amLt, f10c, f10r0, f10r1, f10r2, f10r3, f10r4, f10r5, f10r6, f10r7, f10r8, f10r9, f10r10, f10r11, f10r12, f10r13, f10r14, f10r15, f10r16, f10r17, f10r18, f10r19, f10r20, f10r21, f10r22, f10r23, f10r24, f10r25, f10r26, f10r27, f10r28, f10r29, f10r30, f10r31, f10r32, f10r33, f10r34] | with_reducible refine ch_both (fun _ => ?_) (fun _ => ?_) | with_reducible refine ite_both (fun _ => ?_) (fun _ => ?_) | intro _)
        · rw [if_neg k5] at hr
          cases hr
theorem refS_len {k n : Int} {t s : List UInt8} (ht : t.length ≤ 1048576) (h : refS k t n = some s) : s.length ≤ 16777216 := by
  unfold refS at h
  split at h
  · cases h; omega
  · split at h
    · split at h
      · cases h
      · simp only [Option.some.injEq] at h
        subst h
        have hd := nDig_lt 9 n.toNat (by omega)
        have hs : (refsuf t).length ≤ 2 := by unfold refsuf; split; decide; split; decide; split; decide; decide
        rw [List.length_append, itoa_dec (by omega), Go.Lib.decDigits_length]
        omega
    · split at h
      · split at h
        · cases h
        · simp only [Option.some.injEq] at h
          subst h
          have := ins_len 39 [b8 n]
          simp only [quoteS, List.length_cons, List.length_append, List.length_nil] at *
          omega
      · split at h
        · simp only [Option.some.injEq] at h
          subst h
          have := ins_len 34 t
          simp only [quoteS, List.length_cons, List.length_append, List.length_nil] at *
          omega
        · cases h
theorem rwrite_ok (h : Heap) (k n l c o : Int) (t : List UInt8) (ht : t.length ≤ 1048576) : Ccall tab 10 [tokV k t n l c o] h = some (outV (outS k t n), h) := by
  unfold tokV
  by_cases hk : k = 0
  · subst hk
    refine Ccall_own rfl rfl rfl rfl ?_
    unfold outS mayS writtenS
    rw [if_pos rfl]
    clear ht
    by_cases h1 : t = []
    · by_cases h2 : n = 0
      · repeat (any_goals first | simp (dsimp := false) (maxSteps := 4000000) (maxDischargeDepth := 8) (implicitDefEqProofs := false) [*, -Int.not_le, -Int.not_lt, amLt, f10c, f10r0, f10r1, f10r2, f10r3, f10r4, f10r5, f10r6, f10r7, f10r8, f10r9, f10r10, f10r11, f10r12, f10r13, f10r14, f10r15, f10r16, f10r17, f10r18, f10r19, f10r20, f10r21, f10r22, f10r23, f10r24, f10r25, f10r26, f10r27, f10r28, f10r29, f10r30, f10r31, f10r32, f10r33, f10r34, outV] | with_reducible refine ch_both (fun _ => ?_) (fun _ => ?_) | with_reducible refine ite_both (fun _ => ?_) (fun _ => ?_) | intro _)
      · repeat (any_goals first | simp (dsimp := false) (maxSteps := 4000000) (maxDischargeDepth := 8) (implicitDefEqProofs := false) [*, -Int.not_le, -Int.not_lt, amLt, f10c, f10r0, f10r1, f10r2, f10r3, f10r4, f10r5, f10r6, f10r7, f10r8, f10r9, f10r10, f10r11, f10r12, f10r13, f10r14, f10r15, f10r16, f10r17, f10r18, f10r19, f10r20, f10r21, f10r22, f10r23, f10r24, f10r25, f10r26, f10r27, f10r28, f10r29, f10r30, f10r31, f10r32, f10r33, f10r34, outV] | with_reducible refine ch_both (fun _ => ?_) (fun _ => ?_) | with_reducible refine ite_both (fun _ => ?_) (fun _ => ?_) | intro _)
    · repeat (any_goals first | simp (dsimp := false) (maxSteps := 4000000) (maxDischargeDepth := 8) (implicitDefEqProofs := false) [*, -Int.not_le, -Int.not_lt, amLt, f10c, f10r0, f10r1, f10r2, f10r3, f10r4, f10r5, f10r6, f10r7, f10r8, f10r9, f10r10, f10r11, f10r12, f10r13, f10r14, f10r15, f10r16, f10r17, f10r18, f10r19, f10r20, f10r21, f10r22, f10r23, f10r24, f10r25, f10r26, f10r27, f10r28, f10r29, f10r30, f10r31, f10r32, f10r33, f10r34, outV] | with_reducible refine ch_both (fun _ => ?_) (fun _ => ?_) | with_reducible refine ite_both (fun _ => ?_) (fun _ => ?_) | intro _)
  · cases hr : refS k t n with
    | some s =>
      refine Ccall_own rfl rfl rfl rfl ?_
      obtain ⟨ex, he⟩ := rwrite_head k n l c o t s hk ht hr _
      refine (congrArg _ he).trans ?_
      obtain ⟨h', hrest⟩ := rwrite_rest ex k n t s (refS_len ht hr) (outS k t n) (rpick hk hr)
      rw [hrest]
      clear hr hrest he ht
      generalize outS k t n = y
      cases y with
      | none => simp [bown_ret, aresults, ares, outL, outV, ofL_cons]
      | some z => simp [bown_ret, aresults, ares, outL, outV, ofL_cons]
    | none =>
      have ho : outS k t n = none := out_none hk fun s h => by rw [hr] at h; cases h
      rw [ho]
      unfold refS at hr
      split at hr
      · cases hr
      · rename_i k1
        have n1 : ¬ k = 1 := fun e => k1 (.inl e)
        have n2 : ¬ k = 2 := fun e => k1 (.inr (.inl e))
        have n6 : ¬ k = 6 := fun e => k1 (.inr (.inr e))
        refine Ccall_own rfl rfl rfl rfl ?_
        split at hr
        · rename_i k3
          subst k3
          split at hr
          · rename_i hrange
            clear ht hk ho hr k1 n1 n2 n6
            by_cases g1 : n < 0
            · clear hrange
              repeat (any_goals first | simp (dsimp := false) (maxSteps := 4000000) (maxDischargeDepth := 8) (implicitDefEqProofs := false) [*, -Int.not_le, -Int.not_lt, amLt, f10c, f10r0, f10r1, f10r2, f10r3, f10r4, f10r5, f10r6, f10r7, f10r8, f10r9, f10r10, f10r11, f10r12, f10r13, f10r14, f10r15, f10r16, f10r17, f10r18, f10r19, f10r20, f10r21, f10r22, f10r23, f10r24, f10r25, f10r26, f10r27, f10r28, f10r29, f10r30, f10r31, f10r32, f10r33, f10r34, outV] | with_reducible refine ch_both (fun _ => ?_) (fun _ => ?_) | with_reducible refine ite_both (fun _ => ?_) (fun _ => ?_) | intro _)
            · have g2 : 4294967295 < n := by omega
              clear hrange
              repeat (any_goals first | simp (dsimp := false) (maxSteps := 4000000) (maxDischargeDepth := 8) (implicitDefEqProofs := false) [*, -Int.not_le, -Int.not_lt, amLt, f10c, f10r0, f10r1, f10r2, f10r3, f10r4, f10r5, f10r6, f10r7, f10r8, f10r9, f10r10, f10r11, f10r12, f10r13, f10r14, f10r15, f10r16, f10r17, f10r18, f10r19, f10r20, f10r21, f10r22, f10r23, f10r24, f10r25, f10r26, f10r27, f10r28, f10r29, f10r30, f10r31, f10r32, f10r33, f10r34, outV] | with_reducible refine ch_both (fun _ => ?_) (fun _ => ?_) | with_reducible refine ite_both (fun _ => ?_) (fun _ => ?_) | intro _)
          · cases hr
        · rename_i k3
          split at hr
          · rename_i k4
            subst k4
            split at hr
            · rename_i hrange
              clear ht hk ho hr k1 n1 n2 n6 k3
              by_cases g1 : n < -128
              · clear hrange
                repeat (any_goals first | simp (dsimp := false) (maxSteps := 4000000) (maxDischargeDepth := 8) (implicitDefEqProofs := false) [*, -Int.not_le, -Int.not_lt, amLt, f10c, f10r0, f10r1, f10r2, f10r3, f10r4, f10r5, f10r6, f10r7, f10r8, f10r9, f10r10, f10r11, f10r12, f10r13, f10r14, f10r15, f10r16, f10r17, f10r18, f10r19, f10r20, f10r21, f10r22, f10r23, f10r24, f10r25, f10r26, f10r27, f10r28, f10r29, f10r30, f10r31, f10r32, f10r33, f10r34, outV] | with_reducible refine ch_both (fun _ => ?_) (fun _ => ?_) | with_reducible refine ite_both (fun _ => ?_) (fun _ => ?_) | intro _)
              · have g2 : 127 < n := by omega
                clear hrange
                repeat (any_goals first | simp (dsimp := false) (maxSteps := 4000000) (maxDischargeDepth := 8) (implicitDefEqProofs := false) [*, -Int.not_le, -Int.not_lt, amLt, f10c, f10r0, f10r1, f10r2, f10r3, f10r4, f10r5, f10r6, f10r7, f10r8, f10r9, f10r10, f10r11, f10r12, f10r13, f10r14, f10r15, f10r16, f10r17, f10r18, f10r19, f10r20, f10r21, f10r22, f10r23, f10r24, f10r25, f10r26, f10r27, f10r28, f10r29, f10r30, f10r31, f10r32, f10r33, f10r34, outV] | with_reducible refine ch_both (fun _ => ?_) (fun _ => ?_) | with_reducible refine ite_both (fun _ => ?_) (fun _ => ?_) | intro _)
            · cases hr
          · rename_i k4
            split at hr
            · cases hr
            · rename_i k5
              clear ht ho hr k1
              repeat (any_goals first | simp (dsimp := false) (maxSteps := 4000000) (maxDischargeDepth := 8) (implicitDefEqProofs := false) [*, -Int.not_le, -Int.not_lt, amLt, f10c, f10r0, f10r1, f10r2, f10r3, f10r4, f10r5, f10r6, f10r7, f10r8, f10r9, f10r10, f10r11, f10r12, f10r13, f10r14, f10r15, f10r16, f10r17, f10r18, f10r19, f10r20, f10r21, f10r22, f10r23, f10r24, f10r25, f10r26, f10r27, f10r28, f10r29, f10r30, f10r31, f10r32, f10r33, f10r34, outV] | with_reducible refine ch_both (fun _ => ?_) (fun _ => ?_) | with_reducible refine ite_both (fun _ => ?_) (fun _ => ?_) | intro _)

end Go.Proofs.YtmpdpjkblcdfkaaGreatDoor
