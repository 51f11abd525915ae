/- Tokens are written. -/
import Derived.Test.YtmpdpjkblcdfkaaGreatDoorZv
import Derived.Test.YtmpdpjkblcdfkaaGreatDoorAmW
namespace Go.Proofs.YtmpdpjkblcdfkaaGreatDoor
open Go.AM
set_option maxRecDepth 20000
set_option maxHeartbeats 4000000
set_option linter.unusedSimpArgs false
set_option linter.unusedVariables false
attribute [local congr] andF_cg onF_cg bthen_cg bkeep_cg bcond_cg guardV_cg putF_cg guardF_cg ite_cg stepsF_cg
attribute [local simp] Brun_skip Brun_exit Brun_ret Brun_seq Brun_cond Brun_block Brun_region bthen_normal bthen_ret bthen_exit bblock_normal bblock_ret bblock_exit bkeep_some andF_some onF_some onF_none guardF_none guardF_some guardV_tup putF_some putF_none stepsF_nil stepsF_cons upd_apply ofL_cons ofL_nil bown_normal bown_ret banswer_normal banswer_ret aresults ares List.replicate stepF_call stepF_callD stepF_move stepF_pick stepF_alloc stepF_allocV stepF_box stepF_boxV stepF_build stepF_buildSlice stepF_buildSliceV stepF_load stepF_store stepF_nilCheck stepF_bin stepF_eq stepF_un stepF_conv stepF_strId stepF_toStr stepF_toBytes stepF_fn stepF_mkSlice stepF_slice stepF_strSlice stepF_fieldAddr stepF_field stepF_idxAddr stepF_idxArr stepF_index stepF_strIndex stepF_extract stepF_len0 stepF_len1 stepF_min stepF_max stepF_append stepF_appendF appF_none appF_row stepF_mkMap stepF_mkIface stepF_lookup stepF_mapUpdate stepF_ext aext_idx aext_count aext_same cellsF newF abin_add abin_sub abin_mul abin_quo abin_rem abin_eql abin_neq abin_lss abin_leq abin_gtr abin_geq abin_and abin_or abin_xor abin_shl abin_shr abin_seql abin_sneq aun_not aun_neg aeq_bool aeq_agg eqCells_nil eqCells_int eqCells_bool eqCells_str cellsOf_agg cellsOf_int cellsOf_bool cellsOf_str cellsOf_is cellsOf_ms cellsOf_fn cellsOf_nilp cellsOf_mp cellsOf_mm cellsOf_nilm cellsOf_nili cellsOf_ifc cellsOf_ip cget_one cget_agg ev_t ev_c fillp_nil fillp_cons isSc_int isSc_bool isSc_str isSc_is isSc_ms isSc_fn isSc_mm isSc_mp isSc_ip isSc_nilp isSc_nilm isSc_nili isSc_nilf isSc_ifc splice chunk strip strip.stripL imm imm.immL Areify_int Areify_bool Areify_str Areify_is Areify_nilp Areify_tup Areify_agg AreifyL andF_chi andF_ch onF_chi onF_ch bthen_ch bthen_chi bblock_ch bblock_chi bkeep_ch bkeep_chi bown_ch bown_chi banswer_ch banswer_chi isSome_ch bcond_ch guardV_ch1 guardV_ch0 chF_true chF_false chF_not
attribute [local simp ↓] andF_some andF_chi andF_ch onF_some onF_none onF_chi onF_ch bthen_normal bthen_ret bthen_exit bthen_ch bthen_chi bblock_normal bblock_ret bblock_exit bblock_ch bblock_chi bkeep_some bkeep_ch bkeep_chi bown_normal bown_ret bown_ch bown_chi banswer_normal banswer_ret banswer_ch banswer_chi bcond_ch guardV_ch1 guardV_ch0 guardV_tup guardF_none guardF_some putF_some putF_none stepsF_nil stepsF_cons chF_true chF_false Brun_seq Brun_cond Brun_block Brun_region Brun_skip Brun_ret Brun_exit stepF_call stepF_callD stepF_move stepF_pick stepF_alloc stepF_allocV stepF_box stepF_boxV stepF_build stepF_buildSlice stepF_buildSliceV stepF_load stepF_store stepF_nilCheck stepF_bin stepF_eq stepF_un stepF_conv stepF_strId stepF_toStr stepF_toBytes stepF_fn stepF_mkSlice stepF_slice stepF_strSlice stepF_fieldAddr stepF_field stepF_idxAddr stepF_idxArr stepF_index stepF_strIndex stepF_extract stepF_len0 stepF_len1 stepF_min stepF_max stepF_append stepF_appendF stepF_mkMap stepF_mkIface stepF_lookup stepF_mapUpdate stepF_ext
set_option maxHeartbeats 2000000
/-- More than one byte behind others. -/
theorem appF_two (slot : Nat) (rows : List (List AV)) (a b : Int) (cap c2 : Cap) (h : Heap) : appF slot 1 1 (.is rows cap) (.is [[.int .u8 a], [.int .u8 b]] c2) h =
    if roomy (rows.length + 2) 1 = true then if roomOK cap 1 rows h = true then newF slot .tok (.is (rows ++ [[.int .u8 a], [.int .u8 b]]) (.tok slot 1)) (spend cap h) else none else none :=
  appF_rows slot 1 1 rows (ys := [[.int .u8 a], [.int .u8 b]]) cap c2 h (by
    intro r hr; simp only [List.mem_cons, List.not_mem_nil, or_false] at hr; rcases hr with rfl | rfl <;> exact ⟨rfl, rfl, rfl, rfl⟩) (by simp)
theorem appF_four (slot : Nat) (rows : List (List AV)) (a b c d : Int) (cap c2 : Cap) (h : Heap) : appF slot 1 1 (.is rows cap) (.is [[.int .u8 a], [.int .u8 b], [.int .u8 c], [.int .u8 d]] c2) h =
    if roomy (rows.length + 4) 1 = true then if roomOK cap 1 rows h = true then newF slot .tok (.is (rows ++ [[.int .u8 a], [.int .u8 b], [.int .u8 c], [.int .u8 d]]) (.tok slot 1)) (spend cap h) else none else none :=
  appF_rows slot 1 1 rows (ys := [[.int .u8 a], [.int .u8 b], [.int .u8 c], [.int .u8 d]]) cap c2 h (by
    intro r hr; simp only [List.mem_cons, List.not_mem_nil, or_false] at hr; rcases hr with rfl | rfl | rfl | rfl <;> exact ⟨rfl, rfl, rfl, rfl⟩) (by simp)
theorem bys_cat (a b : List UInt8) : bys a ++ bys b = bys (a ++ b) := by simp [bys]
theorem oct_bys (c : UInt8) : bys (octS c) = [[AV.int IntKind.u8 92], [AV.int IntKind.u8 (IntKind.u8.wrap (48 + (↑c.toNat : Int).fdiv (2 ^ min 6 IntKind.u8.bits)))], [AV.int IntKind.u8 (IntKind.u8.wrap (48 + andI IntKind.u8 ((↑c.toNat : Int).fdiv (2 ^ min 3 IntKind.u8.bits)) 7))], [AV.int IntKind.u8 (IntKind.u8.wrap (48 + andI IntKind.u8 (↑c.toNat) 7))]] := by
  have h1 := byte_all (p := fun n => decide (((UInt8.ofNat (48 + n / 64)).toNat : Int) = IntKind.u8.wrap (48 + (n : Int).fdiv (2 ^ min 6 IntKind.u8.bits)))) (by decide +kernel) c
  have h2 := byte_all (p := fun n => decide (((UInt8.ofNat (48 + n / 8 % 8)).toNat : Int) = IntKind.u8.wrap (48 + andI IntKind.u8 ((n : Int).fdiv (2 ^ min 3 IntKind.u8.bits)) 7))) (by decide +kernel) c
  have h3 := byte_all (p := fun n => decide (((UInt8.ofNat (48 + n % 8)).toNat : Int) = IntKind.u8.wrap (48 + andI IntKind.u8 (n : Int) 7))) (by decide +kernel) c
  simp only [decide_eq_true_eq] at h1 h2 h3
  rw [← h1, ← h2, ← h3]
  rfl
theorem quote_body (s : List UInt8) (hs : s.length ≤ 16777216) (q c : UInt8) (i : Nat) (out : List UInt8) (cap : Cap) (t : Heap) (hb : s[i]? = some c) (hi : i < s.length) (ho : out.length ≤ 4 * i + 1) (hc : CapAt 0 cap 1 (bys out) t) :
    Brun tab 66 f51l3 (ofL [(0, .str s), (1, .int .u8 q.toNat), (5, .is (bys out) cap), (11, .int .i64 s.length), (12, .int .i64 i)]) t =
      some (.normal, ofL [(0, .str s), (1, .int .u8 q.toNat), (5, .is (bys (out ++ insB q c)) (.tok t.length 1)), (11, .int .i64 s.length), (12, .int .i64 (i + 1))], spendAt 0 cap t ++ [.tok]) := by
  have e3 : ¬ (s.length : Int) ≤ i := by omega
  have hw := w64 i (by omega)
  have hr0 := room0 hc
  have hs0 := spend0 hc
  have hsl := spendAt_len 0 cap t
  have hroom1 : roomy (out.length + 1) 1 = true := roomy_small (by omega) (by decide)
  have hroom2 : roomy (out.length + 2) 1 = true := roomy_small (by omega) (by decide)
  have hroom4 : roomy (out.length + 4) 1 = true := roomy_small (by omega) (by decide)
  rw [← bys_cat]
  unfold insB
  by_cases h10 : c = 10
  · rw [if_pos h10]
    subst h10
    rw [show bys [92, 110] = [[.int .u8 92], [.int .u8 110]] from rfl]
    clear hs hi ho hc
    repeat (any_goals first | simp (dsimp := false) (maxSteps := 4000000) (maxDischargeDepth := 8) (implicitDefEqProofs := false) [*, -Int.not_le, -Int.not_lt, amLt, f51c, f51m3, f51r0, f51r1, f51r2, f51r3, f51r4, f51r5, f51r6, f51r7, f51r8, f51r9, f51r10, f51r11, f51r12, f51r13, f51r14, f51l3_b, bys_len, app_get, app_get0, app_set, app_set0, appF_two] | with_reducible refine ch_both (fun _ => ?_) (fun _ => ?_) | with_reducible refine ite_both (fun _ => ?_) (fun _ => ?_) | intro _)
  · have h10' : ¬ (c.toNat : Int) = 10 := fun h => h10 (UInt8.toNat_inj.1 (by show c.toNat = 10; omega))
    rw [if_neg h10]
    by_cases hq : c = q ∨ c = 92
    · rw [if_pos hq, show bys [92, c] = [[.int .u8 92], [.int .u8 c.toNat]] from rfl]
      by_cases hcq : c = q
      · subst hcq
        clear hs hi ho hc hq
        repeat (any_goals first | simp (dsimp := false) (maxSteps := 4000000) (maxDischargeDepth := 8) (implicitDefEqProofs := false) [*, -Int.not_le, -Int.not_lt, amLt, f51c, f51m3, f51r0, f51r1, f51r2, f51r3, f51r4, f51r5, f51r6, f51r7, f51r8, f51r9, f51r10, f51r11, f51r12, f51r13, f51r14, f51l3_b, bys_len, app_get, app_get0, app_set, app_set0, appF_two] | with_reducible refine ch_both (fun _ => ?_) (fun _ => ?_) | with_reducible refine ite_both (fun _ => ?_) (fun _ => ?_) | intro _)
      · have hcq' : ¬ (c.toNat : Int) = q.toNat := fun h => hcq ((u8_inj c q).1 h)
        have h92 : (c.toNat : Int) = 92 := by rcases hq with h | h; exact absurd h hcq; rw [h]; rfl
        clear hs hi ho hc hq hcq h10
        repeat (any_goals first | simp (dsimp := false) (maxSteps := 4000000) (maxDischargeDepth := 8) (implicitDefEqProofs := false) [*, -Int.not_le, -Int.not_lt, amLt, f51c, f51m3, f51r0, f51r1, f51r2, f51r3, f51r4, f51r5, f51r6, f51r7, f51r8, f51r9, f51r10, f51r11, f51r12, f51r13, f51r14, f51l3_b, bys_len, app_get, app_get0, app_set, app_set0, appF_two] | with_reducible refine ch_both (fun _ => ?_) (fun _ => ?_) | with_reducible refine ite_both (fun _ => ?_) (fun _ => ?_) | intro _)
    · have hcq' : ¬ (c.toNat : Int) = q.toNat := fun h => hq (.inl ((u8_inj c q).1 h))
      have h92 : ¬ (c.toNat : Int) = 92 := fun h => hq (.inr (UInt8.toNat_inj.1 (by show c.toNat = 92; omega)))
      rw [if_neg hq]
      by_cases h3 : 32 ≤ c.toNat ∧ c.toNat ≤ 126
      · have h3a : (32 : Int) ≤ c.toNat := by omega
        have h3b : (c.toNat : Int) ≤ 126 := by omega
        rw [if_pos h3, show bys [c] = [[.int .u8 c.toNat]] from rfl]
        clear hs hi ho hc hq h10 h3
        repeat (any_goals first | simp (dsimp := false) (maxSteps := 4000000) (maxDischargeDepth := 8) (implicitDefEqProofs := false) [*, -Int.not_le, -Int.not_lt, amLt, f51c, f51m3, f51r0, f51r1, f51r2, f51r3, f51r4, f51r5, f51r6, f51r7, f51r8, f51r9, f51r10, f51r11, f51r12, f51r13, f51r14, f51l3_b, bys_len, app_get, app_get0, app_set, app_set0] | with_reducible refine ch_both (fun _ => ?_) (fun _ => ?_) | with_reducible refine ite_both (fun _ => ?_) (fun _ => ?_) | intro _)
      · rw [if_neg h3]
        rw [oct_bys]
        by_cases h3a : (32 : Int) ≤ c.toNat
        · have h3b : ¬ (c.toNat : Int) ≤ 126 := by omega
          clear hs hi ho hc hq h10 h3
          repeat (any_goals first | simp (dsimp := false) (maxSteps := 4000000) (maxDischargeDepth := 8) (implicitDefEqProofs := false) [*, -Int.not_le, -Int.not_lt, amLt, f51c, f51m3, f51r0, f51r1, f51r2, f51r3, f51r4, f51r5, f51r6, f51r7, f51r8, f51r9, f51r10, f51r11, f51r12, f51r13, f51r14, f51l3_b, bys_len, app_get, app_get0, app_set, app_set0, appF_four] | with_reducible refine ch_both (fun _ => ?_) (fun _ => ?_) | with_reducible refine ite_both (fun _ => ?_) (fun _ => ?_) | intro _)
        · clear hs hi ho hc hq h10 h3
          repeat (any_goals first | simp (dsimp := false) (maxSteps := 4000000) (maxDischargeDepth := 8) (implicitDefEqProofs := false) [*, -Int.not_le, -Int.not_lt, amLt, f51c, f51m3, f51r0, f51r1, f51r2, f51r3, f51r4, f51r5, f51r6, f51r7, f51r8, f51r9, f51r10, f51r11, f51r12, f51r13, f51r14, f51l3_b, bys_len, app_get, app_get0, app_set, app_set0, appF_four] | with_reducible refine ch_both (fun _ => ?_) (fun _ => ?_) | with_reducible refine ite_both (fun _ => ?_) (fun _ => ?_) | intro _)
theorem insB_len (q c : UInt8) : (insB q c).length ≤ 4 := by
  unfold insB octS
  split
  · simp
  · split
    · simp
    · split <;> simp
theorem quote_loop (s : List UInt8) (hs : s.length ≤ 16777216) (q : UInt8) : ∀ (r : List UInt8) (i : Nat) (out : List UInt8) (cap : Cap) (t : Heap), s.drop i = r → i ≤ s.length → out.length ≤ 4 * i + 1 → CapAt 0 cap 1 (bys out) t →
    ∃ cap' t', CapAt 0 cap' 1 (bys (out ++ ins q r)) t' ∧ (out ++ ins q r).length ≤ 4 * s.length + 1 ∧ Brun tab 66 (.loop f51l3) (ofL [(0, .str s), (1, .int .u8 q.toNat), (5, .is (bys out) cap), (11, .int .i64 s.length), (12, .int .i64 i)]) t =
      some (.exit 0, ofL [(0, .str s), (1, .int .u8 q.toNat), (5, .is (bys (out ++ ins q r)) cap'), (11, .int .i64 s.length), (12, .int .i64 s.length), (13, .bool false)], t') := by
  intro r
  induction r with
  | nil =>
    intro i out cap t hr hi ho hc
    have hlen := congrArg List.length hr
    simp only [List.length_drop, List.length_nil] at hlen
    refine ⟨cap, t, by simpa [ins] using hc, by simp [ins]; omega, ?_⟩
    have e3 : (s.length : Int) = i := by omega
    rw [show out ++ ins q [] = out by simp [ins], Brun_loop]
    clear hr hi hlen hs ho hc
    repeat (any_goals first | simp (dsimp := false) (maxSteps := 4000000) (maxDischargeDepth := 8) (implicitDefEqProofs := false) [*, -Int.not_le, -Int.not_lt, amLt, f51c, f51m3, f51r0, f51r1, f51r2, f51r3, f51r4, f51r5, f51r6, f51r7, f51r8, f51r9, f51r10, f51r11, f51r12, f51r13, f51r14, f51l3_b] | with_reducible refine ch_both (fun _ => ?_) (fun _ => ?_) | with_reducible refine ite_both (fun _ => ?_) (fun _ => ?_) | intro _)
  | cons c r ih =>
    intro i out cap t hr hi ho hc
    have hlen := congrArg List.length hr
    simp only [List.length_drop, List.length_cons] at hlen
    have hb : s[i]? = some c := by
      have := congrArg (·[0]?) hr
      simpa using this
    have htl : s.drop (i + 1) = r := by
      have := congrArg List.tail hr
      simpa using this
    have hbd := quote_body s hs q c i out cap t hb (by omega) ho hc
    have hsl := spendAt_len 0 cap t
    have h4 := insB_len q c
    obtain ⟨cap', t', h1, h2, h3⟩ := ih (i + 1) (out ++ insB q c) (.tok t.length 1) (spendAt 0 cap t ++ [.tok]) htl (by omega) (by simp only [List.length_append]; omega) (CapAt.new (k := 0) (j := 0) hsl rfl)
    have e : out ++ insB q c ++ ins q r = out ++ ins q (c :: r) := by simp [ins]
    rw [e] at h1 h2 h3
    refine ⟨cap', t', h1, h2, ?_⟩
    push_cast at h3
    rw [Brun_loop, hbd, bthen_normal]
    exact h3
theorem quote_ok (h : Heap) (s : List UInt8) (hs : s.length ≤ 16777216) (q : UInt8) : Ccall tab 51 [.str s, .int .u8 q.toNat] h = some (.str (quoteS q s), h) := by
  obtain ⟨cap', t', hc, hl, lp⟩ := quote_loop s hs q s 0 [q] .full [] rfl (by omega) (by simp) ⟨rfl, rfl⟩
  refine Ccall_own rfl rfl rfl rfl ?_
  have hr0 := room0 hc
  have hs0 := spend0 hc
  have hsl := spendAt_len 0 cap' t'
  have hroom : roomy (([q] ++ ins q s).length + 1) 1 = true := roomy_small (by omega) (by decide)
  have e : quoteS q s = ([q] ++ ins q s) ++ [q] := by simp [quoteS]
  have hby := bys_app ([q] ++ ins q s) q
  have e0 : bys [q] = [[.int .u8 q.toNat]] := rfl
  have hsc := fun c h => scells_bys ([q] ++ ins q s ++ [q]) c h
  have hss := fun c => ssz_bys ([q] ++ ins q s ++ [q]) c
  have hbo := bytesOf_of ([q] ++ ins q s ++ [q])
  rw [e0] at lp
  rw [e]
  simp only [Int.natCast_zero] at lp
  generalize [q] ++ ins q s = o at *
  clear hs hc hl e e0
  repeat (any_goals first | simp (dsimp := false) (maxSteps := 4000000) (maxDischargeDepth := 8) (implicitDefEqProofs := false) [*, -Int.not_le, -Int.not_lt, amLt, f51c, f51m3, f51r0, f51r1, f51r2, f51r3, f51r4, f51r5, f51r6, f51r7, f51r8, f51r9, f51r10, f51r11, f51r12, f51r13, f51r14, f51l3_b, bys_len, app_get, app_get0, app_set, app_set0] | with_reducible refine ch_both (fun _ => ?_) (fun _ => ?_) | with_reducible refine ite_both (fun _ => ?_) (fun _ => ?_) | intro _)
theorem suffix_ok' (h : Heap) (s p : List UInt8) (hs : s.length ≤ 16777216) : Ccall tab 71 [.str s, .str p] h = some (.bool (hasSuf p s), h) := by
  refine Ccall_own rfl rfl rfl rfl ?_
  by_cases q : p.length ≤ s.length
  · have q1 : (p.length : Int) ≤ s.length := by omega
    have hw : IntKind.i64.wrap ((s.length : Int) - p.length) = ((s.length - p.length : Nat) : Int) := by rw [IntWalk.i64_in _ (by omega)]; omega
    have q2 : ((s.length - p.length : Nat) : Int) ≤ s.length := by omega
    have q3 : hasSuf p s = decide (s.drop (s.length - p.length) = p) := by simp [hasSuf, q]
    rw [q3]
    generalize s.length - p.length = k at *
    clear hs q3
    repeat (any_goals first | simp (dsimp := false) (maxSteps := 4000000) (maxDischargeDepth := 8) (implicitDefEqProofs := false) [*, -Int.not_le, -Int.not_lt, amLt, f71c, f71r0, f71r1, obound_some, obound_none, abound_int] | with_reducible refine ch_both (fun _ => ?_) (fun _ => ?_) | with_reducible refine ite_both (fun _ => ?_) (fun _ => ?_) | intro _)
  · have q1 : ¬ (p.length : Int) ≤ s.length := by omega
    have q2 : hasSuf p s = false := by simp [hasSuf, q]
    clear hs
    repeat (any_goals first | simp (dsimp := false) (maxSteps := 4000000) (maxDischargeDepth := 8) (implicitDefEqProofs := false) [*, -Int.not_le, -Int.not_lt, amLt, f71c, f71r0, f71r1, obound_some, obound_none, abound_int] | with_reducible refine ch_both (fun _ => ?_) (fun _ => ?_) | with_reducible refine ite_both (fun _ => ?_) (fun _ => ?_) | intro _)
theorem suffix_ok (h : Heap) (s p : List UInt8) (hs : s.length ≤ 16777216) : Ccall tab 50 [.str s, .str p] h = some (.bool (hasSuf p s), h) := by
  have hp := fun h => suffix_ok' h s p hs
  refine Ccall_own rfl rfl rfl rfl ?_
  clear hs
  repeat (any_goals first | simp (dsimp := false) (maxSteps := 4000000) (maxDischargeDepth := 8) (implicitDefEqProofs := false) [*, -Int.not_le, -Int.not_lt, amLt, f50c, f50r0, f50r1] | with_reducible refine ch_both (fun _ => ?_) (fun _ => ?_) | with_reducible refine ite_both (fun _ => ?_) (fun _ => ?_) | intro _)
theorem may32_ok (h : Heap) (k n l c o : Int) (t : List UInt8) : Ccall tab 49 [tokV k t n l c o] h = some (.bool (mayN t n), h) := by
  unfold tokV mayN
  refine Ccall_own rfl rfl rfl rfl ?_
  have e1 : typT false false = [105, 110, 116] := rfl
  have e2 : typT false true = [108, 111, 110, 103] := rfl
  have e3 : typT true false = [117, 110, 115, 105, 103, 110, 101, 100, 32, 105, 110, 116] := rfl
  have e4 : typT true true = [117, 110, 115, 105, 103, 110, 101, 100, 32, 108, 111, 110, 103] := rfl
  rw [e1, e2, e3, e4]
  clear e1 e2 e3 e4
  have hb : ∀ a b : Int, decide (a ≤ n ∧ n ≤ b) = (decide (a ≤ n) && decide (n ≤ b)) := by intro a b; simp
  rw [hb, hb]
  by_cases h1 : t = [105, 110, 116]
  · subst h1
    rw [if_pos (.inl rfl)]
    clear hb
    by_cases h0 : (0 : Int) ≤ n
    · repeat (any_goals first | simp (dsimp := false) (maxSteps := 4000000) (maxDischargeDepth := 8) (implicitDefEqProofs := false) [*, -Int.not_le, -Int.not_lt, amLt, f49c, f49r0, f49r1, f49r2, f49r3, f49r4, f49r5, f49r6, f49r7, f49r8] | with_reducible refine ch_both (fun _ => ?_) (fun _ => ?_) | with_reducible refine ite_both (fun _ => ?_) (fun _ => ?_) | intro _)
    · repeat (any_goals first | simp (dsimp := false) (maxSteps := 4000000) (maxDischargeDepth := 8) (implicitDefEqProofs := false) [*, -Int.not_le, -Int.not_lt, amLt, f49c, f49r0, f49r1, f49r2, f49r3, f49r4, f49r5, f49r6, f49r7, f49r8] | with_reducible refine ch_both (fun _ => ?_) (fun _ => ?_) | with_reducible refine ite_both (fun _ => ?_) (fun _ => ?_) | intro _)
  · by_cases h2 : t = [108, 111, 110, 103]
    · subst h2
      rw [if_pos (.inr rfl)]
      clear hb h1
      by_cases h0 : (0 : Int) ≤ n
      · repeat (any_goals first | simp (dsimp := false) (maxSteps := 4000000) (maxDischargeDepth := 8) (implicitDefEqProofs := false) [*, -Int.not_le, -Int.not_lt, amLt, f49c, f49r0, f49r1, f49r2, f49r3, f49r4, f49r5, f49r6, f49r7, f49r8] | with_reducible refine ch_both (fun _ => ?_) (fun _ => ?_) | with_reducible refine ite_both (fun _ => ?_) (fun _ => ?_) | intro _)
      · repeat (any_goals first | simp (dsimp := false) (maxSteps := 4000000) (maxDischargeDepth := 8) (implicitDefEqProofs := false) [*, -Int.not_le, -Int.not_lt, amLt, f49c, f49r0, f49r1, f49r2, f49r3, f49r4, f49r5, f49r6, f49r7, f49r8] | with_reducible refine ch_both (fun _ => ?_) (fun _ => ?_) | with_reducible refine ite_both (fun _ => ?_) (fun _ => ?_) | intro _)
    · rw [if_neg (by rintro (h | h); exact h1 h; exact h2 h)]
      by_cases h3 : t = [117, 110, 115, 105, 103, 110, 101, 100, 32, 105, 110, 116]
      · subst h3
        rw [if_pos (.inl rfl)]
        clear hb h1 h2
        by_cases h0 : (0 : Int) ≤ n
        · repeat (any_goals first | simp (dsimp := false) (maxSteps := 4000000) (maxDischargeDepth := 8) (implicitDefEqProofs := false) [*, -Int.not_le, -Int.not_lt, amLt, f49c, f49r0, f49r1, f49r2, f49r3, f49r4, f49r5, f49r6, f49r7, f49r8] | with_reducible refine ch_both (fun _ => ?_) (fun _ => ?_) | with_reducible refine ite_both (fun _ => ?_) (fun _ => ?_) | intro _)
        · repeat (any_goals first | simp (dsimp := false) (maxSteps := 4000000) (maxDischargeDepth := 8) (implicitDefEqProofs := false) [*, -Int.not_le, -Int.not_lt, amLt, f49c, f49r0, f49r1, f49r2, f49r3, f49r4, f49r5, f49r6, f49r7, f49r8] | with_reducible refine ch_both (fun _ => ?_) (fun _ => ?_) | with_reducible refine ite_both (fun _ => ?_) (fun _ => ?_) | intro _)
      · by_cases h4 : t = [117, 110, 115, 105, 103, 110, 101, 100, 32, 108, 111, 110, 103]
        · subst h4
          rw [if_pos (.inr rfl)]
          clear hb h1 h2 h3
          by_cases h0 : (0 : Int) ≤ n
          · repeat (any_goals first | simp (dsimp := false) (maxSteps := 4000000) (maxDischargeDepth := 8) (implicitDefEqProofs := false) [*, -Int.not_le, -Int.not_lt, amLt, f49c, f49r0, f49r1, f49r2, f49r3, f49r4, f49r5, f49r6, f49r7, f49r8] | with_reducible refine ch_both (fun _ => ?_) (fun _ => ?_) | with_reducible refine ite_both (fun _ => ?_) (fun _ => ?_) | intro _)
          · repeat (any_goals first | simp (dsimp := false) (maxSteps := 4000000) (maxDischargeDepth := 8) (implicitDefEqProofs := false) [*, -Int.not_le, -Int.not_lt, amLt, f49c, f49r0, f49r1, f49r2, f49r3, f49r4, f49r5, f49r6, f49r7, f49r8] | with_reducible refine ch_both (fun _ => ?_) (fun _ => ?_) | with_reducible refine ite_both (fun _ => ?_) (fun _ => ?_) | intro _)
        · rw [if_neg (by rintro (h | h); exact h3 h; exact h4 h)]
          clear hb
          repeat (any_goals first | simp (dsimp := false) (maxSteps := 4000000) (maxDischargeDepth := 8) (implicitDefEqProofs := false) [*, -Int.not_le, -Int.not_lt, amLt, f49c, f49r0, f49r1, f49r2, f49r3, f49r4, f49r5, f49r6, f49r7, f49r8] | with_reducible refine ch_both (fun _ => ?_) (fun _ => ?_) | with_reducible refine ite_both (fun _ => ?_) (fun _ => ?_) | intro _)
theorem may_ok (h : Heap) (k n : Int) (t : List UInt8) (ht : t.length ≤ 1048576) : Ccall tab 23 [tokV k t n 0 0 0] h = some (.bool (mayS k t n), h) := by
  have hn := fun h => name_ok h t ht
  have hw := fun h => word_ok h t ht
  have h32 := fun h => may32_ok h k n 0 0 0 t
  unfold tokV at h32 ⊢
  unfold mayS
  refine Ccall_own rfl rfl rfl rfl ?_
  by_cases k0 : k = 0
  · subst k0
    rw [if_pos rfl]
    clear ht hn hw h32
    by_cases h1 : t = []
    · by_cases h2 : n = 0
      · repeat (any_goals first | simp (dsimp := false) (maxSteps := 4000000) (maxDischargeDepth := 8) (implicitDefEqProofs := false) [*, -Int.not_le, -Int.not_lt, amLt, f23c, f23r0, f23r1, f23r2, f23r3, f23r4, f23r5, f23r6, f23r7, f23r8, f23r9, f38_p, f23q15, f23r10, f23r11, f23r12, f23r13, f23r14, f23r16, f23r15_u, f23r15_w] | with_reducible refine ch_both (fun _ => ?_) (fun _ => ?_) | with_reducible refine ite_both (fun _ => ?_) (fun _ => ?_) | intro _)
      · repeat (any_goals first | simp (dsimp := false) (maxSteps := 4000000) (maxDischargeDepth := 8) (implicitDefEqProofs := false) [*, -Int.not_le, -Int.not_lt, amLt, f23c, f23r0, f23r1, f23r2, f23r3, f23r4, f23r5, f23r6, f23r7, f23r8, f23r9, f38_p, f23q15, f23r10, f23r11, f23r12, f23r13, f23r14, f23r16, f23r15_u, f23r15_w] | with_reducible refine ch_both (fun _ => ?_) (fun _ => ?_) | with_reducible refine ite_both (fun _ => ?_) (fun _ => ?_) | intro _)
    · repeat (any_goals first | simp (dsimp := false) (maxSteps := 4000000) (maxDischargeDepth := 8) (implicitDefEqProofs := false) [*, -Int.not_le, -Int.not_lt, amLt, f23c, f23r0, f23r1, f23r2, f23r3, f23r4, f23r5, f23r6, f23r7, f23r8, f23r9, f38_p, f23q15, f23r10, f23r11, f23r12, f23r13, f23r14, f23r16, f23r15_u, f23r15_w] | with_reducible refine ch_both (fun _ => ?_) (fun _ => ?_) | with_reducible refine ite_both (fun _ => ?_) (fun _ => ?_) | intro _)
  · rw [if_neg k0]
    by_cases k1 : k = 1
    · subst k1
      rw [if_pos rfl]
      clear ht hw h32
      by_cases h2 : n = 0
      · repeat (any_goals first | simp (dsimp := false) (maxSteps := 4000000) (maxDischargeDepth := 8) (implicitDefEqProofs := false) [*, -Int.not_le, -Int.not_lt, amLt, f23c, f23r0, f23r1, f23r2, f23r3, f23r4, f23r5, f23r6, f23r7, f23r8, f23r9, f38_p, f23q15, f23r10, f23r11, f23r12, f23r13, f23r14, f23r16, f23r15_u, f23r15_w] | with_reducible refine ch_both (fun _ => ?_) (fun _ => ?_) | with_reducible refine ite_both (fun _ => ?_) (fun _ => ?_) | intro _)
      · repeat (any_goals first | simp (dsimp := false) (maxSteps := 4000000) (maxDischargeDepth := 8) (implicitDefEqProofs := false) [*, -Int.not_le, -Int.not_lt, amLt, f23c, f23r0, f23r1, f23r2, f23r3, f23r4, f23r5, f23r6, f23r7, f23r8, f23r9, f38_p, f23q15, f23r10, f23r11, f23r12, f23r13, f23r14, f23r16, f23r15_u, f23r15_w] | with_reducible refine ch_both (fun _ => ?_) (fun _ => ?_) | with_reducible refine ite_both (fun _ => ?_) (fun _ => ?_) | intro _)
    · rw [if_neg k1]
      by_cases k2 : k = 2
      · subst k2
        rw [if_pos rfl]
        clear ht hn h32
        by_cases h2 : n = 0
        · repeat (any_goals first | simp (dsimp := false) (maxSteps := 4000000) (maxDischargeDepth := 8) (implicitDefEqProofs := false) [*, -Int.not_le, -Int.not_lt, amLt, f23c, f23r0, f23r1, f23r2, f23r3, f23r4, f23r5, f23r6, f23r7, f23r8, f23r9, f38_p, f23q15, f23r10, f23r11, f23r12, f23r13, f23r14, f23r16, f23r15_u, f23r15_w] | with_reducible refine ch_both (fun _ => ?_) (fun _ => ?_) | with_reducible refine ite_both (fun _ => ?_) (fun _ => ?_) | intro _)
        · repeat (any_goals first | simp (dsimp := false) (maxSteps := 4000000) (maxDischargeDepth := 8) (implicitDefEqProofs := false) [*, -Int.not_le, -Int.not_lt, amLt, f23c, f23r0, f23r1, f23r2, f23r3, f23r4, f23r5, f23r6, f23r7, f23r8, f23r9, f38_p, f23q15, f23r10, f23r11, f23r12, f23r13, f23r14, f23r16, f23r15_u, f23r15_w] | with_reducible refine ch_both (fun _ => ?_) (fun _ => ?_) | with_reducible refine ite_both (fun _ => ?_) (fun _ => ?_) | intro _)
      · rw [if_neg k2]
        by_cases k3 : k = 3
        · subst k3
          rw [if_pos rfl]
          clear ht hn hw
          repeat (any_goals first | simp (dsimp := false) (maxSteps := 4000000) (maxDischargeDepth := 8) (implicitDefEqProofs := false) [*, -Int.not_le, -Int.not_lt, amLt, f23c, f23r0, f23r1, f23r2, f23r3, f23r4, f23r5, f23r6, f23r7, f23r8, f23r9, f38_p, f23q15, f23r10, f23r11, f23r12, f23r13, f23r14, f23r16, f23r15_u, f23r15_w] | with_reducible refine ch_both (fun _ => ?_) (fun _ => ?_) | with_reducible refine ite_both (fun _ => ?_) (fun _ => ?_) | intro _)
        · rw [if_neg k3]
          by_cases k4 : k = 4
          · subst k4
            rw [if_pos rfl]
            clear ht hn hw h32
            by_cases h1 : t = []
            · by_cases h2 : -128 ≤ n
              · repeat (any_goals first | simp (dsimp := false) (maxSteps := 4000000) (maxDischargeDepth := 8) (implicitDefEqProofs := false) [*, -Int.not_le, -Int.not_lt, amLt, f23c, f23r0, f23r1, f23r2, f23r3, f23r4, f23r5, f23r6, f23r7, f23r8, f23r9, f38_p, f23q15, f23r10, f23r11, f23r12, f23r13, f23r14, f23r16, f23r15_u, f23r15_w] | with_reducible refine ch_both (fun _ => ?_) (fun _ => ?_) | with_reducible refine ite_both (fun _ => ?_) (fun _ => ?_) | intro _)
              · repeat (any_goals first | simp (dsimp := false) (maxSteps := 4000000) (maxDischargeDepth := 8) (implicitDefEqProofs := false) [*, -Int.not_le, -Int.not_lt, amLt, f23c, f23r0, f23r1, f23r2, f23r3, f23r4, f23r5, f23r6, f23r7, f23r8, f23r9, f38_p, f23q15, f23r10, f23r11, f23r12, f23r13, f23r14, f23r16, f23r15_u, f23r15_w] | with_reducible refine ch_both (fun _ => ?_) (fun _ => ?_) | with_reducible refine ite_both (fun _ => ?_) (fun _ => ?_) | intro _)
            · repeat (any_goals first | simp (dsimp := false) (maxSteps := 4000000) (maxDischargeDepth := 8) (implicitDefEqProofs := false) [*, -Int.not_le, -Int.not_lt, amLt, f23c, f23r0, f23r1, f23r2, f23r3, f23r4, f23r5, f23r6, f23r7, f23r8, f23r9, f38_p, f23q15, f23r10, f23r11, f23r12, f23r13, f23r14, f23r16, f23r15_u, f23r15_w] | with_reducible refine ch_both (fun _ => ?_) (fun _ => ?_) | with_reducible refine ite_both (fun _ => ?_) (fun _ => ?_) | intro _)
          · rw [if_neg k4]
            by_cases k5 : k = 5
            · subst k5
              rw [if_pos rfl]
              clear ht hn hw h32
              repeat (any_goals first | simp (dsimp := false) (maxSteps := 4000000) (maxDischargeDepth := 8) (implicitDefEqProofs := false) [*, -Int.not_le, -Int.not_lt, amLt, f23c, f23r0, f23r1, f23r2, f23r3, f23r4, f23r5, f23r6, f23r7, f23r8, f23r9, f38_p, f23q15, f23r10, f23r11, f23r12, f23r13, f23r14, f23r16, f23r15_u, f23r15_w] | with_reducible refine ch_both (fun _ => ?_) (fun _ => ?_) | with_reducible refine ite_both (fun _ => ?_) (fun _ => ?_) | intro _)
            · rw [if_neg k5]
              by_cases k6 : k = 6
              · subst k6
                rw [if_pos rfl]
                clear hn hw h32
                by_cases h2 : n = 0
                · by_cases h1 : t = []
                  · clear ht
                    repeat (any_goals first | simp (dsimp := false) (maxSteps := 4000000) (maxDischargeDepth := 8) (implicitDefEqProofs := false) [*, -Int.not_le, -Int.not_lt, amLt, f23c, f23r0, f23r1, f23r2, f23r3, f23r4, f23r5, f23r6, f23r7, f23r8, f23r9, f38_p, f23q15, f23r10, f23r11, f23r12, f23r13, f23r14, f23r16, f23r15_u, f23r15_w] | with_reducible refine ch_both (fun _ => ?_) (fun _ => ?_) | with_reducible refine ite_both (fun _ => ?_) (fun _ => ?_) | intro _)
                  · obtain ⟨b, r, rfl⟩ := List.exists_cons_of_ne_nil h1
                    have hsg := fun h => sign_ok h (b :: r) b rfl (by omega)
                    generalize b :: r = t at *
                    clear ht
                    repeat (any_goals first | simp (dsimp := false) (maxSteps := 4000000) (maxDischargeDepth := 8) (implicitDefEqProofs := false) [*, -Int.not_le, -Int.not_lt, amLt, f23c, f23r0, f23r1, f23r2, f23r3, f23r4, f23r5, f23r6, f23r7, f23r8, f23r9, f38_p, f23q15, f23r10, f23r11, f23r12, f23r13, f23r14, f23r16, f23r15_u, f23r15_w] | with_reducible refine ch_both (fun _ => ?_) (fun _ => ?_) | with_reducible refine ite_both (fun _ => ?_) (fun _ => ?_) | intro _)
                · clear ht
                  repeat (any_goals first | simp (dsimp := false) (maxSteps := 4000000) (maxDischargeDepth := 8) (implicitDefEqProofs := false) [*, -Int.not_le, -Int.not_lt, amLt, f23c, f23r0, f23r1, f23r2, f23r3, f23r4, f23r5, f23r6, f23r7, f23r8, f23r9, f38_p, f23q15, f23r10, f23r11, f23r12, f23r13, f23r14, f23r16, f23r15_u, f23r15_w] | with_reducible refine ch_both (fun _ => ?_) (fun _ => ?_) | with_reducible refine ite_both (fun _ => ?_) (fun _ => ?_) | intro _)
              · rw [if_neg k6]
                clear ht hn hw h32
                repeat (any_goals first | simp (dsimp := false) (maxSteps := 4000000) (maxDischargeDepth := 8) (implicitDefEqProofs := false) [*, -Int.not_le, -Int.not_lt, amLt, f23c, f23r0, f23r1, f23r2, f23r3, f23r4, f23r5, f23r6, f23r7, f23r8, f23r9, f38_p, f23q15, f23r10, f23r11, f23r12, f23r13, f23r14, f23r16, f23r15_u, f23r15_w] | with_reducible refine ch_both (fun _ => ?_) (fun _ => ?_) | with_reducible refine ite_both (fun _ => ?_) (fun _ => ?_) | intro _)
theorem nDig_le (n : Nat) : Go.Lib.nDigits n ≤ n + 1 := by
  induction n using Nat.strongRecOn with
  | _ n ih =>
    by_cases h : n < 10
    · rw [Go.Lib.nDigits_small h]; omega
    · rw [Go.Lib.nDigits_big h]
      have := ih (n / 10) (by omega)
      omega
theorem itoa_ok (h : Heap) (n : Int) (h0 : 0 ≤ n) (h1 : n ≤ 4294967295) : Ccall tab 25 [.int .i64 n] h = some (.str (Go.Lib.itoa n), h) := by
  refine Ccall_ext (F := libItoa) rfl rfl rfl rfl ?_
  simp only [strip.stripL, strip, libItoa]
  rw [if_pos ⟨by omega, by omega⟩]
theorem itoa_len {n : Int} (h0 : 0 ≤ n) (h1 : n ≤ 4294967295) : (Go.Lib.itoa n).length ≤ 4294967296 := by
  rw [itoa_dec h0, Go.Lib.decDigits_length]
  have := nDig_le n.toNat
  omega
theorem str_add {a b : List UInt8} (h : a.length + b.length ≤ 9223372036854775807) : abin .add (.str a) (.str b) = some (.str (a ++ b)) := by
  simp only [abin]
  rw [if_pos h]
theorem written_ok (h : Heap) (k n : Int) (t : List UInt8) (ht : t.length ≤ 1048576) (hm : mayS k t n = true) : Ccall tab 24 [tokV k t n 0 0 0] h = some (.str (writtenS k t n), h) := by
  unfold tokV writtenS
  refine Ccall_own rfl rfl rfl rfl ?_
  by_cases k3 : k = 3
  · subst k3
    rw [if_pos rfl]
    have hN : mayN t n = true := by simpa [mayS] using hm
    obtain ⟨u, l, e, h0, h1, _⟩ := mayN_inv hN
    have hp := fun h => prefix_ok h t unsP (by omega)
    have hs := fun h => suffix_ok h t longP (by omega)
    have hi := fun h => itoa_ok h n h0 h1
    have hil := itoa_len h0 h1
    have a0 := str_add (a := Go.Lib.itoa n) (b := []) (by simp; omega)
    have a1 := str_add (a := Go.Lib.itoa n) (b := [85]) (by simp; omega)
    have a2 := str_add (a := Go.Lib.itoa n) (b := [76]) (by simp; omega)
    have a3 := str_add (a := Go.Lib.itoa n) (b := [85, 76]) (by simp; omega)
    have a4 : abin .add (.str [85]) (.str [76]) = some (.str [85, 76]) := rfl
    have a5 : abin .add (.str []) (.str [76]) = some (.str [76]) := rfl
    unfold unsP longP at *
    generalize Go.Lib.itoa n = w at *
    clear ht hm hN e h0 h1 hil
    generalize hasPre [117, 110, 115, 105, 103, 110, 101, 100] t = A at *
    generalize hasSuf [108, 111, 110, 103] t = B at *
    cases A <;> cases B
    · repeat (any_goals first | simp (dsimp := false) (maxSteps := 4000000) (maxDischargeDepth := 8) (implicitDefEqProofs := false) [*, -Int.not_le, -Int.not_lt, amLt, f24c, f24r0, f24r1, f24r2, f24r3, f24r4, f24r5, f24r6, f24r7, f24r8, f24r9, f24r10, f24r11, f24r12, f24r13, sufT] | with_reducible refine ch_both (fun _ => ?_) (fun _ => ?_) | with_reducible refine ite_both (fun _ => ?_) (fun _ => ?_) | intro _)
    · repeat (any_goals first | simp (dsimp := false) (maxSteps := 4000000) (maxDischargeDepth := 8) (implicitDefEqProofs := false) [*, -Int.not_le, -Int.not_lt, amLt, f24c, f24r0, f24r1, f24r2, f24r3, f24r4, f24r5, f24r6, f24r7, f24r8, f24r9, f24r10, f24r11, f24r12, f24r13, sufT] | with_reducible refine ch_both (fun _ => ?_) (fun _ => ?_) | with_reducible refine ite_both (fun _ => ?_) (fun _ => ?_) | intro _)
    · repeat (any_goals first | simp (dsimp := false) (maxSteps := 4000000) (maxDischargeDepth := 8) (implicitDefEqProofs := false) [*, -Int.not_le, -Int.not_lt, amLt, f24c, f24r0, f24r1, f24r2, f24r3, f24r4, f24r5, f24r6, f24r7, f24r8, f24r9, f24r10, f24r11, f24r12, f24r13, sufT] | with_reducible refine ch_both (fun _ => ?_) (fun _ => ?_) | with_reducible refine ite_both (fun _ => ?_) (fun _ => ?_) | intro _)
    · repeat (any_goals first | simp (dsimp := false) (maxSteps := 4000000) (maxDischargeDepth := 8) (implicitDefEqProofs := false) [*, -Int.not_le, -Int.not_lt, amLt, f24c, f24r0, f24r1, f24r2, f24r3, f24r4, f24r5, f24r6, f24r7, f24r8, f24r9, f24r10, f24r11, f24r12, f24r13, sufT] | with_reducible refine ch_both (fun _ => ?_) (fun _ => ?_) | with_reducible refine ite_both (fun _ => ?_) (fun _ => ?_) | intro _)
  · rw [if_neg k3]
    by_cases k4 : k = 4
    · subst k4
      rw [if_pos rfl]
      have hb : ((b8 n).toNat : Int) = IntKind.u8.wrap n := by
        unfold b8
        rw [IntKind.wrap_u8]
        show ((((n % 256).toNat) % 256 : Nat) : Int) = _
        omega
      have hq := fun h => quote_ok h [b8 n] (by simp) 39
      rw [show ((39 : UInt8).toNat : Int) = 39 from rfl] at hq
      have hbo : bytesOf [AV.int IntKind.u8 (IntKind.u8.wrap n)] = some [b8 n] := by rw [← hb]; exact bytesOf_of [b8 n]
      generalize quoteS 39 [b8 n] = w at *
      generalize b8 n = x at *
      clear ht hm
      repeat (any_goals first | simp (dsimp := false) (maxSteps := 4000000) (maxDischargeDepth := 8) (implicitDefEqProofs := false) [*, -Int.not_le, -Int.not_lt, amLt, f24c, f24r0, f24r1, f24r2, f24r3, f24r4, f24r5, f24r6, f24r7, f24r8, f24r9, f24r10, f24r11, f24r12, f24r13, ssz, scellsF, rowsz] | with_reducible refine ch_both (fun _ => ?_) (fun _ => ?_) | with_reducible refine ite_both (fun _ => ?_) (fun _ => ?_) | intro _)
    · rw [if_neg k4]
      by_cases k5 : k = 5
      · subst k5
        rw [if_pos rfl]
        have hq := fun h => quote_ok h t (by omega) 34
        rw [show ((34 : UInt8).toNat : Int) = 34 from rfl] at hq
        clear ht hm
        repeat (any_goals first | simp (dsimp := false) (maxSteps := 4000000) (maxDischargeDepth := 8) (implicitDefEqProofs := false) [*, -Int.not_le, -Int.not_lt, amLt, f24c, f24r0, f24r1, f24r2, f24r3, f24r4, f24r5, f24r6, f24r7, f24r8, f24r9, f24r10, f24r11, f24r12, f24r13] | with_reducible refine ch_both (fun _ => ?_) (fun _ => ?_) | with_reducible refine ite_both (fun _ => ?_) (fun _ => ?_) | intro _)
      · rw [if_neg k5]
        clear ht hm
        repeat (any_goals first | simp (dsimp := false) (maxSteps := 4000000) (maxDischargeDepth := 8) (implicitDefEqProofs := false) [*, -Int.not_le, -Int.not_lt, amLt, f24c, f24r0, f24r1, f24r2, f24r3, f24r4, f24r5, f24r6, f24r7, f24r8, f24r9, f24r10, f24r11, f24r12, f24r13] | with_reducible refine ch_both (fun _ => ?_) (fun _ => ?_) | with_reducible refine ite_both (fun _ => ?_) (fun _ => ?_) | intro _)
def outV : Option (List UInt8) → AV
  | some s => .tup [.str s, .int .i64 0]
  | none => .tup [.str [], .int .i64 2]
theorem write_ok (h : Heap) (k n l c o : Int) (t : List UInt8) (ht : t.length ≤ 1048576) : Ccall tab 9 [tokV k t n l c o] h = some (outV (outS k t n), h) := by
  have hm := fun h => may_ok h k n t ht
  have hw := fun h hm => written_ok h k n t ht hm
  unfold outS
  refine Ccall_own rfl rfl rfl rfl ?_
  cases q : mayS k t n with
  | true =>
    rw [q] at hm
    have hw := fun h => hw h q
    unfold tokV at *
    clear ht q
    repeat (any_goals first | simp (dsimp := false) (maxSteps := 4000000) (maxDischargeDepth := 8) (implicitDefEqProofs := false) [*, -Int.not_le, -Int.not_lt, amLt, f9c, f9r0, f9r1, f9r2, f9r3, f9r4, outV] | with_reducible refine ch_both (fun _ => ?_) (fun _ => ?_) | with_reducible refine ite_both (fun _ => ?_) (fun _ => ?_) | intro _)
  | false =>
    rw [q] at hm
    unfold tokV at *
    clear ht q hw
    repeat (any_goals first | simp (dsimp := false) (maxSteps := 4000000) (maxDischargeDepth := 8) (implicitDefEqProofs := false) [*, -Int.not_le, -Int.not_lt, amLt, f9c, f9r0, f9r1, f9r2, f9r3, f9r4, outV] | with_reducible refine ch_both (fun _ => ?_) (fun _ => ?_) | with_reducible refine ite_both (fun _ => ?_) (fun _ => ?_) | intro _)
theorem nDig_lt : ∀ (k n : Nat), n < 10 ^ (k + 1) → Go.Lib.nDigits n ≤ k + 1 := by
  intro k
  induction k with
  | zero => intro n h; rw [Go.Lib.nDigits_small (by simpa using h)]; omega
  | succ k ih =>
    intro n h
    by_cases q : n < 10
    · rw [Go.Lib.nDigits_small q]; omega
    · rw [Go.Lib.nDigits_big q]
      have := ih (n / 10) (by rw [Nat.pow_succ] at h; omega)
      omega
theorem ins_len (q : UInt8) (s : List UInt8) : (ins q s).length ≤ 4 * s.length := by
  induction s with
  | nil => simp [ins]
  | cons c r ih =>
    have : ins q (c :: r) = insB q c ++ ins q r := by simp [ins]
    rw [this, List.length_append, List.length_cons]
    have := insB_len q c
    omega
theorem written_len {k n : Int} {t : List UInt8} (ht : t.length ≤ 1048576) (hm : mayS k t n = true) : (writtenS k t n).length ≤ 4194400 := by
  unfold writtenS
  split
  · rename_i k3
    subst k3
    have hN : mayN t n = true := by simpa [mayS] using hm
    obtain ⟨u, l, e, h0, h1, _⟩ := mayN_inv hN
    have hd := nDig_lt 9 n.toNat (by omega)
    have hs : ∀ a b, (sufT a b).length ≤ 2 := by intro a b; cases a <;> cases b <;> decide
    have := hs (hasPre unsP t) (hasSuf longP t)
    rw [List.length_append, itoa_dec h0, Go.Lib.decDigits_length]
    omega
  · split
    · have := ins_len 39 [b8 n]
      simp only [quoteS, List.length_cons, List.length_append, List.length_nil] at *
      omega
    · split
      · have := ins_len 34 t
        simp only [quoteS, List.length_cons, List.length_append, List.length_nil] at *
        omega
      · omega
theorem out_len {k n : Int} {t w : List UInt8} (ht : t.length ≤ 1048576) (h : outS k t n = some w) : w.length ≤ 4194400 := by
  unfold outS at h
  split at h
  · rename_i hm
    cases h
    exact written_len ht hm
  · cases h
/-- Words with a blank between them. -/
def joinB : List (List UInt8) → List UInt8
  | [] => []
  | [w] => w
  | w :: v :: r => w ++ 32 :: joinB (v :: r)
theorem join_eq (ws : List (List UInt8)) : Go.Lib.join ws [32] = joinB ws := by
  unfold Go.Lib.join
  induction ws with
  | nil => rfl
  | cons w r ih =>
    cases r with
    | nil => simp [joinB, List.intercalate]
    | cons v r =>
      rw [joinB, ← ih]
      simp [List.intercalate]
theorem joinB_len : ∀ (ws : List (List UInt8)), (∀ w ∈ ws, w.length ≤ 4194400) → (joinB ws).length ≤ ws.length * 4194401 := by
  intro ws
  induction ws with
  | nil => intro _; simp [joinB]
  | cons w r ih =>
    intro h
    have h1 := h w (by simp)
    have h2 := ih fun x hx => h x (by simp [hx])
    cases r with
    | nil => simp only [joinB, List.length_cons, List.length_nil]; omega
    | cons v r =>
      simp only [joinB, List.length_append, List.length_cons] at *
      omega
theorem strRows_strs (ws : List (List UInt8)) : strRows (strs ws) = some ws := by
  induction ws with
  | nil => rfl
  | cons w r ih =>
    show (strRows (strs r)).map (w :: ·) = _
    rw [ih]; rfl
theorem sjoin_ok (h : Heap) (ws : List (List UInt8)) (cap : Cap) (hl : ws.length ≤ 1048576) (hw : ∀ w ∈ ws, w.length ≤ 4194400) : Ccall tab 27 [.is (strs ws) cap, .str [32]] h = some (.str (joinB ws), h) := by
  have hb := joinB_len ws hw
  refine Ccall_ext (F := libJoin) rfl rfl rfl rfl ?_
  simp only [strip.stripL, strip, libJoin, strRows_strs, join_eq]
  rw [if_pos ⟨by omega, by omega⟩]
/-- What a row of tokens is written as, word by word. -/
def outsY : List Y6 → Option (List (List UInt8))
  | [] => some []
  | y :: r => match outS y.1 y.2.1 y.2.2.1 with
    | none => none
    | some w => if y.1 = 0 ∧ r ≠ [] then none else (outsY r).map (w :: ·)
theorem strs_app (a : List (List UInt8)) (w : List UInt8) : strs a ++ [[.str w]] = strs (a ++ [w]) := by simp [strs]
def JOut (L : List (Nat × AV)) (E : List (Nat × AV)) (ws : List (List UInt8)) (x : Option (Ex × Env × Heap)) : Option (List (List UInt8)) → Prop
  | none => ∃ t', x = some (.ret, ofL [(2, .str []), (3, .int .i64 2)], t')
  | some ws2 => ∃ cap' t', CapAt 0 cap' 1 (strs (ws ++ ws2)) t' ∧ x = some (.exit 0, ofL (L ++ (4, .is (strs (ws ++ ws2)) cap') :: E), t')
theorem join_loop (l : List Y6) (c0 : Cap) (hl : l.length ≤ 1048576) (hy : ∀ y ∈ l, y.2.1.length ≤ 1048576) : ∀ (r : List Y6) (i : Nat) (ws : List (List UInt8)) (cap : Cap) (t : Heap), l.drop i = r → i ≤ l.length → ws.length = i → CapAt 0 cap 1 (strs ws) t →
    JOut [(0, .is (rows6 l) c0)] [(9, .is (rows6 l) c0), (10, .int .i64 l.length), (11, .int .i64 l.length), (12, .bool false)] ws (Brun tab 42 (.loop f11l3) (ofL [(0, .is (rows6 l) c0), (4, .is (strs ws) cap), (9, .is (rows6 l) c0), (10, .int .i64 l.length), (11, .int .i64 i)]) t) (outsY r) := by
  intro r
  induction r with
  | nil =>
    intro i ws cap t hr hi ho hc
    have hlen := congrArg List.length hr
    simp only [List.length_drop, List.length_nil] at hlen
    refine ⟨cap, t, by simpa using hc, ?_⟩
    have e3 : (l.length : Int) = i := by omega
    rw [List.append_nil, Brun_loop]
    clear hr hi hlen hl hy ho hc
    repeat (any_goals first | simp (dsimp := false) (maxSteps := 4000000) (maxDischargeDepth := 8) (implicitDefEqProofs := false) [*, -Int.not_le, -Int.not_lt, amLt, f11c, f11m3, f11r0, f11r1, f11r2, f11r3, f11r4, f11r5, f11r6, f11r7, f11r8, f11r9, f11r10, f11l3_b] | with_reducible refine ch_both (fun _ => ?_) (fun _ => ?_) | with_reducible refine ite_both (fun _ => ?_) (fun _ => ?_) | intro _)
  | cons y r ih =>
    intro i ws cap t hr hi ho hc
    have hlen := congrArg List.length hr
    simp only [List.length_drop, List.length_cons] at hlen
    have hb : l[i]? = some y := by
      have := congrArg (·[0]?) hr
      simpa using this
    have hmem : y ∈ l := List.mem_of_getElem? hb
    have htl : l.drop (i + 1) = r := by
      have := congrArg List.tail hr
      simpa using this
    have hyt := hy y hmem
    have hg : (rows6 l)[i]? = some (row6 y) := by simp [rows6, hb]
    have hW := fun h => write_ok h y.1 y.2.2.1 y.2.2.2.1 y.2.2.2.2.1 y.2.2.2.2.2 y.2.1 hyt
    clear hb hmem
    obtain ⟨k, tx, n, ln, cl, of_⟩ := y
    dsimp only at hg hW hyt
    have hl6 := rows6_len l
    have e3 : ¬ (l.length : Int) ≤ i := by omega
    have hw := w64 i (by omega)
    have hr0 := room0 hc
    have hs0 := spend0 hc
    have hsl := spendAt_len 0 cap t
    have hroom : roomy (ws.length + 1) 16 = true := roomy_small (by omega) (by decide)
    have w1 : IntKind.i64.wrap ((l.length : Int) - 1) = (l.length : Int) - 1 := IntWalk.i64_in _ (by omega)
    unfold row6 at hg
    unfold tokV at hW
    rw [Brun_loop]
    unfold outsY
    dsimp only
    cases hO : outS k tx n with
    | none =>
      simp only [hO, outV] at hW
      refine ⟨t ++ [.cells (row6 (k, tx, n, ln, cl, of_))], ?_⟩
      unfold row6
      clear ih hr hi hlen hl hy ho hc htl hO hyt
      repeat (any_goals first | simp (dsimp := false) (maxSteps := 4000000) (maxDischargeDepth := 8) (implicitDefEqProofs := false) [*, -Int.not_le, -Int.not_lt, amLt, f11c, f11m3, f11r0, f11r1, f11r2, f11r3, f11r4, f11r5, f11r6, f11r7, f11r8, f11r9, f11r10, f11l3_b, app_get, app_get0, app_set, app_set0] | with_reducible refine ch_both (fun _ => ?_) (fun _ => ?_) | with_reducible refine ite_both (fun _ => ?_) (fun _ => ?_) | intro _)
    | some w =>
      simp only [hO, outV] at hW
      dsimp only
      by_cases hk : k = 0 ∧ r ≠ []
      · rw [if_pos hk]
        obtain ⟨hk0, hk1⟩ := hk
        have hlt : (i : Int) < (l.length : Int) - 1 := by
          have := List.length_pos_iff.2 hk1
          omega
        refine ⟨t ++ [.cells (row6 (k, tx, n, ln, cl, of_))], ?_⟩
        unfold row6
        subst hk0
        clear ih hr hi hlen hl hy ho hc htl hO hyt hk1
        repeat (any_goals first | simp (dsimp := false) (maxSteps := 4000000) (maxDischargeDepth := 8) (implicitDefEqProofs := false) [*, -Int.not_le, -Int.not_lt, amLt, f11c, f11m3, f11r0, f11r1, f11r2, f11r3, f11r4, f11r5, f11r6, f11r7, f11r8, f11r9, f11r10, f11l3_b, app_get, app_get0, app_set, app_set0] | with_reducible refine ch_both (fun _ => ?_) (fun _ => ?_) | with_reducible refine ite_both (fun _ => ?_) (fun _ => ?_) | intro _)
      · rw [if_neg hk]
        have key : ∃ X, Brun tab 42 f11l3 (ofL [(0, .is (rows6 l) c0), (4, .is (strs ws) cap), (9, .is (rows6 l) c0), (10, .int .i64 l.length), (11, .int .i64 i)]) t =
            some (.normal, ofL [(0, .is (rows6 l) c0), (4, .is (strs (ws ++ [w])) (.tok (t.length + 1) 1)), (9, .is (rows6 l) c0), (10, .int .i64 l.length), (11, .int .i64 (i + 1))], spendAt 0 cap t ++ [X, .tok]) := by
          refine ⟨.cells (row6 (k, tx, n, ln, cl, of_)), ?_⟩
          rw [← strs_app]
          unfold row6
          by_cases hk0 : k = 0
          · have hlt : ¬ (i : Int) < (l.length : Int) - 1 := by
              have : r = [] := Classical.byContradiction fun q => hk ⟨hk0, q⟩
              subst this
              simp only [List.length_nil] at hlen
              omega
            subst hk0
            clear ih hr hi hlen hl hy ho hc htl hO hyt hk
            repeat (any_goals first | simp (dsimp := false) (maxSteps := 4000000) (maxDischargeDepth := 8) (implicitDefEqProofs := false) [*, -Int.not_le, -Int.not_lt, amLt, f11c, f11m3, f11r0, f11r1, f11r2, f11r3, f11r4, f11r5, f11r6, f11r7, f11r8, f11r9, f11r10, f11l3_b, app_get, app_get0, app_set, app_set0, strs_len] | with_reducible refine ch_both (fun _ => ?_) (fun _ => ?_) | with_reducible refine ite_both (fun _ => ?_) (fun _ => ?_) | intro _)
          · clear ih hr hi hlen hl hy ho hc htl hO hyt hk
            repeat (any_goals first | simp (dsimp := false) (maxSteps := 4000000) (maxDischargeDepth := 8) (implicitDefEqProofs := false) [*, -Int.not_le, -Int.not_lt, amLt, f11c, f11m3, f11r0, f11r1, f11r2, f11r3, f11r4, f11r5, f11r6, f11r7, f11r8, f11r9, f11r10, f11l3_b, app_get, app_get0, app_set, app_set0, strs_len] | with_reducible refine ch_both (fun _ => ?_) (fun _ => ?_) | with_reducible refine ite_both (fun _ => ?_) (fun _ => ?_) | intro _)
        obtain ⟨X, hbd⟩ := key
        have ih2 := ih (i + 1) (ws ++ [w]) (.tok (t.length + 1) 1) (spendAt 0 cap t ++ [X, .tok]) htl (by omega) (by simp; omega) (by
          have := CapAt.new (k := 0) (sz := 1) (rows := strs (ws ++ [w])) (s := spendAt 0 cap t) (r := [X, .tok]) (n := t.length) hsl 1 rfl
          exact this)
        push_cast at ih2
        rw [hbd, bthen_normal]
        cases hR : outsY r with
        | none => rw [hR] at ih2; exact ih2
        | some ws2 =>
          rw [hR] at ih2
          obtain ⟨cap', t', h1, h2⟩ := ih2
          rw [List.append_assoc] at h1 h2
          exact ⟨cap', t', h1, h2⟩
theorem outs_len : ∀ {l : List Y6} {ws : List (List UInt8)}, outsY l = some ws → ws.length = l.length := by
  intro l
  induction l with
  | nil => intro ws h; cases h; rfl
  | cons y r ih =>
    intro ws h
    unfold outsY at h
    split at h
    · cases h
    · split at h
      · cases h
      · obtain ⟨v, h1, rfl⟩ := Option.map_eq_some_iff.1 h
        simp [ih h1]
theorem outs_small : ∀ {l : List Y6} {ws : List (List UInt8)}, (∀ y ∈ l, y.2.1.length ≤ 1048576) → outsY l = some ws → ∀ w ∈ ws, w.length ≤ 4194400 := by
  intro l
  induction l with
  | nil => intro ws _ h; cases h; intro w hw; cases hw
  | cons y r ih =>
    intro ws hy h
    unfold outsY at h
    split at h
    · cases h
    · rename_i w hw
      split at h
      · cases h
      · obtain ⟨v, h1, rfl⟩ := Option.map_eq_some_iff.1 h
        intro x hx
        rcases List.mem_cons.1 hx with rfl | hx
        · exact out_len (hy y (by simp)) hw
        · exact ih (fun z hz => hy z (by simp [hz])) h1 x hx
theorem join_ok (h : Heap) (l : List Y6) (c0 : Cap) (hl : l.length ≤ 1048576) (hy : ∀ y ∈ l, y.2.1.length ≤ 1048576) : Ccall tab 11 [.is (rows6 l) c0] h = some (outV ((outsY l).map joinB), h) := by
  have lp := join_loop l .no hl hy l 0 [] .nil [] rfl (by omega) rfl (CapAt.nil 0 1 [])
  have hl6 := rows6_len l
  refine Ccall_own rfl rfl rfl rfl ?_
  rw [show strs [] = [] from rfl] at lp
  simp only [Int.natCast_zero, List.nil_append] at lp
  cases hO : outsY l with
  | none =>
    rw [hO] at lp
    obtain ⟨t', lp⟩ := lp
    simp only [Option.map_none, outV]
    clear hl hy hO
    repeat (any_goals first | simp (dsimp := false) (maxSteps := 4000000) (maxDischargeDepth := 8) (implicitDefEqProofs := false) [*, -Int.not_le, -Int.not_lt, amLt, f11c, f11m3, f11r0, f11r1, f11r2, f11r3, f11r4, f11r5, f11r6, f11r7, f11r8, f11r9, f11r10, f11l3_b] | with_reducible refine ch_both (fun _ => ?_) (fun _ => ?_) | with_reducible refine ite_both (fun _ => ?_) (fun _ => ?_) | intro _)
  | some ws =>
    rw [hO] at lp
    obtain ⟨cap', t', _, lp⟩ := lp
    simp only [List.nil_append, List.cons_append] at lp
    have hj := fun h cap => sjoin_ok h ws cap (by rw [outs_len hO]; exact hl) (outs_small hy hO)
    simp only [Option.map_some, outV]
    generalize strs ws = rw_ at *
    clear hl hy hO
    repeat (any_goals first | simp (dsimp := false) (maxSteps := 4000000) (maxDischargeDepth := 8) (implicitDefEqProofs := false) [*, -Int.not_le, -Int.not_lt, amLt, f11c, f11m3, f11r0, f11r1, f11r2, f11r3, f11r4, f11r5, f11r6, f11r7, f11r8, f11r9, f11r10, f11l3_b] | with_reducible refine ch_both (fun _ => ?_) (fun _ => ?_) | with_reducible refine ite_both (fun _ => ?_) (fun _ => ?_) | intro _)

end Go.Proofs.YtmpdpjkblcdfkaaGreatDoor
