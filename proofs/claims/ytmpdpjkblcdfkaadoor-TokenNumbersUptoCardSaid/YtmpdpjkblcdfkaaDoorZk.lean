/- Tokens are written. -/
import Derived.Test.YtmpdpjkblcdfkaaDoorZj
import Derived.Test.YtmpdpjkblcdfkaaDoorAmW
namespace Go.Proofs.YtmpdpjkblcdfkaaDoor
open Go.AM
set_option maxRecDepth 20000
set_option maxHeartbeats 4000000
set_option linter.unusedSimpArgs false
set_option linter.unusedVariables false
attribute [local congr] andF_cg onF_cg bthen_cg bkeep_cg bcond_cg guardV_cg putF_cg guardF_cg ite_cg stepsF_cg
attribute [local simp] Brun_skip Brun_exit Brun_ret Brun_seq Brun_cond Brun_block Brun_region bthen_normal bthen_ret bthen_exit bblock_normal bblock_ret bblock_exit bkeep_some andF_some onF_some onF_none guardF_none guardF_some guardV_tup putF_some putF_none stepsF_nil stepsF_cons upd_apply ofL_cons ofL_nil bown_normal bown_ret banswer_normal banswer_ret aresults ares List.replicate stepF_call stepF_callD stepF_move stepF_pick stepF_alloc stepF_allocV stepF_box stepF_boxV stepF_build stepF_buildSlice stepF_buildSliceV stepF_load stepF_store stepF_nilCheck stepF_bin stepF_eq stepF_un stepF_conv stepF_strId strIdV_str strIdV_int stepF_toStr stepF_toBytes stepF_fn stepF_mkSlice stepF_slice stepF_strSlice stepF_fieldAddr stepF_field stepF_idxAddr stepF_idxArr stepF_index stepF_strIndex stepF_extract stepF_len0 stepF_len1 stepF_min stepF_max stepF_append stepF_appendF appF_none appF_row stepF_mkMap stepF_mkIface stepF_lookup stepF_mapUpdate stepF_ext aext_idx aext_count aext_same cellsF newF abin_add abin_sub abin_mul abin_quo abin_rem abin_eql abin_neq abin_lss abin_leq abin_gtr abin_geq abin_and abin_or abin_xor abin_shl abin_shr abin_seql abin_sneq aun_not aun_neg aeq_bool aeq_agg eqCells_nil eqCells_int eqCells_bool eqCells_str cellsOf_agg cellsOf_int cellsOf_bool cellsOf_str cellsOf_is cellsOf_ms cellsOf_fn cellsOf_nilp cellsOf_mp cellsOf_mm cellsOf_nilm cellsOf_nili cellsOf_ifc cellsOf_ip cget_one cget_agg ev_t ev_c fillp_nil fillp_cons isSc_int isSc_bool isSc_str isSc_is isSc_ms isSc_fn isSc_mm isSc_mp isSc_ip isSc_nilp isSc_nilm isSc_nili isSc_nilf isSc_ifc splice chunk strip strip.stripL imm imm.immL Areify_int Areify_bool Areify_str Areify_is Areify_nilp Areify_tup Areify_agg AreifyL andF_chi andF_ch onF_chi onF_ch bthen_ch bthen_chi bblock_ch bblock_chi bkeep_ch bkeep_chi bown_ch bown_chi banswer_ch banswer_chi isSome_ch bcond_ch guardV_ch1 guardV_ch0 chF_true chF_false chF_not
attribute [local simp ↓] andF_some andF_chi andF_ch onF_some onF_none onF_chi onF_ch bthen_normal bthen_ret bthen_exit bthen_ch bthen_chi bblock_normal bblock_ret bblock_exit bblock_ch bblock_chi bkeep_some bkeep_ch bkeep_chi bown_normal bown_ret bown_ch bown_chi banswer_normal banswer_ret banswer_ch banswer_chi bcond_ch guardV_ch1 guardV_ch0 guardV_tup guardF_none guardF_some putF_some putF_none stepsF_nil stepsF_cons chF_true chF_false Brun_seq Brun_cond Brun_block Brun_region Brun_skip Brun_ret Brun_exit stepF_call stepF_callD stepF_move stepF_pick stepF_alloc stepF_allocV stepF_box stepF_boxV stepF_build stepF_buildSlice stepF_buildSliceV stepF_load stepF_store stepF_nilCheck stepF_bin stepF_eq stepF_un stepF_conv stepF_strId stepF_toStr stepF_toBytes stepF_fn stepF_mkSlice stepF_slice stepF_strSlice stepF_fieldAddr stepF_field stepF_idxAddr stepF_idxArr stepF_index stepF_strIndex stepF_extract stepF_len0 stepF_len1 stepF_min stepF_max stepF_append stepF_appendF stepF_mkMap stepF_mkIface stepF_lookup stepF_mapUpdate stepF_ext
set_option maxHeartbeats 2000000
/-- More than one byte behind others. -/
theorem appF_two (slot : Nat) (rows : List (List AV)) (a b : Int) (cap c2 : Cap) (h : Heap) : appF slot 1 1 (.is rows cap) (.is [[.int .u8 a], [.int .u8 b]] c2) h =
    if roomy (rows.length + 2) 1 = true then if roomOK cap 1 rows h = true then newF slot .tok (.is (rows ++ [[.int .u8 a], [.int .u8 b]]) (.tok slot 1)) (spend cap h) else none else none :=
  appF_rows slot 1 1 rows (ys := [[.int .u8 a], [.int .u8 b]]) cap c2 h (by
    intro r hr; simp only [List.mem_cons, List.not_mem_nil, or_false] at hr; rcases hr with rfl | rfl <;> exact ⟨rfl, rfl, rfl, rfl⟩) (by simp)
theorem appF_four (slot : Nat) (rows : List (List AV)) (a b c d : Int) (cap c2 : Cap) (h : Heap) : appF slot 1 1 (.is rows cap) (.is [[.int .u8 a], [.int .u8 b], [.int .u8 c], [.int .u8 d]] c2) h =
    if roomy (rows.length + 4) 1 = true then if roomOK cap 1 rows h = true then newF slot .tok (.is (rows ++ [[.int .u8 a], [.int .u8 b], [.int .u8 c], [.int .u8 d]]) (.tok slot 1)) (spend cap h) else none else none :=
  appF_rows slot 1 1 rows (ys := [[.int .u8 a], [.int .u8 b], [.int .u8 c], [.int .u8 d]]) cap c2 h (by
    intro r hr; simp only [List.mem_cons, List.not_mem_nil, or_false] at hr; rcases hr with rfl | rfl | rfl | rfl <;> exact ⟨rfl, rfl, rfl, rfl⟩) (by simp)
theorem bys_cat (a b : List UInt8) : bys a ++ bys b = bys (a ++ b) := by simp [bys]
theorem oct_bys (c : UInt8) : bys (octS c) = [[AV.int IntKind.u8 92], [AV.int IntKind.u8 (IntKind.u8.wrap (48 + (↑c.toNat : Int).fdiv (2 ^ min 6 IntKind.u8.bits)))], [AV.int IntKind.u8 (IntKind.u8.wrap (48 + andI IntKind.u8 ((↑c.toNat : Int).fdiv (2 ^ min 3 IntKind.u8.bits)) 7))], [AV.int IntKind.u8 (IntKind.u8.wrap (48 + andI IntKind.u8 (↑c.toNat) 7))]] := by
  have h1 := byte_all (p := fun n => decide (((UInt8.ofNat (48 + n / 64)).toNat : Int) = IntKind.u8.wrap (48 + (n : Int).fdiv (2 ^ min 6 IntKind.u8.bits)))) (by decide +kernel) c
  have h2 := byte_all (p := fun n => decide (((UInt8.ofNat (48 + n / 8 % 8)).toNat : Int) = IntKind.u8.wrap (48 + andI IntKind.u8 ((n : Int).fdiv (2 ^ min 3 IntKind.u8.bits)) 7))) (by decide +kernel) c
  have h3 := byte_all (p := fun n => decide (((UInt8.ofNat (48 + n % 8)).toNat : Int) = IntKind.u8.wrap (48 + andI IntKind.u8 (n : Int) 7))) (by decide +kernel) c
  simp only [decide_eq_true_eq] at h1 h2 h3
  rw [← h1, ← h2, ← h3]
  rfl
theorem quote_body (s : List UInt8) (hs : s.length ≤ 16777216) (q c : UInt8) (i : Nat) (out : List UInt8) (cap : Cap) (t : Heap) (hb : s[i]? = some c) (hi : i < s.length) (ho : out.length ≤ 4 * i + 1) (hc : CapAt 0 cap 1 (bys out) t) :
    Brun tab 66 f55l3 (ofL [(0, .str s), (1, .int .u8 q.toNat), (5, .is (bys out) cap), (11, .int .i64 s.length), (12, .int .i64 i)]) t =
      some (.normal, ofL [(0, .str s), (1, .int .u8 q.toNat), (5, .is (bys (out ++ insB q c)) (.tok t.length 1)), (11, .int .i64 s.length), (12, .int .i64 (i + 1))], spendAt 0 cap t ++ [.tok]) := by
  have e3 : ¬ (s.length : Int) ≤ i := by omega
  have hw := w64 i (by omega)
  have hr0 := room0 hc
  have hs0 := spend0 hc
  have hsl := spendAt_len 0 cap t
  have hroom1 : roomy (out.length + 1) 1 = true := roomy_small (by omega) (by decide)
  have hroom2 : roomy (out.length + 2) 1 = true := roomy_small (by omega) (by decide)
  have hroom4 : roomy (out.length + 4) 1 = true := roomy_small (by omega) (by decide)
  rw [← bys_cat]
  unfold insB
  by_cases h10 : c = 10
  · rw [if_pos h10]
    subst h10
    rw [show bys [92, 110] = [[.int .u8 92], [.int .u8 110]] from rfl]
    clear hs hi ho hc
    repeat (any_goals first | simp (dsimp := false) (maxSteps := 4000000) (maxDischargeDepth := 8) (implicitDefEqProofs := false) [*, -Int.not_le, -Int.not_lt, amLt, f55c, f55m3, f55r0, f55r1, f55r2, f55r3, f55r4, f55r5, f55r6, f55r7, f55r8, f55r9, f55r10, f55r11, f55r12, f55r13, f55r14, f55l3_b, bys_len, app_get, app_get0, app_set, app_set0, appF_two] | with_reducible refine ch_both (fun _ => ?_) (fun _ => ?_) | with_reducible refine ite_both (fun _ => ?_) (fun _ => ?_) | intro _)
  · have h10' : ¬ (c.toNat : Int) = 10 := fun h => h10 (UInt8.toNat_inj.1 (by show c.toNat = 10; omega))
    rw [if_neg h10]
    by_cases hq : c = q ∨ c = 92
    · rw [if_pos hq, show bys [92, c] = [[.int .u8 92], [.int .u8 c.toNat]] from rfl]
      by_cases hcq : c = q
      · subst hcq
        clear hs hi ho hc hq
        repeat (any_goals first | simp (dsimp := false) (maxSteps := 4000000) (maxDischargeDepth := 8) (implicitDefEqProofs := false) [*, -Int.not_le, -Int.not_lt, amLt, f55c, f55m3, f55r0, f55r1, f55r2, f55r3, f55r4, f55r5, f55r6, f55r7, f55r8, f55r9, f55r10, f55r11, f55r12, f55r13, f55r14, f55l3_b, bys_len, app_get, app_get0, app_set, app_set0, appF_two] | with_reducible refine ch_both (fun _ => ?_) (fun _ => ?_) | with_reducible refine ite_both (fun _ => ?_) (fun _ => ?_) | intro _)
      · have hcq' : ¬ (c.toNat : Int) = q.toNat := fun h => hcq ((u8_inj c q).1 h)
        have h92 : (c.toNat : Int) = 92 := by rcases hq with h | h; exact absurd h hcq; rw [h]; rfl
        clear hs hi ho hc hq hcq h10
        repeat (any_goals first | simp (dsimp := false) (maxSteps := 4000000) (maxDischargeDepth := 8) (implicitDefEqProofs := false) [*, -Int.not_le, -Int.not_lt, amLt, f55c, f55m3, f55r0, f55r1, f55r2, f55r3, f55r4, f55r5, f55r6, f55r7, f55r8, f55r9, f55r10, f55r11, f55r12, f55r13, f55r14, f55l3_b, bys_len, app_get, app_get0, app_set, app_set0, appF_two] | with_reducible refine ch_both (fun _ => ?_) (fun _ => ?_) | with_reducible refine ite_both (fun _ => ?_) (fun _ => ?_) | intro _)
    · have hcq' : ¬ (c.toNat : Int) = q.toNat := fun h => hq (.inl ((u8_inj c q).1 h))
      have h92 : ¬ (c.toNat : Int) = 92 := fun h => hq (.inr (UInt8.toNat_inj.1 (by show c.toNat = 92; omega)))
      rw [if_neg hq]
      by_cases h3 : 32 ≤ c.toNat ∧ c.toNat ≤ 126
      · have h3a : (32 : Int) ≤ c.toNat := by omega
        have h3b : (c.toNat : Int) ≤ 126 := by omega
        rw [if_pos h3, show bys [c] = [[.int .u8 c.toNat]] from rfl]
        clear hs hi ho hc hq h10 h3
        repeat (any_goals first | simp (dsimp := false) (maxSteps := 4000000) (maxDischargeDepth := 8) (implicitDefEqProofs := false) [*, -Int.not_le, -Int.not_lt, amLt, f55c, f55m3, f55r0, f55r1, f55r2, f55r3, f55r4, f55r5, f55r6, f55r7, f55r8, f55r9, f55r10, f55r11, f55r12, f55r13, f55r14, f55l3_b, bys_len, app_get, app_get0, app_set, app_set0] | with_reducible refine ch_both (fun _ => ?_) (fun _ => ?_) | with_reducible refine ite_both (fun _ => ?_) (fun _ => ?_) | intro _)
      · rw [if_neg h3]
        rw [oct_bys]
        by_cases h3a : (32 : Int) ≤ c.toNat
        · have h3b : ¬ (c.toNat : Int) ≤ 126 := by omega
          clear hs hi ho hc hq h10 h3
          repeat (any_goals first | simp (dsimp := false) (maxSteps := 4000000) (maxDischargeDepth := 8) (implicitDefEqProofs := false) [*, -Int.not_le, -Int.not_lt, amLt, f55c, f55m3, f55r0, f55r1, f55r2, f55r3, f55r4, f55r5, f55r6, f55r7, f55r8, f55r9, f55r10, f55r11, f55r12, f55r13, f55r14, f55l3_b, bys_len, app_get, app_get0, app_set, app_set0, appF_four] | with_reducible refine ch_both (fun _ => ?_) (fun _ => ?_) | with_reducible refine ite_both (fun _ => ?_) (fun _ => ?_) | intro _)
        · clear hs hi ho hc hq h10 h3
          repeat (any_goals first | simp (dsimp := false) (maxSteps := 4000000) (maxDischargeDepth := 8) (implicitDefEqProofs := false) [*, -Int.not_le, -Int.not_lt, amLt, f55c, f55m3, f55r0, f55r1, f55r2, f55r3, f55r4, f55r5, f55r6, f55r7, f55r8, f55r9, f55r10, f55r11, f55r12, f55r13, f55r14, f55l3_b, bys_len, app_get, app_get0, app_set, app_set0, appF_four] | with_reducible refine ch_both (fun _ => ?_) (fun _ => ?_) | with_reducible refine ite_both (fun _ => ?_) (fun _ => ?_) | intro _)
theorem insB_len (q c : UInt8) : (insB q c).length ≤ 4 := by
  unfold insB octS
  split
  · simp
  · split
    · simp
    · split <;> simp
theorem quote_loop (s : List UInt8) (hs : s.length ≤ 16777216) (q : UInt8) : ∀ (r : List UInt8) (i : Nat) (out : List UInt8) (cap : Cap) (t : Heap), s.drop i = r → i ≤ s.length → out.length ≤ 4 * i + 1 → CapAt 0 cap 1 (bys out) t →
    ∃ cap' t', CapAt 0 cap' 1 (bys (out ++ ins q r)) t' ∧ (out ++ ins q r).length ≤ 4 * s.length + 1 ∧ Brun tab 66 (.loop f55l3) (ofL [(0, .str s), (1, .int .u8 q.toNat), (5, .is (bys out) cap), (11, .int .i64 s.length), (12, .int .i64 i)]) t =
      some (.exit 0, ofL [(0, .str s), (1, .int .u8 q.toNat), (5, .is (bys (out ++ ins q r)) cap'), (11, .int .i64 s.length), (12, .int .i64 s.length), (13, .bool false)], t') := by
  intro r
  induction r with
  | nil =>
    intro i out cap t hr hi ho hc
    have hlen := congrArg List.length hr
    simp only [List.length_drop, List.length_nil] at hlen
    refine ⟨cap, t, by simpa [ins] using hc, by simp [ins]; omega, ?_⟩
    have e3 : (s.length : Int) = i := by omega
    rw [show out ++ ins q [] = out by simp [ins], Brun_loop]
    clear hr hi hlen hs ho hc
    repeat (any_goals first | simp (dsimp := false) (maxSteps := 4000000) (maxDischargeDepth := 8) (implicitDefEqProofs := false) [*, -Int.not_le, -Int.not_lt, amLt, f55c, f55m3, f55r0, f55r1, f55r2, f55r3, f55r4, f55r5, f55r6, f55r7, f55r8, f55r9, f55r10, f55r11, f55r12, f55r13, f55r14, f55l3_b] | with_reducible refine ch_both (fun _ => ?_) (fun _ => ?_) | with_reducible refine ite_both (fun _ => ?_) (fun _ => ?_) | intro _)
  | cons c r ih =>
    intro i out cap t hr hi ho hc
    have hlen := congrArg List.length hr
    simp only [List.length_drop, List.length_cons] at hlen
    have hb : s[i]? = some c := by
      have := congrArg (·[0]?) hr
      simpa using this
    have htl : s.drop (i + 1) = r := by
      have := congrArg List.tail hr
      simpa using this
    have hbd := quote_body s hs q c i out cap t hb (by omega) ho hc
    have hsl := spendAt_len 0 cap t
    have h4 := insB_len q c
    obtain ⟨cap', t', h1, h2, h3⟩ := ih (i + 1) (out ++ insB q c) (.tok t.length 1) (spendAt 0 cap t ++ [.tok]) htl (by omega) (by simp only [List.length_append]; omega) (CapAt.new (k := 0) (j := 0) hsl rfl)
    have e : out ++ insB q c ++ ins q r = out ++ ins q (c :: r) := by simp [ins]
    rw [e] at h1 h2 h3
    refine ⟨cap', t', h1, h2, ?_⟩
    push_cast at h3
    rw [Brun_loop, hbd, bthen_normal]
    exact h3
theorem quote_ok (h : Heap) (s : List UInt8) (hs : s.length ≤ 16777216) (q : UInt8) : Ccall tab 55 [.str s, .int .u8 q.toNat] h = some (.str (quoteS q s), h) := by
  obtain ⟨cap', t', hc, hl, lp⟩ := quote_loop s hs q s 0 [q] .full [] rfl (by omega) (by simp) ⟨rfl, rfl⟩
  refine Ccall_own rfl rfl rfl rfl ?_
  have hr0 := room0 hc
  have hs0 := spend0 hc
  have hsl := spendAt_len 0 cap' t'
  have hroom : roomy (([q] ++ ins q s).length + 1) 1 = true := roomy_small (by omega) (by decide)
  have e : quoteS q s = ([q] ++ ins q s) ++ [q] := by simp [quoteS]
  have hby := bys_app ([q] ++ ins q s) q
  have e0 : bys [q] = [[.int .u8 q.toNat]] := rfl
  have hsc := fun c h => scells_bys ([q] ++ ins q s ++ [q]) c h
  have hss := fun c => ssz_bys ([q] ++ ins q s ++ [q]) c
  have hbo := bytesOf_of ([q] ++ ins q s ++ [q])
  rw [e0] at lp
  rw [e]
  simp only [Int.natCast_zero] at lp
  generalize [q] ++ ins q s = o at *
  clear hs hc hl e e0
  repeat (any_goals first | simp (dsimp := false) (maxSteps := 4000000) (maxDischargeDepth := 8) (implicitDefEqProofs := false) [*, -Int.not_le, -Int.not_lt, amLt, f55c, f55m3, f55r0, f55r1, f55r2, f55r3, f55r4, f55r5, f55r6, f55r7, f55r8, f55r9, f55r10, f55r11, f55r12, f55r13, f55r14, f55l3_b, bys_len, app_get, app_get0, app_set, app_set0] | with_reducible refine ch_both (fun _ => ?_) (fun _ => ?_) | with_reducible refine ite_both (fun _ => ?_) (fun _ => ?_) | intro _)
theorem suffix_ok' (h : Heap) (s p : List UInt8) (hs : s.length ≤ 16777216) : Ccall tab 66 [.str s, .str p] h = some (.bool (hasSuf p s), h) := by
  refine Ccall_own rfl rfl rfl rfl ?_
  by_cases q : p.length ≤ s.length
  · have q1 : (p.length : Int) ≤ s.length := by omega
    have hw : IntKind.i64.wrap ((s.length : Int) - p.length) = ((s.length - p.length : Nat) : Int) := by rw [IntWalk.i64_in _ (by omega)]; omega
    have q2 : ((s.length - p.length : Nat) : Int) ≤ s.length := by omega
    have q3 : hasSuf p s = decide (s.drop (s.length - p.length) = p) := by simp [hasSuf, q]
    rw [q3]
    generalize s.length - p.length = k at *
    clear hs q3
    repeat (any_goals first | simp (dsimp := false) (maxSteps := 4000000) (maxDischargeDepth := 8) (implicitDefEqProofs := false) [*, -Int.not_le, -Int.not_lt, amLt, f66c, f66r0, f66r1, obound_some, obound_none, abound_int] | with_reducible refine ch_both (fun _ => ?_) (fun _ => ?_) | with_reducible refine ite_both (fun _ => ?_) (fun _ => ?_) | intro _)
  · have q1 : ¬ (p.length : Int) ≤ s.length := by omega
    have q2 : hasSuf p s = false := by simp [hasSuf, q]
    clear hs
    repeat (any_goals first | simp (dsimp := false) (maxSteps := 4000000) (maxDischargeDepth := 8) (implicitDefEqProofs := false) [*, -Int.not_le, -Int.not_lt, amLt, f66c, f66r0, f66r1, obound_some, obound_none, abound_int] | with_reducible refine ch_both (fun _ => ?_) (fun _ => ?_) | with_reducible refine ite_both (fun _ => ?_) (fun _ => ?_) | intro _)
theorem suffix_ok (h : Heap) (s p : List UInt8) (hs : s.length ≤ 16777216) : Ccall tab 53 [.str s, .str p] h = some (.bool (hasSuf p s), h) := by
  have hp := fun h => suffix_ok' h s p hs
  refine Ccall_own rfl rfl rfl rfl ?_
  clear hs
  repeat (any_goals first | simp (dsimp := false) (maxSteps := 4000000) (maxDischargeDepth := 8) (implicitDefEqProofs := false) [*, -Int.not_le, -Int.not_lt, amLt, f53c, f53r0, f53r1] | with_reducible refine ch_both (fun _ => ?_) (fun _ => ?_) | with_reducible refine ite_both (fun _ => ?_) (fun _ => ?_) | intro _)
theorem may32_ok (h : Heap) (k n l c o : Int) (t : List UInt8) : Ccall tab 52 [tokV k t n l c o] h = some (.bool (mayN t n), h) := by
  unfold tokV mayN
  refine Ccall_own rfl rfl rfl rfl ?_
  have e1 : typT false false = [105, 110, 116] := rfl
  have e2 : typT false true = [108, 111, 110, 103] := rfl
  have e3 : typT true false = [117, 110, 115, 105, 103, 110, 101, 100, 32, 105, 110, 116] := rfl
  have e4 : typT true true = [117, 110, 115, 105, 103, 110, 101, 100, 32, 108, 111, 110, 103] := rfl
  rw [e1, e2, e3, e4]
  clear e1 e2 e3 e4
  have hb : ∀ a b : Int, decide (a ≤ n ∧ n ≤ b) = (decide (a ≤ n) && decide (n ≤ b)) := by intro a b; simp
  rw [hb, hb]
  by_cases h1 : t = [105, 110, 116]
  · subst h1
    rw [if_pos (.inl rfl)]
    clear hb
    by_cases h0 : (0 : Int) ≤ n
    · repeat (any_goals first | simp (dsimp := false) (maxSteps := 4000000) (maxDischargeDepth := 8) (implicitDefEqProofs := false) [*, -Int.not_le, -Int.not_lt, amLt, f52c, f52r0, f52r1, f52r2, f52r3, f52r4, f52r5, f52r6, f52r7, f52r8] | with_reducible refine ch_both (fun _ => ?_) (fun _ => ?_) | with_reducible refine ite_both (fun _ => ?_) (fun _ => ?_) | intro _)
    · repeat (any_goals first | simp (dsimp := false) (maxSteps := 4000000) (maxDischargeDepth := 8) (implicitDefEqProofs := false) [*, -Int.not_le, -Int.not_lt, amLt, f52c, f52r0, f52r1, f52r2, f52r3, f52r4, f52r5, f52r6, f52r7, f52r8] | with_reducible refine ch_both (fun _ => ?_) (fun _ => ?_) | with_reducible refine ite_both (fun _ => ?_) (fun _ => ?_) | intro _)
  · by_cases h2 : t = [108, 111, 110, 103]
    · subst h2
      rw [if_pos (.inr rfl)]
      clear hb h1
      by_cases h0 : (0 : Int) ≤ n
      · repeat (any_goals first | simp (dsimp := false) (maxSteps := 4000000) (maxDischargeDepth := 8) (implicitDefEqProofs := false) [*, -Int.not_le, -Int.not_lt, amLt, f52c, f52r0, f52r1, f52r2, f52r3, f52r4, f52r5, f52r6, f52r7, f52r8] | with_reducible refine ch_both (fun _ => ?_) (fun _ => ?_) | with_reducible refine ite_both (fun _ => ?_) (fun _ => ?_) | intro _)
      · repeat (any_goals first | simp (dsimp := false) (maxSteps := 4000000) (maxDischargeDepth := 8) (implicitDefEqProofs := false) [*, -Int.not_le, -Int.not_lt, amLt, f52c, f52r0, f52r1, f52r2, f52r3, f52r4, f52r5, f52r6, f52r7, f52r8] | with_reducible refine ch_both (fun _ => ?_) (fun _ => ?_) | with_reducible refine ite_both (fun _ => ?_) (fun _ => ?_) | intro _)
    · rw [if_neg (by rintro (h | h); exact h1 h; exact h2 h)]
      by_cases h3 : t = [117, 110, 115, 105, 103, 110, 101, 100, 32, 105, 110, 116]
      · subst h3
        rw [if_pos (.inl rfl)]
        clear hb h1 h2
        by_cases h0 : (0 : Int) ≤ n
        · repeat (any_goals first | simp (dsimp := false) (maxSteps := 4000000) (maxDischargeDepth := 8) (implicitDefEqProofs := false) [*, -Int.not_le, -Int.not_lt, amLt, f52c, f52r0, f52r1, f52r2, f52r3, f52r4, f52r5, f52r6, f52r7, f52r8] | with_reducible refine ch_both (fun _ => ?_) (fun _ => ?_) | with_reducible refine ite_both (fun _ => ?_) (fun _ => ?_) | intro _)
        · repeat (any_goals first | simp (dsimp := false) (maxSteps := 4000000) (maxDischargeDepth := 8) (implicitDefEqProofs := false) [*, -Int.not_le, -Int.not_lt, amLt, f52c, f52r0, f52r1, f52r2, f52r3, f52r4, f52r5, f52r6, f52r7, f52r8] | with_reducible refine ch_both (fun _ => ?_) (fun _ => ?_) | with_reducible refine ite_both (fun _ => ?_) (fun _ => ?_) | intro _)
      · by_cases h4 : t = [117, 110, 115, 105, 103, 110, 101, 100, 32, 108, 111, 110, 103]
        · subst h4
          rw [if_pos (.inr rfl)]
          clear hb h1 h2 h3
          by_cases h0 : (0 : Int) ≤ n
          · repeat (any_goals first | simp (dsimp := false) (maxSteps := 4000000) (maxDischargeDepth := 8) (implicitDefEqProofs := false) [*, -Int.not_le, -Int.not_lt, amLt, f52c, f52r0, f52r1, f52r2, f52r3, f52r4, f52r5, f52r6, f52r7, f52r8] | with_reducible refine ch_both (fun _ => ?_) (fun _ => ?_) | with_reducible refine ite_both (fun _ => ?_) (fun _ => ?_) | intro _)
          · repeat (any_goals first | simp (dsimp := false) (maxSteps := 4000000) (maxDischargeDepth := 8) (implicitDefEqProofs := false) [*, -Int.not_le, -Int.not_lt, amLt, f52c, f52r0, f52r1, f52r2, f52r3, f52r4, f52r5, f52r6, f52r7, f52r8] | with_reducible refine ch_both (fun _ => ?_) (fun _ => ?_) | with_reducible refine ite_both (fun _ => ?_) (fun _ => ?_) | intro _)
        · rw [if_neg (by rintro (h | h); exact h3 h; exact h4 h)]
          clear hb
          repeat (any_goals first | simp (dsimp := false) (maxSteps := 4000000) (maxDischargeDepth := 8) (implicitDefEqProofs := false) [*, -Int.not_le, -Int.not_lt, amLt, f52c, f52r0, f52r1, f52r2, f52r3, f52r4, f52r5, f52r6, f52r7, f52r8] | with_reducible refine ch_both (fun _ => ?_) (fun _ => ?_) | with_reducible refine ite_both (fun _ => ?_) (fun _ => ?_) | intro _)
theorem may_ok (h : Heap) (k n : Int) (t : List UInt8) (ht : t.length ≤ 1048576) : Ccall tab 32 [tokV k t n 0 0 0] h = some (.bool (mayS k t n), h) := by
  have hn := fun h => name_ok h t ht
  have hw := fun h => word_ok h t ht
  have h32 := fun h => may32_ok h k n 0 0 0 t
  unfold tokV at h32 ⊢
  unfold mayS
  refine Ccall_own rfl rfl rfl rfl ?_
  by_cases k0 : k = 0
  · subst k0
    rw [if_pos rfl]
    clear ht hn hw h32
    by_cases h1 : t = []
    · by_cases h2 : n = 0
      · repeat (any_goals first | simp (dsimp := false) (maxSteps := 4000000) (maxDischargeDepth := 8) (implicitDefEqProofs := false) [*, -Int.not_le, -Int.not_lt, amLt, f32c, f32r0, f32r1, f32r2, f32r3, f32r4, f32r5, f32r6, f32r7, f32r8, f32r9, f51_p, f32q15, f32r10, f32r11, f32r12, f32r13, f32r14, f32r16, f32r15_u, f32r15_w] | with_reducible refine ch_both (fun _ => ?_) (fun _ => ?_) | with_reducible refine ite_both (fun _ => ?_) (fun _ => ?_) | intro _)
      · repeat (any_goals first | simp (dsimp := false) (maxSteps := 4000000) (maxDischargeDepth := 8) (implicitDefEqProofs := false) [*, -Int.not_le, -Int.not_lt, amLt, f32c, f32r0, f32r1, f32r2, f32r3, f32r4, f32r5, f32r6, f32r7, f32r8, f32r9, f51_p, f32q15, f32r10, f32r11, f32r12, f32r13, f32r14, f32r16, f32r15_u, f32r15_w] | with_reducible refine ch_both (fun _ => ?_) (fun _ => ?_) | with_reducible refine ite_both (fun _ => ?_) (fun _ => ?_) | intro _)
    · repeat (any_goals first | simp (dsimp := false) (maxSteps := 4000000) (maxDischargeDepth := 8) (implicitDefEqProofs := false) [*, -Int.not_le, -Int.not_lt, amLt, f32c, f32r0, f32r1, f32r2, f32r3, f32r4, f32r5, f32r6, f32r7, f32r8, f32r9, f51_p, f32q15, f32r10, f32r11, f32r12, f32r13, f32r14, f32r16, f32r15_u, f32r15_w] | with_reducible refine ch_both (fun _ => ?_) (fun _ => ?_) | with_reducible refine ite_both (fun _ => ?_) (fun _ => ?_) | intro _)
  · rw [if_neg k0]
    by_cases k1 : k = 1
    · subst k1
      rw [if_pos rfl]
      clear ht hw h32
      by_cases h2 : n = 0
      · repeat (any_goals first | simp (dsimp := false) (maxSteps := 4000000) (maxDischargeDepth := 8) (implicitDefEqProofs := false) [*, -Int.not_le, -Int.not_lt, amLt, f32c, f32r0, f32r1, f32r2, f32r3, f32r4, f32r5, f32r6, f32r7, f32r8, f32r9, f51_p, f32q15, f32r10, f32r11, f32r12, f32r13, f32r14, f32r16, f32r15_u, f32r15_w] | with_reducible refine ch_both (fun _ => ?_) (fun _ => ?_) | with_reducible refine ite_both (fun _ => ?_) (fun _ => ?_) | intro _)
      · repeat (any_goals first | simp (dsimp := false) (maxSteps := 4000000) (maxDischargeDepth := 8) (implicitDefEqProofs := false) [*, -Int.not_le, -Int.not_lt, amLt, f32c, f32r0, f32r1, f32r2, f32r3, f32r4, f32r5, f32r6, f32r7, f32r8, f32r9, f51_p, f32q15, f32r10, f32r11, f32r12, f32r13, f32r14, f32r16, f32r15_u, f32r15_w] | with_reducible refine ch_both (fun _ => ?_) (fun _ => ?_) | with_reducible refine ite_both (fun _ => ?_) (fun _ => ?_) | intro _)
    · rw [if_neg k1]
      by_cases k2 : k = 2
      · subst k2
        rw [if_pos rfl]
        clear ht hn h32
        by_cases h2 : n = 0
        · repeat (any_goals first | simp (dsimp := false) (maxSteps := 4000000) (maxDischargeDepth := 8) (implicitDefEqProofs := false) [*, -Int.not_le, -Int.not_lt, amLt, f32c, f32r0, f32r1, f32r2, f32r3, f32r4, f32r5, f32r6, f32r7, f32r8, f32r9, f51_p, f32q15, f32r10, f32r11, f32r12, f32r13, f32r14, f32r16, f32r15_u, f32r15_w] | with_reducible refine ch_both (fun _ => ?_) (fun _ => ?_) | with_reducible refine ite_both (fun _ => ?_) (fun _ => ?_) | intro _)
        · repeat (any_goals first | simp (dsimp := false) (maxSteps := 4000000) (maxDischargeDepth := 8) (implicitDefEqProofs := false) [*, -Int.not_le, -Int.not_lt, amLt, f32c, f32r0, f32r1, f32r2, f32r3, f32r4, f32r5, f32r6, f32r7, f32r8, f32r9, f51_p, f32q15, f32r10, f32r11, f32r12, f32r13, f32r14, f32r16, f32r15_u, f32r15_w] | with_reducible refine ch_both (fun _ => ?_) (fun _ => ?_) | with_reducible refine ite_both (fun _ => ?_) (fun _ => ?_) | intro _)
      · rw [if_neg k2]
        by_cases k3 : k = 3
        · subst k3
          rw [if_pos rfl]
          clear ht hn hw
          repeat (any_goals first | simp (dsimp := false) (maxSteps := 4000000) (maxDischargeDepth := 8) (implicitDefEqProofs := false) [*, -Int.not_le, -Int.not_lt, amLt, f32c, f32r0, f32r1, f32r2, f32r3, f32r4, f32r5, f32r6, f32r7, f32r8, f32r9, f51_p, f32q15, f32r10, f32r11, f32r12, f32r13, f32r14, f32r16, f32r15_u, f32r15_w] | with_reducible refine ch_both (fun _ => ?_) (fun _ => ?_) | with_reducible refine ite_both (fun _ => ?_) (fun _ => ?_) | intro _)
        · rw [if_neg k3]
          by_cases k4 : k = 4
          · subst k4
            rw [if_pos rfl]
            clear ht hn hw h32
            by_cases h1 : t = []
            · by_cases h2 : -128 ≤ n
              · repeat (any_goals first | simp (dsimp := false) (maxSteps := 4000000) (maxDischargeDepth := 8) (implicitDefEqProofs := false) [*, -Int.not_le, -Int.not_lt, amLt, f32c, f32r0, f32r1, f32r2, f32r3, f32r4, f32r5, f32r6, f32r7, f32r8, f32r9, f51_p, f32q15, f32r10, f32r11, f32r12, f32r13, f32r14, f32r16, f32r15_u, f32r15_w] | with_reducible refine ch_both (fun _ => ?_) (fun _ => ?_) | with_reducible refine ite_both (fun _ => ?_) (fun _ => ?_) | intro _)
              · repeat (any_goals first | simp (dsimp := false) (maxSteps := 4000000) (maxDischargeDepth := 8) (implicitDefEqProofs := false) [*, -Int.not_le, -Int.not_lt, amLt, f32c, f32r0, f32r1, f32r2, f32r3, f32r4, f32r5, f32r6, f32r7, f32r8, f32r9, f51_p, f32q15, f32r10, f32r11, f32r12, f32r13, f32r14, f32r16, f32r15_u, f32r15_w] | with_reducible refine ch_both (fun _ => ?_) (fun _ => ?_) | with_reducible refine ite_both (fun _ => ?_) (fun _ => ?_) | intro _)
            · repeat (any_goals first | simp (dsimp := false) (maxSteps := 4000000) (maxDischargeDepth := 8) (implicitDefEqProofs := false) [*, -Int.not_le, -Int.not_lt, amLt, f32c, f32r0, f32r1, f32r2, f32r3, f32r4, f32r5, f32r6, f32r7, f32r8, f32r9, f51_p, f32q15, f32r10, f32r11, f32r12, f32r13, f32r14, f32r16, f32r15_u, f32r15_w] | with_reducible refine ch_both (fun _ => ?_) (fun _ => ?_) | with_reducible refine ite_both (fun _ => ?_) (fun _ => ?_) | intro _)
          · rw [if_neg k4]
            by_cases k5 : k = 5
            · subst k5
              rw [if_pos rfl]
              clear ht hn hw h32
              repeat (any_goals first | simp (dsimp := false) (maxSteps := 4000000) (maxDischargeDepth := 8) (implicitDefEqProofs := false) [*, -Int.not_le, -Int.not_lt, amLt, f32c, f32r0, f32r1, f32r2, f32r3, f32r4, f32r5, f32r6, f32r7, f32r8, f32r9, f51_p, f32q15, f32r10, f32r11, f32r12, f32r13, f32r14, f32r16, f32r15_u, f32r15_w] | with_reducible refine ch_both (fun _ => ?_) (fun _ => ?_) | with_reducible refine ite_both (fun _ => ?_) (fun _ => ?_) | intro _)
            · rw [if_neg k5]
              by_cases k6 : k = 6
              · subst k6
                rw [if_pos rfl]
                clear hn hw h32
                by_cases h2 : n = 0
                · by_cases h1 : t = []
                  · clear ht
                    repeat (any_goals first | simp (dsimp := false) (maxSteps := 4000000) (maxDischargeDepth := 8) (implicitDefEqProofs := false) [*, -Int.not_le, -Int.not_lt, amLt, f32c, f32r0, f32r1, f32r2, f32r3, f32r4, f32r5, f32r6, f32r7, f32r8, f32r9, f51_p, f32q15, f32r10, f32r11, f32r12, f32r13, f32r14, f32r16, f32r15_u, f32r15_w] | with_reducible refine ch_both (fun _ => ?_) (fun _ => ?_) | with_reducible refine ite_both (fun _ => ?_) (fun _ => ?_) | intro _)
                  · obtain ⟨b, r, rfl⟩ := List.exists_cons_of_ne_nil h1
                    have hsg := fun h => sign_ok h (b :: r) b rfl (by omega)
                    generalize b :: r = t at *
                    clear ht
                    repeat (any_goals first | simp (dsimp := false) (maxSteps := 4000000) (maxDischargeDepth := 8) (implicitDefEqProofs := false) [*, -Int.not_le, -Int.not_lt, amLt, f32c, f32r0, f32r1, f32r2, f32r3, f32r4, f32r5, f32r6, f32r7, f32r8, f32r9, f51_p, f32q15, f32r10, f32r11, f32r12, f32r13, f32r14, f32r16, f32r15_u, f32r15_w] | with_reducible refine ch_both (fun _ => ?_) (fun _ => ?_) | with_reducible refine ite_both (fun _ => ?_) (fun _ => ?_) | intro _)
                · clear ht
                  repeat (any_goals first | simp (dsimp := false) (maxSteps := 4000000) (maxDischargeDepth := 8) (implicitDefEqProofs := false) [*, -Int.not_le, -Int.not_lt, amLt, f32c, f32r0, f32r1, f32r2, f32r3, f32r4, f32r5, f32r6, f32r7, f32r8, f32r9, f51_p, f32q15, f32r10, f32r11, f32r12, f32r13, f32r14, f32r16, f32r15_u, f32r15_w] | with_reducible refine ch_both (fun _ => ?_) (fun _ => ?_) | with_reducible refine ite_both (fun _ => ?_) (fun _ => ?_) | intro _)
              · rw [if_neg k6]
                clear ht hn hw h32
                repeat (any_goals first | simp (dsimp := false) (maxSteps := 4000000) (maxDischargeDepth := 8) (implicitDefEqProofs := false) [*, -Int.not_le, -Int.not_lt, amLt, f32c, f32r0, f32r1, f32r2, f32r3, f32r4, f32r5, f32r6, f32r7, f32r8, f32r9, f51_p, f32q15, f32r10, f32r11, f32r12, f32r13, f32r14, f32r16, f32r15_u, f32r15_w] | with_reducible refine ch_both (fun _ => ?_) (fun _ => ?_) | with_reducible refine ite_both (fun _ => ?_) (fun _ => ?_) | intro _)
theorem nDig_le (n : Nat) : Go.Lib.nDigits n ≤ n + 1 := by
  induction n using Nat.strongRecOn with
  | _ n ih =>
    by_cases h : n < 10
    · rw [Go.Lib.nDigits_small h]; omega
    · rw [Go.Lib.nDigits_big h]
      have := ih (n / 10) (by omega)
      omega
theorem itoa_ok (h : Heap) (n : Int) (h0 : 0 ≤ n) (h1 : n ≤ 4294967295) : Ccall tab 54 [.int .i64 n] h = some (.str (Go.Lib.itoa n), h) := by
  refine Ccall_ext (F := libItoa) rfl rfl rfl rfl ?_
  simp only [strip.stripL, strip, libItoa]
  rw [if_pos ⟨by omega, by omega⟩]
theorem itoa_len {n : Int} (h0 : 0 ≤ n) (h1 : n ≤ 4294967295) : (Go.Lib.itoa n).length ≤ 4294967296 := by
  rw [itoa_dec h0, Go.Lib.decDigits_length]
  have := nDig_le n.toNat
  omega
theorem str_add {a b : List UInt8} (h : a.length + b.length ≤ 9223372036854775807) : abin .add (.str a) (.str b) = some (.str (a ++ b)) := by
  simp only [abin]
  rw [if_pos h]
theorem written_ok (h : Heap) (k n : Int) (t : List UInt8) (ht : t.length ≤ 1048576) (hm : mayS k t n = true) : Ccall tab 33 [tokV k t n 0 0 0] h = some (.str (writtenS k t n), h) := by
  unfold tokV writtenS
  refine Ccall_own rfl rfl rfl rfl ?_
  by_cases k3 : k = 3
  · subst k3
    rw [if_pos rfl]
    have hN : mayN t n = true := by simpa [mayS] using hm
    obtain ⟨u, l, e, h0, h1, _⟩ := mayN_inv hN
    have hp := fun h => prefix_ok h t unsP (by omega)
    have hs := fun h => suffix_ok h t longP (by omega)
    have hi := fun h => itoa_ok h n h0 h1
    have hil := itoa_len h0 h1
    have a0 := str_add (a := Go.Lib.itoa n) (b := []) (by simp; omega)
    have a1 := str_add (a := Go.Lib.itoa n) (b := [85]) (by simp; omega)
    have a2 := str_add (a := Go.Lib.itoa n) (b := [76]) (by simp; omega)
    have a3 := str_add (a := Go.Lib.itoa n) (b := [85, 76]) (by simp; omega)
    have a4 : abin .add (.str [85]) (.str [76]) = some (.str [85, 76]) := rfl
    have a5 : abin .add (.str []) (.str [76]) = some (.str [76]) := rfl
    unfold unsP longP at *
    generalize Go.Lib.itoa n = w at *
    clear ht hm hN e h0 h1 hil
    generalize hasPre [117, 110, 115, 105, 103, 110, 101, 100] t = A at *
    generalize hasSuf [108, 111, 110, 103] t = B at *
    cases A <;> cases B
    · repeat (any_goals first | simp (dsimp := false) (maxSteps := 4000000) (maxDischargeDepth := 8) (implicitDefEqProofs := false) [*, -Int.not_le, -Int.not_lt, amLt, f33c, f33r0, f33r1, f33r2, f33r3, f33r4, f33r5, f33r6, f33r7, f33r8, f33r9, f33r10, f33r11, f33r12, f33r13, sufT] | with_reducible refine ch_both (fun _ => ?_) (fun _ => ?_) | with_reducible refine ite_both (fun _ => ?_) (fun _ => ?_) | intro _)
    · repeat (any_goals first | simp (dsimp := false) (maxSteps := 4000000) (maxDischargeDepth := 8) (implicitDefEqProofs := false) [*, -Int.not_le, -Int.not_lt, amLt, f33c, f33r0, f33r1, f33r2, f33r3, f33r4, f33r5, f33r6, f33r7, f33r8, f33r9, f33r10, f33r11, f33r12, f33r13, sufT] | with_reducible refine ch_both (fun _ => ?_) (fun _ => ?_) | with_reducible refine ite_both (fun _ => ?_) (fun _ => ?_) | intro _)
    · repeat (any_goals first | simp (dsimp := false) (maxSteps := 4000000) (maxDischargeDepth := 8) (implicitDefEqProofs := false) [*, -Int.not_le, -Int.not_lt, amLt, f33c, f33r0, f33r1, f33r2, f33r3, f33r4, f33r5, f33r6, f33r7, f33r8, f33r9, f33r10, f33r11, f33r12, f33r13, sufT] | with_reducible refine ch_both (fun _ => ?_) (fun _ => ?_) | with_reducible refine ite_both (fun _ => ?_) (fun _ => ?_) | intro _)
    · repeat (any_goals first | simp (dsimp := false) (maxSteps := 4000000) (maxDischargeDepth := 8) (implicitDefEqProofs := false) [*, -Int.not_le, -Int.not_lt, amLt, f33c, f33r0, f33r1, f33r2, f33r3, f33r4, f33r5, f33r6, f33r7, f33r8, f33r9, f33r10, f33r11, f33r12, f33r13, sufT] | with_reducible refine ch_both (fun _ => ?_) (fun _ => ?_) | with_reducible refine ite_both (fun _ => ?_) (fun _ => ?_) | intro _)
  · rw [if_neg k3]
    by_cases k4 : k = 4
    · subst k4
      rw [if_pos rfl]
      have hb : ((b8 n).toNat : Int) = IntKind.u8.wrap n := by
        unfold b8
        rw [IntKind.wrap_u8]
        show ((((n % 256).toNat) % 256 : Nat) : Int) = _
        omega
      have hq := fun h => quote_ok h [b8 n] (by simp) 39
      rw [show ((39 : UInt8).toNat : Int) = 39 from rfl] at hq
      have hbo : bytesOf [AV.int IntKind.u8 (IntKind.u8.wrap n)] = some [b8 n] := by rw [← hb]; exact bytesOf_of [b8 n]
      generalize quoteS 39 [b8 n] = w at *
      generalize b8 n = x at *
      clear ht hm
      repeat (any_goals first | simp (dsimp := false) (maxSteps := 4000000) (maxDischargeDepth := 8) (implicitDefEqProofs := false) [*, -Int.not_le, -Int.not_lt, amLt, f33c, f33r0, f33r1, f33r2, f33r3, f33r4, f33r5, f33r6, f33r7, f33r8, f33r9, f33r10, f33r11, f33r12, f33r13, ssz, scellsF, rowsz] | with_reducible refine ch_both (fun _ => ?_) (fun _ => ?_) | with_reducible refine ite_both (fun _ => ?_) (fun _ => ?_) | intro _)
    · rw [if_neg k4]
      by_cases k5 : k = 5
      · subst k5
        rw [if_pos rfl]
        have hq := fun h => quote_ok h t (by omega) 34
        rw [show ((34 : UInt8).toNat : Int) = 34 from rfl] at hq
        clear ht hm
        repeat (any_goals first | simp (dsimp := false) (maxSteps := 4000000) (maxDischargeDepth := 8) (implicitDefEqProofs := false) [*, -Int.not_le, -Int.not_lt, amLt, f33c, f33r0, f33r1, f33r2, f33r3, f33r4, f33r5, f33r6, f33r7, f33r8, f33r9, f33r10, f33r11, f33r12, f33r13] | with_reducible refine ch_both (fun _ => ?_) (fun _ => ?_) | with_reducible refine ite_both (fun _ => ?_) (fun _ => ?_) | intro _)
      · rw [if_neg k5]
        clear ht hm
        repeat (any_goals first | simp (dsimp := false) (maxSteps := 4000000) (maxDischargeDepth := 8) (implicitDefEqProofs := false) [*, -Int.not_le, -Int.not_lt, amLt, f33c, f33r0, f33r1, f33r2, f33r3, f33r4, f33r5, f33r6, f33r7, f33r8, f33r9, f33r10, f33r11, f33r12, f33r13] | with_reducible refine ch_both (fun _ => ?_) (fun _ => ?_) | with_reducible refine ite_both (fun _ => ?_) (fun _ => ?_) | intro _)
def outV : Option (List UInt8) → AV
  | some s => .tup [.str s, .int .i64 0]
  | none => .tup [.str [], .int .i64 2]
theorem write_ok (h : Heap) (k n l c o : Int) (t : List UInt8) (ht : t.length ≤ 1048576) : Ccall tab 21 [tokV k t n l c o] h = some (outV (outS k t n), h) := by
  have hm := fun h => may_ok h k n t ht
  have hw := fun h hm => written_ok h k n t ht hm
  unfold outS
  refine Ccall_own rfl rfl rfl rfl ?_
  cases q : mayS k t n with
  | true =>
    rw [q] at hm
    have hw := fun h => hw h q
    unfold tokV at *
    clear ht q
    repeat (any_goals first | simp (dsimp := false) (maxSteps := 4000000) (maxDischargeDepth := 8) (implicitDefEqProofs := false) [*, -Int.not_le, -Int.not_lt, amLt, f21c, f21r0, f21r1, f21r2, f21r3, f21r4, outV] | with_reducible refine ch_both (fun _ => ?_) (fun _ => ?_) | with_reducible refine ite_both (fun _ => ?_) (fun _ => ?_) | intro _)
  | false =>
    rw [q] at hm
    unfold tokV at *
    clear ht q hw
    repeat (any_goals first | simp (dsimp := false) (maxSteps := 4000000) (maxDischargeDepth := 8) (implicitDefEqProofs := false) [*, -Int.not_le, -Int.not_lt, amLt, f21c, f21r0, f21r1, f21r2, f21r3, f21r4, outV] | with_reducible refine ch_both (fun _ => ?_) (fun _ => ?_) | with_reducible refine ite_both (fun _ => ?_) (fun _ => ?_) | intro _)

end Go.Proofs.YtmpdpjkblcdfkaaDoor
