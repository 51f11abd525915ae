/- Chapter 7: what one operation comes to, in the program and in the reference. -/
import Derived.Test.YtkgpdillhnmpdaaFns
import Derived.Test.YtkgpdillhnmpdaaAmW
namespace Go.Proofs.Ytkgpdillhnmpdaa
open Go.AM
set_option maxRecDepth 20000
attribute [local congr] andF_cg onF_cg bthen_cg bkeep_cg bcond_cg guardV_cg ite_cg stepsF_cg
attribute [local simp] Brun_skip Brun_exit Brun_ret Brun_seq Brun_cond Brun_block Brun_region bthen_normal bthen_ret bthen_exit bthen_ite bcond_bool bblock_normal bblock_ret bblock_exit bblock_ite bkeep_some bkeep_ite andF_some andF_ite onF_some onF_none onF_ite
  guardF_none guardF_some guardV_bool guardV_tup putF_some putF_none stepsF_nil stepsF_cons upd_apply ofL_cons ofL_nil bown_ite bown_normal bown_ret banswer_ite banswer_normal banswer_ret aresults ares List.replicate
  stepF_call stepF_callD stepF_move stepF_pick stepF_alloc stepF_allocV stepF_box stepF_boxV stepF_build stepF_buildSlice stepF_buildSliceV stepF_load stepF_store stepF_nilCheck stepF_bin stepF_eq stepF_un stepF_conv stepF_strId stepF_toStr stepF_toBytes stepF_fn stepF_mkSlice stepF_slice stepF_strSlice stepF_fieldAddr stepF_field stepF_idxAddr stepF_idxArr stepF_index stepF_strIndex stepF_extract stepF_len0 stepF_len1 stepF_min stepF_max stepF_append stepF_appendV stepF_mkMap stepF_mkIface stepF_lookup stepF_mapUpdate
  cellsF newF abin_add abin_sub abin_mul abin_quo abin_rem abin_eql abin_neq abin_lss abin_leq abin_gtr abin_geq abin_and abin_or abin_xor abin_shl abin_shr abin_seql abin_sneq aun_not aun_neg aeq_bool aeq_agg eqCells_nil eqCells_int eqCells_bool eqCells_str
  cellsOf_agg cellsOf_int cellsOf_bool cellsOf_str cellsOf_is cellsOf_ms cellsOf_fn cellsOf_nilp cellsOf_mp cellsOf_mm cellsOf_nilm cellsOf_nili cellsOf_ifc cellsOf_ip cget_one cget_agg ev_t ev_c fillp_nil fillp_cons isSc_int isSc_bool isSc_str isSc_is isSc_ms isSc_fn isSc_mm isSc_mp isSc_ip isSc_nilp isSc_nilm isSc_nili isSc_nilf isSc_ifc
  splice strip strip.stripL imm imm.immL Areify_int Areify_bool Areify_str Areify_is Areify_nilp Areify_tup Areify_agg AreifyL
def U (a : Int) : Prop := 0 ≤ a ∧ a ≤ 4294967295
def s32 (a : Int) : Int := if 2147483648 ≤ a then a - 4294967296 else a
theorem s32_in {a : Int} (h : U a) : -2147483648 ≤ s32 a ∧ s32 a ≤ 2147483647 := by unfold U at h; unfold s32; split <;> omega
theorem s32_zero {a : Int} (h : U a) : s32 a = 0 ↔ a = 0 := by unfold U at h; unfold s32; split <;> omega
theorem wrap_s32 {a : Int} (h : U a) : IntKind.i32.wrap a = s32 a := by unfold U at h; rw [IntKind.wrap_i32]; unfold s32; split <;> omega
theorem wrap64_s32 {a : Int} (h : U a) : IntKind.i64.wrap (s32 a) = s32 a := IntWalk.i64_in _ ⟨by have := s32_in h; omega, by have := s32_in h; omega⟩
theorem flag_ok (h : Heap) (b : Bool) : Ccall tab 19 [.bool b] h = some (.int .u32 (if b = true then 1 else 0), h) := by
  refine Ccall_own rfl rfl rfl rfl ?_
  repeat (any_goals first | simp (maxDischargeDepth := 8) (implicitDefEqProofs := false) [*, -Int.not_le, -Int.not_lt, amLt, f19c, f19r0, f19r1, f19r2, f19r3] | with_reducible refine ite_both (fun _ => ?_) (fun _ => ?_) | intro _)
theorem flag_ok' (h : Heap) (b : Bool) : Ccall tab 56 [.bool b] h = some (.int .u32 (if b = true then 1 else 0), h) := by
  refine Ccall_own rfl rfl rfl rfl ?_
  repeat (any_goals first | simp (maxDischargeDepth := 8) (implicitDefEqProofs := false) [*, -Int.not_le, -Int.not_lt, amLt, f56c, f56r0, f56r1, f56r2, f56r3] | with_reducible refine ite_both (fun _ => ?_) (fun _ => ?_) | intro _)
/-- What dividing comes to. -/
def dvd (op a b : Int) : Int :=
  if op = 5 then a.tdiv b else if op = 7 then a.tmod b else if op = 6 then IntKind.u32.wrap ((s32 a).tmod (s32 b)) else IntKind.u32.wrap ((s32 a).tdiv (s32 b))
theorem tdiv_U {a b : Int} (ha : U a) (hb : U b) : U (a.tdiv b) := by
  unfold U at *
  rw [Int.tdiv_eq_ediv_of_nonneg ha.1]
  exact ⟨Int.ediv_nonneg ha.1 hb.1, Int.le_trans (Int.ediv_le_self _ ha.1) ha.2⟩
theorem tmod_U {a b : Int} (ha : U a) (hb : U b) : U (a.tmod b) := by
  unfold U at *
  rw [Int.tmod_eq_emod_of_nonneg ha.1]
  by_cases q : b = 0
  · subst q; simpa using ha
  · exact ⟨Int.emod_nonneg _ q, by have := Int.emod_lt_of_pos a (b := b) (by omega); omega⟩
theorem wrap_U {a : Int} (h : U a) : IntKind.u32.wrap a = a := IntWalk.u32_in a h
theorem wrap64_U {a : Int} (h : U a) : IntKind.i64.wrap a = a := IntWalk.i64_in a (by unfold U at h; omega)
theorem s32_tdiv {a b : Int} (ha : U a) (hb : U b) (h0 : ¬ b = 0) : IntKind.i64.wrap ((s32 a).tdiv (s32 b)) = (s32 a).tdiv (s32 b) := by
  have h1 := s32_in ha
  have h2 : (Int.tdiv (s32 a) (s32 b)).natAbs ≤ (s32 a).natAbs := by rw [Int.natAbs_tdiv]; exact Nat.div_le_self _ _
  exact IntWalk.i64_in _ (by omega)
theorem div_ok (h : Heap) (op a b : Int) (ha : U a) (hb : U b) (h0 : ¬ b = 0) : Ccall tab 18 [.int .i64 op, .int .u32 a, .int .u32 b] h = some (.int .u32 (dvd op a b), h) := by
  refine Ccall_own rfl rfl rfl rfl ?_
  repeat (any_goals first | simp (maxDischargeDepth := 8) (implicitDefEqProofs := false) [*, -Int.not_le, -Int.not_lt, amLt, f18c, f18r0, f18r1, f18r2, f18r3, f18r4, f18r5, f18r6, f18r7, f18r8, f18r9, dvd, wrap_s32 ha, wrap_s32 hb, wrap64_s32 ha, wrap64_s32 hb, s32_zero hb, s32_tdiv ha hb h0, wrap_U (tdiv_U ha hb)] | with_reducible refine ite_both (fun _ => ?_) (fun _ => ?_) | intro _)
/-- The low bits of a shift's count. -/
theorem and31 {b : Int} (h : U b) : andI .u32 b 31 = b % 32 := by
  unfold U at h
  have := andI_low .u32 5 (by decide) (a := b) h.1 (by show b < 4294967296; omega)
  rw [show ((2 : Int) ^ 5 - 1) = 31 from rfl, show ((2 : Int) ^ 5) = 32 from rfl] at this
  rw [this, IntWalk.u32_in _ (by omega)]
theorem wrap64_s32' {a : Int} (h : U a) (q : 2147483648 ≤ a) : IntKind.i64.wrap (a - 4294967296) = a - 4294967296 := by unfold U at h; exact IntWalk.i64_in _ (by omega)
theorem u64_is (a : Int) : IntKind.u64.wrap a = a % 18446744073709551616 := by simp [IntKind.wrap, IntKind.bits, IntKind.signed]
theorem of_low (a : Int) : IntKind.u32.wrap (andI .u64 (IntKind.u64.wrap a) 4294967295) = IntKind.u32.wrap a := by
  have h0 : 0 ≤ IntKind.u64.wrap a ∧ IntKind.u64.wrap a < 18446744073709551616 := by rw [u64_is]; omega
  have := andI_low .u64 32 (by decide) (a := IntKind.u64.wrap a) h0.1 h0.2
  rw [show ((2 : Int) ^ 32 - 1) = 4294967295 from rfl, show ((2 : Int) ^ 32) = 4294967296 from rfl] at this
  rw [this]
  simp only [u64_is, IntKind.wrap_u32]
  omega
def bin (op a b : Int) : Int × Bool :=
  if op = 4 ∨ op = 5 ∨ op = 6 ∨ op = 7 then (if b = 0 then (0, false) else (dvd op a b, true))
  else if op = 1 then (IntKind.u32.wrap (a + b), true)
  else if op = 2 then (IntKind.u32.wrap (a - b), true)
  else if op = 3 then (IntKind.u32.wrap (a * b), true)
  else if op = 8 then (andI .u32 a b, true)
  else if op = 9 then (orI .u32 a b, true)
  else if op = 10 then (xorI .u32 a b, true)
  else if op = 11 then (IntKind.u32.wrap (a * 2 ^ (b % 32).toNat), true)
  else if op = 12 then (IntKind.u32.wrap ((s32 a).fdiv (2 ^ (b % 32).toNat)), true)
  else if op = 13 then (a.fdiv (2 ^ (b % 32).toNat), true)
  else if op = 14 then (if a = b then 1 else 0, true)
  else if op = 15 then (if a = b then 0 else 1, true)
  else if op = 16 then (if s32 a < s32 b then 1 else 0, true)
  else if op = 17 then (if a < b then 1 else 0, true)
  else if op = 18 then (if s32 a ≤ s32 b then 1 else 0, true)
  else if op = 19 then (if a ≤ b then 1 else 0, true)
  else (0, false)
theorem wrap_mod (b : Int) : IntKind.u32.wrap (b % 32) = b % 32 := IntWalk.u32_in _ (by omega)
theorem mod_small (b : Int) (k : Nat) (hk : 32 ≤ k) : min (b % 32).toNat k = (b % 32).toNat := by omega
theorem mod_pos (b : Int) : 0 ≤ b % 32 := by omega
theorem bin_ok (h : Heap) (op a b : Int) (ha : U a) (hb : U b) : Ccall tab 7 [.int .i64 op, .int .u32 a, .int .u32 b] h = some (.tup [.int .u32 (bin op a b).1, .bool (bin op a b).2], h) := by
  refine Ccall_own rfl rfl rfl rfl ?_
  repeat (any_goals first | simp (maxDischargeDepth := 8) (implicitDefEqProofs := false) [*, -Int.not_le, -Int.not_lt, amLt, f7c, f7r0, f7r1, f7r2, f7r3, f7r4, f7r5, f7r6, f7r7, f7r8, f7r9, f7r10, f7r11, f7r12, f7r13, f7r14, f7r15, f7r16, f7r17, f7r18, f7r19, f7r20, f7r21, f7r22, f7r23, f7r24, f7r25, f7r26, f7r27, f7r28, f7r29, f7r30, f7r31, f7r32, f7r33, f7r34, f7r35, f7r36, f7r37, f7r38, f7r39, f7r40, flag_ok, bin, div_ok, IntKind.bits, wrap_s32 ha, wrap_s32 hb, and31 hb, wrap_mod, mod_small b 32 (by decide), mod_pos, ha, hb] | with_reducible refine ite_both (fun _ => ?_) (fun _ => ?_) | intro _)
theorem int_ok (h : Heap) (a : Int) (ha : U a) : Ccall tab 53 [.int .u32 a] h = some (.int .i64 (s32 a), h) := by
  refine Ccall_own rfl rfl rfl rfl ?_
  repeat (any_goals first | simp (maxDischargeDepth := 8) (implicitDefEqProofs := false) [*, -Int.not_le, -Int.not_lt, amLt, f53c, f53r0, f53r1, f53r2, f53r3, s32, wrap64_U ha, wrap64_s32' ha] | with_reducible refine ite_both (fun _ => ?_) (fun _ => ?_) | intro _)
theorem quot_ok (h : Heap) (a b : Int) (h0 : ¬ b = 0) : Ccall tab 54 [.int .i64 a, .int .i64 b] h = some (.tup [.int .i64 (IntKind.i64.wrap (a.tdiv b)), .int .i64 (a.tmod b)], h) := by
  refine Ccall_own rfl rfl rfl rfl ?_
  repeat (any_goals first | simp (maxDischargeDepth := 8) (implicitDefEqProofs := false) [*, -Int.not_le, -Int.not_lt, amLt, f54c, f54q1, f54r0, f54r1_u, f54r1_w] | with_reducible refine ite_both (fun _ => ?_) (fun _ => ?_) | intro _)
theorem of_ok (h : Heap) (a : Int) : Ccall tab 55 [.int .i64 a] h = some (.int .u32 (IntKind.u32.wrap a), h) := by
  refine Ccall_own rfl rfl rfl rfl ?_
  repeat (any_goals first | simp (maxDischargeDepth := 8) (implicitDefEqProofs := false) [*, -Int.not_le, -Int.not_lt, amLt, f55c, f55r0, f55r1, of_low] | with_reducible refine ite_both (fun _ => ?_) (fun _ => ?_) | intro _)
theorem tdiv_64 {a b : Int} (ha : U a) (hb : U b) : IntKind.i64.wrap (a.tdiv b) = a.tdiv b := wrap64_U (tdiv_U ha hb)
theorem wrapu64_mod (b : Int) : IntKind.u64.wrap (b % 32) = b % 32 := IntWalk.u64_in _ (by omega)
theorem s32_mod_wrap (a b : Int) : IntKind.u32.wrap (a.tmod b) = IntKind.u32.wrap (a.tmod b) := rfl
theorem tmod32 {b : Int} (h : U b) : b.tmod 32 = b % 32 := Int.tmod_eq_emod_of_nonneg h.1
theorem bin_ok' (h : Heap) (op a b : Int) (ha : U a) (hb : U b) : Ccall tab 33 [.int .i64 op, .int .u32 a, .int .u32 b] h = some (.tup [.int .u32 (bin op a b).1, .bool (bin op a b).2], h) := by
  refine Ccall_own rfl rfl rfl rfl ?_
  repeat (any_goals first | simp (maxDischargeDepth := 8) (implicitDefEqProofs := false) [*, -Int.not_le, -Int.not_lt, amLt, f33c, f33r0, f33r1, f33r2, f33r3, f33r4, f33r5, f33r6, f33r7, f33r8, f33r9, f33r10, f33r11, f33r12, f33r13, f33r14, f33r15, f33r16, f33r17, f33r18, f33r19, f33r20, f33r21, f33r22, f33r23, f33r24, f33r25, f33r26, f33r27, f33r28, f33r29, f33r30, f33r31, f33r32, f33r33, f33r34, f33r35, f33r36, f33r37, f33r38, f33r39, f33r40, f33r41, f33r42, f33r43, f33r44, f33r45, f33r46, flag_ok', bin, dvd, int_ok, quot_ok, of_ok, IntKind.bits, tmod32 hb, wrapu64_mod, wrap64_U ha, wrap64_U hb, s32_zero hb, s32_tdiv ha hb, tdiv_64 ha hb, wrap_U (tdiv_U ha hb), wrap_U (tmod_U ha hb), mod_small b 32 (by decide), mod_small b 64 (by decide), mod_pos, ha, hb] | with_reducible refine ite_both (fun _ => ?_) (fun _ => ?_) | intro _)
def width (k : Int) : Int :=
  if k = 2 ∨ k = 3 ∨ k = 4 ∨ k = 5 then 1 else if k = 6 ∨ k = 7 then 2 else if k = 8 ∨ k = 9 ∨ k = 10 ∨ k = 11 ∨ k = 12 ∨ k = 13 then 4 else 0
theorem width_ok (h : Heap) (k : Int) : Ccall tab 27 [.int .i64 k] h = some (.int .i64 (width k), h) := by
  refine Ccall_own rfl rfl rfl rfl ?_
  repeat (any_goals first | simp (maxDischargeDepth := 8) (implicitDefEqProofs := false) [*, -Int.not_le, -Int.not_lt, amLt, f27c, f27r0, f27r1, f27r2, f27r3, f27r4, f27r5, f27r6, f27r7, f27r8, f27r9, f27r10, f27r11, f27r12, f27r13, f27r14, f27r15, f27r16, f27r17, width] | with_reducible refine ite_both (fun _ => ?_) (fun _ => ?_) | intro _)
theorem width_ok' (h : Heap) (k : Int) : Ccall tab 35 [.int .i64 k] h = some (.int .i64 (width k), h) := by
  refine Ccall_own rfl rfl rfl rfl ?_
  repeat (any_goals first | simp (maxDischargeDepth := 8) (implicitDefEqProofs := false) [*, -Int.not_le, -Int.not_lt, amLt, f35c, f35r0, f35r1, f35r2, f35r3, f35r4, f35r5, f35r6, f35r7, f35r8, f35r9, f35r10, f35r11, f35r12, f35r13, f35r14, f35r15, f35r16, f35r17, width] | with_reducible refine ite_both (fun _ => ?_) (fun _ => ?_) | intro _)
def signed (k : Int) : Bool := decide (k = 3 ∨ k = 4 ∨ k = 6 ∨ k = 8 ∨ k = 10 ∨ k = 12)
theorem signed_ok (h : Heap) (k : Int) : Ccall tab 29 [.int .i64 k] h = some (.bool (signed k), h) := by
  refine Ccall_own rfl rfl rfl rfl ?_
  repeat (any_goals first | simp (maxDischargeDepth := 8) (implicitDefEqProofs := false) [*, -Int.not_le, -Int.not_lt, amLt, f29c, f29r0, f29r1, f29r2, f29r3, f29r4, f29r5, f29r6, f29r7, f29r8, f29r9, signed] | with_reducible refine ite_both (fun _ => ?_) (fun _ => ?_) | intro _)
theorem signed_ok' (h : Heap) (k : Int) : Ccall tab 58 [.int .i64 k] h = some (.bool (signed k), h) := by
  refine Ccall_own rfl rfl rfl rfl ?_
  repeat (any_goals first | simp (maxDischargeDepth := 8) (implicitDefEqProofs := false) [*, -Int.not_le, -Int.not_lt, amLt, f58c, f58r0, f58r1, signed] | with_reducible refine ite_both (fun _ => ?_) (fun _ => ?_) | intro _)
/-- A number's low byte, or half. -/
def low8 (v : Int) (s : Bool) : Int := if s = true ∧ 128 ≤ v % 256 then v % 256 + 4294967040 else v % 256
def low16 (v : Int) (s : Bool) : Int := if s = true ∧ 32768 ≤ v % 65536 then v % 65536 + 4294901760 else v % 65536
theorem low8_ok (h : Heap) (v : Int) (s : Bool) (hv : U v) : Ccall tab 28 [.int .u32 v, .int .u64 8, .bool s] h = some (.int .u32 (low8 v s), h) := by
  unfold U at hv
  refine Ccall_own rfl rfl rfl rfl ?_
  repeat (any_goals first | simp (maxDischargeDepth := 8) (implicitDefEqProofs := false) [*, -Int.not_le, -Int.not_lt, amLt, f28c, f28r0, f28r1, f28r2, f28r3, f28r4, low8, u64_is, IntKind.bits] | with_reducible refine ite_both (fun _ => ?_) (fun _ => ?_) | intro _)
  all_goals simp only [Int.fdiv_eq_ediv_of_nonneg _ (show (0 : Int) ≤ 16777216 by decide), IntKind.wrap_u32, IntKind.wrap_i32]
  all_goals (try split) <;> omega
theorem low16_ok (h : Heap) (v : Int) (s : Bool) (hv : U v) : Ccall tab 28 [.int .u32 v, .int .u64 16, .bool s] h = some (.int .u32 (low16 v s), h) := by
  unfold U at hv
  refine Ccall_own rfl rfl rfl rfl ?_
  repeat (any_goals first | simp (maxDischargeDepth := 8) (implicitDefEqProofs := false) [*, -Int.not_le, -Int.not_lt, amLt, f28c, f28r0, f28r1, f28r2, f28r3, f28r4, low16, u64_is, IntKind.bits] | with_reducible refine ite_both (fun _ => ?_) (fun _ => ?_) | intro _)
  all_goals simp only [Int.fdiv_eq_ediv_of_nonneg _ (show (0 : Int) ≤ 65536 by decide), IntKind.wrap_u32, IntKind.wrap_i32]
  all_goals (try split) <;> omega
theorem orI_high {l : Int} (n m : Nat) (hl : 0 ≤ l ∧ l < 2 ^ n) (hm : 2 ^ n * m + 2 ^ n ≤ 2 ^ 32) : orI .u32 l (2 ^ n * m : Nat) = l + (2 ^ n * m : Nat) := by
  obtain ⟨k, rfl⟩ := Int.eq_ofNat_of_zero_le hl.1
  have hk : k < 2 ^ n := by exact_mod_cast hl.2
  have h2 := Nat.two_pow_add_eq_or_of_lt hk m
  unfold orI
  show IntKind.u32.wrap ((BitVec.ofInt 32 (k : Int) ||| BitVec.ofInt 32 ((2 ^ n * m : Nat) : Int)).toNat : Int) = _
  rw [BitVec.ofInt_natCast, BitVec.ofInt_natCast, BitVec.toNat_or, BitVec.toNat_ofNat, BitVec.toNat_ofNat, Nat.mod_eq_of_lt (by omega), Nat.mod_eq_of_lt (by omega), Nat.or_comm, ← h2, IntWalk.u32_in _ (by omega)]
  omega
theorem and255 {v : Int} (hv : U v) : andI .u32 v 255 = v % 256 := by
  unfold U at hv
  have := andI_low .u32 8 (by decide) (a := v) hv.1 (by show v < 4294967296; omega)
  rw [show ((2 : Int) ^ 8 - 1) = 255 from rfl, show ((2 : Int) ^ 8) = 256 from rfl] at this
  rw [this, IntWalk.u32_in _ (by omega)]
theorem and65535 {v : Int} (hv : U v) : andI .u32 v 65535 = v % 65536 := by
  unfold U at hv
  have := andI_low .u32 16 (by decide) (a := v) hv.1 (by show v < 4294967296; omega)
  rw [show ((2 : Int) ^ 16 - 1) = 65535 from rfl, show ((2 : Int) ^ 16) = 65536 from rfl] at this
  rw [this, IntWalk.u32_in _ (by omega)]
theorem or8 (v : Int) : orI .u32 (v % 256) 4294967040 = v % 256 + 4294967040 := orI_high 8 16777215 (by omega) (by decide)
theorem or16 (v : Int) : orI .u32 (v % 65536) 4294901760 = v % 65536 + 4294901760 := orI_high 16 65535 (by omega) (by decide)
theorem top8 (v : Int) : (v % 256).fdiv 128 = 1 ↔ 128 ≤ v % 256 := by rw [Int.fdiv_eq_ediv_of_nonneg _ (by decide)]; omega
theorem top16 (v : Int) : (v % 65536).fdiv 32768 = 1 ↔ 32768 ≤ v % 65536 := by rw [Int.fdiv_eq_ediv_of_nonneg _ (by decide)]; omega
theorem ext8_ok (h : Heap) (v : Int) (s : Bool) (hv : U v) : Ccall tab 57 [.int .u32 v, .int .i64 1, .bool s] h = some (.int .u32 (low8 v s), h) := by
  refine Ccall_own rfl rfl rfl rfl ?_
  repeat (any_goals first | simp (maxDischargeDepth := 8) (implicitDefEqProofs := false) [*, -Int.not_le, -Int.not_lt, amLt, f57c, f57r0, f57r1, f57r2, f57r3, f57r4, f57r5, f57r6, f57r7, low8, u64_is, IntKind.bits, IntKind.wrap_i64, IntKind.wrap_u32, and255 hv, or8, top8] | with_reducible refine ite_both (fun _ => ?_) (fun _ => ?_) | intro _)
theorem ext16_ok (h : Heap) (v : Int) (s : Bool) (hv : U v) : Ccall tab 57 [.int .u32 v, .int .i64 2, .bool s] h = some (.int .u32 (low16 v s), h) := by
  refine Ccall_own rfl rfl rfl rfl ?_
  repeat (any_goals first | simp (maxDischargeDepth := 8) (implicitDefEqProofs := false) [*, -Int.not_le, -Int.not_lt, amLt, f57c, f57r0, f57r1, f57r2, f57r3, f57r4, f57r5, f57r6, f57r7, low16, u64_is, IntKind.bits, IntKind.wrap_i64, IntKind.wrap_u32, and65535 hv, or16, top16] | with_reducible refine ite_both (fun _ => ?_) (fun _ => ?_) | intro _)
theorem ext_ok (h : Heap) (v w : Int) (s : Bool) (h1 : ¬ w = 1) (h2 : ¬ w = 2) : Ccall tab 57 [.int .u32 v, .int .i64 w, .bool s] h = some (.int .u32 v, h) := by
  refine Ccall_own rfl rfl rfl rfl ?_
  repeat (any_goals first | simp (maxDischargeDepth := 8) (implicitDefEqProofs := false) [*, -Int.not_le, -Int.not_lt, amLt, f57c, f57r0, f57r1, f57r2, f57r3, f57r4, f57r5, f57r6, f57r7] | with_reducible refine ite_both (fun _ => ?_) (fun _ => ?_) | intro _)

end Go.Proofs.Ytkgpdillhnmpdaa
