/- Bytes, by the kernel. -/
import Derived.Test.YtmpdpjkblcdfkaaGreatDoorFns
import Derived.Test.YtmpdpjkblcdfkaaGreatDoorAmW
namespace Go.Proofs.YtmpdpjkblcdfkaaGreatDoor
open Go.AM
set_option maxRecDepth 20000
set_option maxHeartbeats 4000000
set_option linter.unusedSimpArgs false
set_option linter.unusedVariables false
attribute [local congr] andF_cg onF_cg bthen_cg bkeep_cg bcond_cg guardV_cg putF_cg guardF_cg ite_cg stepsF_cg
attribute [local simp] Brun_skip Brun_exit Brun_ret Brun_seq Brun_cond Brun_block Brun_region bthen_normal bthen_ret bthen_exit bblock_normal bblock_ret bblock_exit bkeep_some andF_some onF_some onF_none guardF_none guardF_some guardV_tup putF_some putF_none stepsF_nil stepsF_cons upd_apply ofL_cons ofL_nil bown_normal bown_ret banswer_normal banswer_ret aresults ares List.replicate stepF_call stepF_callD stepF_move stepF_pick stepF_alloc stepF_allocV stepF_box stepF_boxV stepF_build stepF_buildSlice stepF_buildSliceV stepF_load stepF_store stepF_nilCheck stepF_bin stepF_eq stepF_un stepF_conv stepF_strId stepF_toStr stepF_toBytes stepF_fn stepF_mkSlice stepF_slice stepF_strSlice stepF_fieldAddr stepF_field stepF_idxAddr stepF_idxArr stepF_index stepF_strIndex stepF_extract stepF_len0 stepF_len1 stepF_min stepF_max stepF_append stepF_appendF appF_none appF_row stepF_mkMap stepF_mkIface stepF_lookup stepF_mapUpdate stepF_ext aext_idx aext_count aext_same cellsF newF abin_add abin_sub abin_mul abin_quo abin_rem abin_eql abin_neq abin_lss abin_leq abin_gtr abin_geq abin_and abin_or abin_xor abin_shl abin_shr abin_seql abin_sneq aun_not aun_neg aeq_bool aeq_agg eqCells_nil eqCells_int eqCells_bool eqCells_str cellsOf_agg cellsOf_int cellsOf_bool cellsOf_str cellsOf_is cellsOf_ms cellsOf_fn cellsOf_nilp cellsOf_mp cellsOf_mm cellsOf_nilm cellsOf_nili cellsOf_ifc cellsOf_ip cget_one cget_agg ev_t ev_c fillp_nil fillp_cons isSc_int isSc_bool isSc_str isSc_is isSc_ms isSc_fn isSc_mm isSc_mp isSc_ip isSc_nilp isSc_nilm isSc_nili isSc_nilf isSc_ifc splice chunk strip strip.stripL imm imm.immL Areify_int Areify_bool Areify_str Areify_is Areify_nilp Areify_tup Areify_agg AreifyL andF_chi andF_ch onF_chi onF_ch bthen_ch bthen_chi bblock_ch bblock_chi bkeep_ch bkeep_chi bown_ch bown_chi banswer_ch banswer_chi isSome_ch bcond_ch guardV_ch1 guardV_ch0 chF_true chF_false chF_not
attribute [local simp ↓] andF_some andF_chi andF_ch onF_some onF_none onF_chi onF_ch bthen_normal bthen_ret bthen_exit bthen_ch bthen_chi bblock_normal bblock_ret bblock_exit bblock_ch bblock_chi bkeep_some bkeep_ch bkeep_chi bown_normal bown_ret bown_ch bown_chi banswer_normal banswer_ret banswer_ch banswer_chi bcond_ch guardV_ch1 guardV_ch0 guardV_tup guardF_none guardF_some putF_some putF_none stepsF_nil stepsF_cons chF_true chF_false Brun_seq Brun_cond Brun_block Brun_region Brun_skip Brun_ret Brun_exit stepF_call stepF_callD stepF_move stepF_pick stepF_alloc stepF_allocV stepF_box stepF_boxV stepF_build stepF_buildSlice stepF_buildSliceV stepF_load stepF_store stepF_nilCheck stepF_bin stepF_eq stepF_un stepF_conv stepF_strId stepF_toStr stepF_toBytes stepF_fn stepF_mkSlice stepF_slice stepF_strSlice stepF_fieldAddr stepF_field stepF_idxAddr stepF_idxArr stepF_index stepF_strIndex stepF_extract stepF_len0 stepF_len1 stepF_min stepF_max stepF_append stepF_appendF stepF_mkMap stepF_mkIface stepF_lookup stepF_mapUpdate stepF_ext
set_option maxHeartbeats 2000000
/-! Bytes: each of the 256 is reckoned by the kernel. -/
theorem Ccall_nil {A : Tab} {g k : Nat} {args : List AV} {v : AV} (hp : isPure A g args = true) (hr : acall A k g args [] = some (v, [], [])) (h : Heap) : Ccall A g args h = some (v, h) := by
  obtain ⟨_, h2⟩ := (acall_mem A k).pure g args [] v [] [] hp hr
  exact Ccall_run k (h2 h)
def chkB (r : Option (AV × Heap × List Nat)) (b : Bool) : Bool := match r with
  | some (.bool x, [], []) => x == b
  | _ => false
theorem chkB_ok {r : Option (AV × Heap × List Nat)} {b : Bool} (h : chkB r b = true) : r = some (.bool b, [], []) := by
  unfold chkB at h
  split at h
  · simp only [beq_iff_eq] at h; subst h; rfl
  · cases h
def chkIB (r : Option (AV × Heap × List Nat)) (n : Int) (b : Bool) : Bool := match r with
  | some (.tup [.int .i64 m, .bool x], [], []) => x == b && m == n
  | _ => false
theorem chkIB_ok {r : Option (AV × Heap × List Nat)} {n : Int} {b : Bool} (h : chkIB r n b = true) : r = some (.tup [.int .i64 n, .bool b], [], []) := by
  unfold chkIB at h
  split at h
  · simp only [Bool.and_eq_true, beq_iff_eq] at h; obtain ⟨rfl, rfl⟩ := h; rfl
  · cases h
def chkI (r : Option (AV × Heap × List Nat)) (n : Int) : Bool := match r with
  | some (.int .i64 m, [], []) => m == n
  | _ => false
theorem chkI_ok {r : Option (AV × Heap × List Nat)} {n : Int} (h : chkI r n = true) : r = some (.int .i64 n, [], []) := by
  unfold chkI at h
  split at h
  · simp only [beq_iff_eq] at h; subst h; rfl
  · cases h
theorem byte_all {p : Nat → Bool} (h : (List.range 256).all p = true) (b : UInt8) : p b.toNat = true := List.all_eq_true.1 h b.toNat (List.mem_range.2 (UInt8.toNat_lt b))
def isDig (n : Nat) : Bool := decide (48 ≤ n ∧ n ≤ 57)
def isLet (n : Nat) : Bool := decide ((65 ≤ n ∧ n ≤ 90) ∨ (97 ≤ n ∧ n ≤ 122) ∨ n = 95)
def isTail (n : Nat) : Bool := isLet n || isDig n
def isOct (n : Nat) : Bool := decide (48 ≤ n ∧ n ≤ 55)
/-- A digit of 16; else 99. -/
def hexV (n : Nat) : Nat := if 48 ≤ n ∧ n ≤ 57 then n - 48 else if 97 ≤ n ∧ n ≤ 102 then n - 87 else if 65 ≤ n ∧ n ≤ 70 then n - 55 else 99
def isHex (n : Nat) : Bool := decide (hexV n < 16)
theorem letter_ok (h : Heap) (b : UInt8) : Ccall tab 31 [.int .u8 b.toNat] h = some (.bool (isLet b.toNat), h) :=
  Ccall_nil rfl (chkB_ok (byte_all (p := fun n => chkB (acall tab 100 31 [.int .u8 n] []) (isLet n)) (by kernel_rfl) b)) h
theorem digit_ok (h : Heap) (b : UInt8) : Ccall tab 35 [.int .u8 b.toNat] h = some (.bool (isDig b.toNat), h) :=
  Ccall_nil rfl (chkB_ok (byte_all (p := fun n => chkB (acall tab 100 35 [.int .u8 n] []) (isDig n)) (by kernel_rfl) b)) h
theorem tail_ok (h : Heap) (b : UInt8) : Ccall tab 33 [.int .u8 b.toNat] h = some (.bool (isTail b.toNat), h) :=
  Ccall_nil rfl (chkB_ok (byte_all (p := fun n => chkB (acall tab 100 33 [.int .u8 n] []) (isTail n)) (by kernel_rfl) b)) h
theorem octal_ok (h : Heap) (b : UInt8) : Ccall tab 84 [.int .u8 b.toNat] h = some (.bool (isOct b.toNat), h) :=
  Ccall_nil rfl (chkB_ok (byte_all (p := fun n => chkB (acall tab 100 84 [.int .u8 n] []) (isOct n)) (by kernel_rfl) b)) h
theorem hex_ok (h : Heap) (b : UInt8) : Ccall tab 61 [.int .u8 b.toNat] h = some (.tup [.int .i64 (if isHex b.toNat = true then (hexV b.toNat : Int) else 0), .bool (isHex b.toNat)], h) :=
  Ccall_nil rfl (chkIB_ok (byte_all (p := fun n => chkIB (acall tab 100 61 [.int .u8 n] []) (if isHex n = true then (hexV n : Int) else 0) (isHex n)) (by kernel_rfl) b)) h
theorem hexF_ok (h : Heap) (b : UInt8) : Ccall tab 60 [.int .u8 b.toNat] h = some (.bool (isHex b.toNat), h) :=
  Ccall_nil rfl (chkB_ok (byte_all (p := fun n => chkB (acall tab 100 60 [.int .u8 n] []) (isHex n)) (by kernel_rfl) b)) h
theorem hexF_ok' (h : Heap) (b : UInt8) : Ccall tab 83 [.int .u8 b.toNat] h = some (.bool (isHex b.toNat), h) :=
  Ccall_nil rfl (chkB_ok (byte_all (p := fun n => chkB (acall tab 100 83 [.int .u8 n] []) (isHex n)) (by kernel_rfl) b)) h
theorem rletter_ok (h : Heap) (b : UInt8) : Ccall tab 40 [.int .u8 b.toNat] h = some (.bool (isLet b.toNat), h) :=
  Ccall_nil rfl (chkB_ok (byte_all (p := fun n => chkB (acall tab 100 40 [.int .u8 n] []) (isLet n)) (by kernel_rfl) b)) h
theorem rdigit_ok (h : Heap) (b : UInt8) : Ccall tab 41 [.int .u8 b.toNat] h = some (.bool (isDig b.toNat), h) :=
  Ccall_nil rfl (chkB_ok (byte_all (p := fun n => chkB (acall tab 100 41 [.int .u8 n] []) (isDig n)) (by kernel_rfl) b)) h

end Go.Proofs.YtmpdpjkblcdfkaaGreatDoor
