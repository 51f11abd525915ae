/- What stands behind a backslash. -/
import Derived.Test.YtmpdpjkblcdfkaaDoorZd
import Derived.Test.YtmpdpjkblcdfkaaDoorAmW
namespace Go.Proofs.YtmpdpjkblcdfkaaDoor
open Go.AM
set_option maxRecDepth 20000
set_option maxHeartbeats 4000000
set_option linter.unusedSimpArgs false
set_option linter.unusedVariables false
attribute [local congr] andF_cg onF_cg bthen_cg bkeep_cg bcond_cg guardV_cg putF_cg guardF_cg ite_cg stepsF_cg
attribute [local simp] Brun_skip Brun_exit Brun_ret Brun_seq Brun_cond Brun_block Brun_region bthen_normal bthen_ret bthen_exit bblock_normal bblock_ret bblock_exit bkeep_some andF_some onF_some onF_none guardF_none guardF_some guardV_tup putF_some putF_none stepsF_nil stepsF_cons upd_apply ofL_cons ofL_nil bown_normal bown_ret banswer_normal banswer_ret aresults ares List.replicate stepF_call stepF_callD stepF_move stepF_pick stepF_alloc stepF_allocV stepF_box stepF_boxV stepF_build stepF_buildSlice stepF_buildSliceV stepF_load stepF_store stepF_nilCheck stepF_bin stepF_eq stepF_un stepF_conv stepF_strId strIdV_str strIdV_int stepF_toStr stepF_toBytes stepF_fn stepF_mkSlice stepF_slice stepF_strSlice stepF_fieldAddr stepF_field stepF_idxAddr stepF_idxArr stepF_index stepF_strIndex stepF_extract stepF_len0 stepF_len1 stepF_min stepF_max stepF_append stepF_appendF appF_none appF_row stepF_mkMap stepF_mkIface stepF_lookup stepF_mapUpdate stepF_ext aext_idx aext_count aext_same cellsF newF abin_add abin_sub abin_mul abin_quo abin_rem abin_eql abin_neq abin_lss abin_leq abin_gtr abin_geq abin_and abin_or abin_xor abin_shl abin_shr abin_seql abin_sneq aun_not aun_neg aeq_bool aeq_agg eqCells_nil eqCells_int eqCells_bool eqCells_str cellsOf_agg cellsOf_int cellsOf_bool cellsOf_str cellsOf_is cellsOf_ms cellsOf_fn cellsOf_nilp cellsOf_mp cellsOf_mm cellsOf_nilm cellsOf_nili cellsOf_ifc cellsOf_ip cget_one cget_agg ev_t ev_c fillp_nil fillp_cons isSc_int isSc_bool isSc_str isSc_is isSc_ms isSc_fn isSc_mm isSc_mp isSc_ip isSc_nilp isSc_nilm isSc_nili isSc_nilf isSc_ifc splice chunk strip strip.stripL imm imm.immL Areify_int Areify_bool Areify_str Areify_is Areify_nilp Areify_tup Areify_agg AreifyL andF_chi andF_ch onF_chi onF_ch bthen_ch bthen_chi bblock_ch bblock_chi bkeep_ch bkeep_chi bown_ch bown_chi banswer_ch banswer_chi isSome_ch bcond_ch guardV_ch1 guardV_ch0 chF_true chF_false chF_not
attribute [local simp ↓] andF_some andF_chi andF_ch onF_some onF_none onF_chi onF_ch bthen_normal bthen_ret bthen_exit bthen_ch bthen_chi bblock_normal bblock_ret bblock_exit bblock_ch bblock_chi bkeep_some bkeep_ch bkeep_chi bown_normal bown_ret bown_ch bown_chi banswer_normal banswer_ret banswer_ch banswer_chi bcond_ch guardV_ch1 guardV_ch0 guardV_tup guardF_none guardF_some putF_some putF_none stepsF_nil stepsF_cons chF_true chF_false Brun_seq Brun_cond Brun_block Brun_region Brun_skip Brun_ret Brun_exit stepF_call stepF_callD stepF_move stepF_pick stepF_alloc stepF_allocV stepF_box stepF_boxV stepF_build stepF_buildSlice stepF_buildSliceV stepF_load stepF_store stepF_nilCheck stepF_bin stepF_eq stepF_un stepF_conv stepF_strId stepF_toStr stepF_toBytes stepF_fn stepF_mkSlice stepF_slice stepF_strSlice stepF_fieldAddr stepF_field stepF_idxAddr stepF_idxArr stepF_index stepF_strIndex stepF_extract stepF_len0 stepF_len1 stepF_min stepF_max stepF_append stepF_appendF stepF_mkMap stepF_mkIface stepF_lookup stepF_mapUpdate stepF_ext
set_option maxHeartbeats 2000000
theorem u8_wrap (v : Nat) : IntKind.u8.wrap (v : Int) = ((UInt8.ofNat v).toNat : Int) := by
  rw [IntKind.wrap_u8]
  show _ = ((v % 256 : Nat) : Int)
  omega
def escT : List UInt8 := [97, 98, 102, 110, 114, 116, 118, 92, 39, 34, 63]
def escC : List UInt8 := [7, 8, 12, 10, 13, 9, 11, 92, 39, 34, 63]
def escS (b : UInt8) : Option UInt8 := if 0 ≤ Go.Lib.indexByte escT b then escC[(Go.Lib.indexByte escT b).toNat]? else none
theorem indexByte_lt (l : List UInt8) (c : UInt8) : Go.Lib.indexByte l c < l.length ∨ Go.Lib.indexByte l c = -1 := by
  induction l with
  | nil => exact .inr rfl
  | cons b l ih =>
    unfold Go.Lib.indexByte
    split
    · left; simp only [List.length_cons]; omega
    · split
      · exact .inr rfl
      · rename_i q
        left
        rcases ih with ih | ih
        · simp only [List.length_cons]; omega
        · rw [ih] at q; simp at q
theorem esc_cases (b : UInt8) : (∃ (i : Nat) (c : UInt8), Go.Lib.indexByte escT b = i ∧ escC[i]? = some c ∧ escS b = some c) ∨ (Go.Lib.indexByte escT b < 0 ∧ escS b = none) := by
  unfold escS
  have h1 := indexByte_lt escT b
  generalize Go.Lib.indexByte escT b = n at *
  by_cases q : 0 ≤ n
  · left
    rw [if_pos q]
    have hlt : n.toNat < escC.length := by
      rcases h1 with h1 | h1
      · simp only [escT, List.length_cons, List.length_nil] at h1
        simp only [escC, List.length_cons, List.length_nil]
        omega
      · omega
    exact ⟨n.toNat, escC[n.toNat], by omega, List.getElem?_eq_getElem hlt, List.getElem?_eq_getElem hlt⟩
  · right
    rw [if_neg q]
    exact ⟨by omega, rfl⟩
def hexW : Nat → List UInt8 → Nat
  | v, [] => v
  | v, b :: t => hexW (min 1048576 (16 * v + hexV b.toNat)) t
def octW : Nat → List UInt8 → Nat
  | v, [] => v
  | v, b :: t => octW (8 * v + (b.toNat - 48)) t
theorem take_step {s : List UInt8} {k n i : Nat} {b : UInt8} {t : List UInt8} (h : (s.drop (k + i)).take (n - i) = b :: t) : i < n ∧ s[k + i]? = some b ∧ (s.drop (k + (i + 1))).take (n - (i + 1)) = t := by
  have hlt : i < n := by
    rcases Nat.lt_or_ge i n with q | q
    · exact q
    · rw [Nat.sub_eq_zero_of_le q, List.take_zero] at h; cases h
  have h0 := congrArg (·[0]?) h
  rw [show n - i = (n - (i + 1)) + 1 by omega] at h
  refine ⟨hlt, ?_, ?_⟩
  · simp [List.getElem?_take] at h0
    exact h0.2
  · cases hd : s.drop (k + i) with
    | nil => rw [hd] at h; simp at h
    | cons x u =>
      rw [hd, List.take_succ_cons] at h
      have : s.drop (k + (i + 1)) = u := by
        have := congrArg List.tail hd
        simpa [Nat.add_assoc] using this
      rw [this]
      exact (List.cons.inj h).2
theorem take_end {s : List UInt8} {k n i : Nat} (h : (s.drop (k + i)).take (n - i) = []) (hn : k + n ≤ s.length) (hi : i ≤ n) : i = n := by
  have := congrArg List.length h
  simp only [List.length_take, List.length_drop, List.length_nil] at this
  omega
theorem hexw_loop (s : List UInt8) (hs : s.length ≤ 16777216) (h : Heap) (n : Nat) (hn : 1 + n ≤ s.length) : ∀ (r : List UInt8) (i v : Nat), (s.drop (1 + i)).take (n - i) = r → i ≤ n → v ≤ 1048576 → (∀ b ∈ r, isHex b.toNat = true) →
    Brun tab 82 (.loop f65l10) (ofL [(0, .str s), (6, .int .i64 n), (7, .int .i64 v), (29, .int .i64 n), (30, .int .i64 i)]) h =
      some (.exit 0, ofL [(0, .str s), (6, .int .i64 n), (7, .int .i64 (hexW v r)), (29, .int .i64 n), (30, .int .i64 n), (31, .bool false)], h) := by
  intro r
  induction r with
  | nil =>
    intro i v hr hi hv _
    have := take_end hr hn hi
    subst this
    have e3 : ¬ (i : Int) < i := by omega
    rw [Brun_loop]
    clear hr hi hv hn hs
    repeat (any_goals first | simp (dsimp := false) (maxSteps := 4000000) (maxDischargeDepth := 8) (implicitDefEqProofs := false) [*, -Int.not_le, -Int.not_lt, amLt, f65c, f65r0, f65r1, f65r2, f65r3, f65r4, f65r5, f65r6, f65r7, f65r8, f65r9, f65m10, f65m19, f65r10, f65r11, f65r12, f65r13, f65r14, f65r15, f65r16, f65r17, f65r18, f65r19, f65r20, f65r21, f65r22, f65r23, f65l10_b, f65l19_b, hexW] | with_reducible refine ch_both (fun _ => ?_) (fun _ => ?_) | with_reducible refine ite_both (fun _ => ?_) (fun _ => ?_) | intro _)
  | cons b t ih =>
    intro i v hr hi hv hall
    obtain ⟨hlt, hb, htl⟩ := take_step hr
    have hq := hall b (by simp)
    have hq2 : hexV b.toNat < 16 := by simpa [isHex] using hq
    have e3 : (i : Int) < n := by omega
    have e3' : ¬ (n : Int) ≤ i := by omega
    have hw := w64 i (by omega)
    have hx := fun h => hex_ok h b
    rw [hq] at hx
    simp only [if_true] at hx
    have em : ((16 * v : Nat) : Int) = 16 * (v : Int) := by push_cast; rfl
    have hw0 : IntKind.i64.wrap (1 + (i : Int)) = ((1 + i : Nat) : Int) := by rw [IntWalk.i64_in _ (by omega)]; push_cast; rfl
    have hw1 : IntKind.i64.wrap (16 * (v : Int)) = (16 * v : Nat) := by rw [← em, IntWalk.i64_in _ (by omega)]
    have hw2 : IntKind.i64.wrap (((16 * v : Nat) : Int) + hexV b.toNat) = ((16 * v + hexV b.toNat : Nat) : Int) := by rw [IntWalk.i64_in _ (by omega)]; push_cast; rfl
    have hm : (if (1048576 : Int) ≤ ((16 * v + hexV b.toNat : Nat) : Int) then (1048576 : Int) else ((16 * v + hexV b.toNat : Nat) : Int)) = ((min 1048576 (16 * v + hexV b.toNat) : Nat) : Int) := by split <;> omega
    have ih2 := ih (i + 1) (min 1048576 (16 * v + hexV b.toNat)) htl (by omega) (Nat.min_le_left _ _) (fun x hx => hall x (by simp [hx]))
    have hstep : hexW v (b :: t) = hexW (min 1048576 (16 * v + hexV b.toNat)) t := rfl
    have ei : ((i + 1 : Nat) : Int) = i + 1 := by push_cast; rfl
    have en : ((1 + i : Nat) : Int).toNat = 1 + i := by omega
    have ep : (0 : Int) ≤ ((1 + i : Nat) : Int) := by omega
    rw [ei] at ih2
    rw [hstep, ← ih2]
    generalize min 1048576 (16 * v + hexV b.toNat) = m at *
    generalize 16 * v + hexV b.toNat = m2 at *
    generalize 16 * v = m1 at *
    generalize hexV b.toNat = d at *
    generalize 1 + i = j at *
    rw [Brun_loop]
    clear ih ih2 hr hi hv hall htl hs hstep em hn ei
    repeat (any_goals first | simp (dsimp := false) (maxSteps := 4000000) (maxDischargeDepth := 8) (implicitDefEqProofs := false) [*, -Int.not_le, -Int.not_lt, amLt, f65c, f65r0, f65r1, f65r2, f65r3, f65r4, f65r5, f65r6, f65r7, f65r8, f65r9, f65m10, f65m19, f65r10, f65r11, f65r12, f65r13, f65r14, f65r15, f65r16, f65r17, f65r18, f65r19, f65r20, f65r21, f65r22, f65r23, f65l10_b, f65l19_b] | with_reducible refine ch_both (fun _ => ?_) (fun _ => ?_) | with_reducible refine ite_both (fun _ => ?_) (fun _ => ?_) | intro _)
theorem oct_byte (b : UInt8) (h : isOct b.toNat = true) : IntKind.u8.wrap ((b.toNat : Int) - 48) = ((b.toNat - 48 : Nat) : Int) := by
  simp [isOct] at h
  rw [IntWalk.u8_in _ (by omega)]
  omega
def obnd : Nat → Nat
  | 0 => 0
  | 1 => 300
  | 2 => 3000
  | _ => 30000
theorem obnd_le (i : Nat) : obnd i ≤ 30000 := by
  unfold obnd; split <;> omega
theorem obnd_step {i v d : Nat} (hi : i < 3) (hv : v ≤ obnd i) (hd : d ≤ 255) : 8 * v + d ≤ obnd (i + 1) := by
  match i with
  | 0 => simp only [obnd] at *; omega
  | 1 => simp only [obnd] at *; omega
  | 2 => simp only [obnd] at *; omega
theorem octw_loop (s : List UInt8) (hs : s.length ≤ 16777216) (h : Heap) (n : Nat) (hn : 0 + n ≤ s.length) (hn3 : n ≤ 3) : ∀ (r : List UInt8) (i v : Nat), (s.drop (0 + i)).take (n - i) = r → i ≤ n → v ≤ obnd i → (∀ b ∈ r, isOct b.toNat = true) →
    Brun tab 82 (.loop f65l19) (ofL [(0, .str s), (11, .int .i64 n), (12, .int .i64 v), (60, .int .i64 n), (61, .int .i64 i)]) h =
      some (.exit 2, ofL [(0, .str s), (11, .int .i64 n), (12, .int .i64 (octW v r)), (60, .int .i64 n), (61, .int .i64 n), (62, .bool false)], h) := by
  intro r
  induction r with
  | nil =>
    intro i v hr hi hv _
    have := take_end (k := 0) (n := n) (i := i) hr hn hi
    subst this
    have e3 : ¬ (i : Int) < i := by omega
    rw [Brun_loop]
    clear hr hi hv hn hs hn3
    show _ = some (Ex.exit 2, ofL [(0, .str s), (11, .int .i64 i), (12, .int .i64 v), (60, .int .i64 i), (61, .int .i64 i), (62, .bool false)], h)
    repeat (any_goals first | simp (dsimp := false) (maxSteps := 4000000) (maxDischargeDepth := 8) (implicitDefEqProofs := false) [*, -Int.not_le, -Int.not_lt, amLt, f65c, f65r0, f65r1, f65r2, f65r3, f65r4, f65r5, f65r6, f65r7, f65r8, f65r9, f65m10, f65m19, f65r10, f65r11, f65r12, f65r13, f65r14, f65r15, f65r16, f65r17, f65r18, f65r19, f65r20, f65r21, f65r22, f65r23, f65l10_b, f65l19_b] | with_reducible refine ch_both (fun _ => ?_) (fun _ => ?_) | with_reducible refine ite_both (fun _ => ?_) (fun _ => ?_) | intro _)
  | cons b t ih =>
    intro i v hr hi hv hall
    obtain ⟨hlt, hb, htl⟩ := take_step (k := 0) (n := n) (i := i) hr
    rw [Nat.zero_add] at hb
    have hq := hall b (by simp)
    have hob := oct_byte b hq
    have hb8 : b.toNat < 256 := UInt8.toNat_lt b
    have e3 : (i : Int) < n := by omega
    have e3' : ¬ (n : Int) ≤ i := by omega
    have hw := w64 i (by omega)
    have hp := obnd_le i
    have hst := obnd_step (i := i) (by omega) hv (show b.toNat - 48 ≤ 255 by omega)
    have em : ((8 * v : Nat) : Int) = 8 * (v : Int) := by push_cast; rfl
    have hw1 : IntKind.i64.wrap (8 * (v : Int)) = (8 * v : Nat) := by rw [← em, IntWalk.i64_in _ (by omega)]
    have hw3 : IntKind.i64.wrap ((b.toNat - 48 : Nat) : Int) = ((b.toNat - 48 : Nat) : Int) := IntWalk.i64_in _ (by omega)
    have hw2 : IntKind.i64.wrap (((8 * v : Nat) : Int) + ((b.toNat - 48 : Nat) : Int)) = ((8 * v + (b.toNat - 48) : Nat) : Int) := by rw [IntWalk.i64_in _ (by omega)]; push_cast; rfl
    have ih2 := ih (i + 1) (8 * v + (b.toNat - 48)) htl (by omega) hst (fun x hx => hall x (by simp [hx]))
    have hstep : octW v (b :: t) = octW (8 * v + (b.toNat - 48)) t := rfl
    have ei : ((i + 1 : Nat) : Int) = i + 1 := by push_cast; rfl
    rw [ei] at ih2
    rw [hstep, ← ih2]
    generalize 8 * v + (b.toNat - 48) = m2 at *
    generalize 8 * v = m1 at *
    generalize b.toNat - 48 = d at *
    rw [Brun_loop]
    clear ih ih2 hr hi hv hall htl hs hstep em hn ei hp hst hn3 hlt
    repeat (any_goals first | simp (dsimp := false) (maxSteps := 4000000) (maxDischargeDepth := 8) (implicitDefEqProofs := false) [*, -Int.not_le, -Int.not_lt, amLt, f65c, f65r0, f65r1, f65r2, f65r3, f65r4, f65r5, f65r6, f65r7, f65r8, f65r9, f65m10, f65m19, f65r10, f65r11, f65r12, f65r13, f65r14, f65r15, f65r16, f65r17, f65r18, f65r19, f65r20, f65r21, f65r22, f65r23, f65l10_b, f65l19_b] | with_reducible refine ch_both (fun _ => ?_) (fun _ => ?_) | with_reducible refine ite_both (fun _ => ?_) (fun _ => ?_) | intro _)
theorem run_mem {p : Nat → Bool} {s : List UInt8} {k : Nat} (hk : k ≤ runLen p s) : ∀ b ∈ s.take k, p b.toNat = true := by
  intro b hb
  obtain ⟨j, hj⟩ := List.mem_iff_getElem?.1 hb
  rw [List.getElem?_take] at hj
  split at hj
  · exact runLen_in p s j b (by omega) hj
  · cases hj
def escR (s : List UInt8) : UInt8 × Nat × Bool := match s[0]? with
  | none => (0, 0, false)
  | some b => match escS b with
    | some c => (c, 1, true)
    | none => if b = 120 then
        (UInt8.ofNat (hexW 0 ((s.drop 1).take (runLen isHex (s.drop 1)))), runLen isHex (s.drop 1) + 1, decide (0 < runLen isHex (s.drop 1) ∧ hexW 0 ((s.drop 1).take (runLen isHex (s.drop 1))) ≤ 255))
      else (UInt8.ofNat (octW 0 (s.take (min 3 (runLen isOct s)))), min 3 (runLen isOct s), decide (0 < min 3 (runLen isOct s) ∧ octW 0 (s.take (min 3 (runLen isOct s))) ≤ 255))
def escV (r : UInt8 × Nat × Bool) : AV := .tup [.int .u8 r.1.toNat, .int .i64 r.2.1, .bool r.2.2]
theorem u120 (a : UInt8) : a = 120 ↔ (a.toNat : Int) = 120 := by
  constructor
  · rintro rfl; rfl
  · intro h; exact UInt8.toNat_inj.1 (by show a.toNat = 120; omega)
theorem escaped_ok (h : Heap) (s : List UInt8) (hs : s.length ≤ 16777216) : Ccall tab 65 [.str s] h = some (escV (escR s), h) := by
  unfold escR
  cases h0 : s[0]? with
  | none =>
    have e1 : s = [] := by cases s with | nil => rfl | cons a t => simp at h0
    subst e1
    refine Ccall_own rfl rfl rfl rfl ?_
    clear hs
    repeat (any_goals first | simp (dsimp := false) (maxSteps := 4000000) (maxDischargeDepth := 8) (implicitDefEqProofs := false) [*, -Int.not_le, -Int.not_lt, amLt, f65c, f65r0, f65r1, f65r2, f65r3, f65r4, f65r5, f65r6, f65r7, f65r8, f65r9, f65m10, f65m19, f65r10, f65r11, f65r12, f65r13, f65r14, f65r15, f65r16, f65r17, f65r18, f65r19, f65r20, f65r21, f65r22, f65r23, f65l10_b, f65l19_b, escV] | with_reducible refine ch_both (fun _ => ?_) (fun _ => ?_) | with_reducible refine ite_both (fun _ => ?_) (fun _ => ?_) | intro _)
  | some b =>
    have e9 : ¬ s = [] := by rintro rfl; simp at h0
    have hlt := lt_get h0
    have hi := fun h => indexByte_ok h escT b
    dsimp only
    rcases esc_cases b with ⟨i, c, hi1, hi2, hi3⟩ | ⟨hi1, hi3⟩
    · rw [hi3]
      rw [hi1] at hi
      have e5 : (0 : Int) ≤ i := by omega
      refine Ccall_own rfl rfl rfl rfl ?_
      unfold escT at hi
      unfold escC at hi2
      clear hs hlt hi1 hi3
      repeat (any_goals first | simp (dsimp := false) (maxSteps := 4000000) (maxDischargeDepth := 8) (implicitDefEqProofs := false) [*, -Int.not_le, -Int.not_lt, amLt, f65c, f65r0, f65r1, f65r2, f65r3, f65r4, f65r5, f65r6, f65r7, f65r8, f65r9, f65m10, f65m19, f65r10, f65r11, f65r12, f65r13, f65r14, f65r15, f65r16, f65r17, f65r18, f65r19, f65r20, f65r21, f65r22, f65r23, f65l10_b, f65l19_b, escV] | with_reducible refine ch_both (fun _ => ?_) (fun _ => ?_) | with_reducible refine ite_both (fun _ => ?_) (fun _ => ?_) | intro _)
    · rw [hi3]
      dsimp only
      have e6 : ¬ 0 ≤ Go.Lib.indexByte escT b := by omega
      generalize Go.Lib.indexByte escT b = ix at *
      unfold escT at hi
      by_cases hx : b = 120
      · have hx' := (u120 b).1 hx
        rw [if_pos hx]
        simp only [hx'] at hi
        have hr := fun h => run_ok 78 isHex hexF_ok' h (s.drop 1) (by simp only [List.length_drop]; omega)
        have hle := runLen_le isHex (s.drop 1)
        simp only [List.length_drop] at hle
        have lq := hexw_loop s hs [] (runLen isHex (s.drop 1)) (by omega) ((s.drop 1).take (runLen isHex (s.drop 1))) 0 0 rfl (by omega) (by omega) (run_mem (Nat.le_refl _))
        have e1 : (1 : Int) ≤ s.length := by omega
        have hw1 := w64 (runLen isHex (s.drop 1)) (by omega)
        generalize hexW 0 ((s.drop 1).take (runLen isHex (s.drop 1))) = v at *
        generalize runLen isHex (s.drop 1) = n at *
        have hwv := u8_wrap v
        generalize UInt8.ofNat v = c at *
        push_cast at lq
        simp only [List.drop_one] at hr
        refine Ccall_own rfl rfl rfl rfl ?_
        by_cases q1 : 0 < n
        · have q1' : 0 < (n : Int) := by omega
          by_cases q2 : v ≤ 255
          · have q2' : (v : Int) ≤ 255 := by omega
            have hd : decide (0 < n ∧ v ≤ 255) = true := by simp [q1, q2]
            rw [hd]
            clear hs hlt hi1 hi3 hle hd hx
            repeat (any_goals first | simp (dsimp := false) (maxSteps := 4000000) (maxDischargeDepth := 8) (implicitDefEqProofs := false) [*, -Int.not_le, -Int.not_lt, amLt, f65c, f65r0, f65r1, f65r2, f65r3, f65r4, f65r5, f65r6, f65r7, f65r8, f65r9, f65m10, f65m19, f65r10, f65r11, f65r12, f65r13, f65r14, f65r15, f65r16, f65r17, f65r18, f65r19, f65r20, f65r21, f65r22, f65r23, f65l10_b, f65l19_b, escV, obound_some, obound_none, abound_int] | with_reducible refine ch_both (fun _ => ?_) (fun _ => ?_) | with_reducible refine ite_both (fun _ => ?_) (fun _ => ?_) | intro _)
          · have q2' : ¬ (v : Int) ≤ 255 := by omega
            have hd : decide (0 < n ∧ v ≤ 255) = false := by simp [q1, q2]
            rw [hd]
            clear hs hlt hi1 hi3 hle hd hx
            repeat (any_goals first | simp (dsimp := false) (maxSteps := 4000000) (maxDischargeDepth := 8) (implicitDefEqProofs := false) [*, -Int.not_le, -Int.not_lt, amLt, f65c, f65r0, f65r1, f65r2, f65r3, f65r4, f65r5, f65r6, f65r7, f65r8, f65r9, f65m10, f65m19, f65r10, f65r11, f65r12, f65r13, f65r14, f65r15, f65r16, f65r17, f65r18, f65r19, f65r20, f65r21, f65r22, f65r23, f65l10_b, f65l19_b, escV, obound_some, obound_none, abound_int] | with_reducible refine ch_both (fun _ => ?_) (fun _ => ?_) | with_reducible refine ite_both (fun _ => ?_) (fun _ => ?_) | intro _)
        · have q1' : ¬ 0 < (n : Int) := by omega
          have hd : decide (0 < n ∧ v ≤ 255) = false := by simp [q1]
          rw [hd]
          clear hs hlt hi1 hi3 hle hd hx
          repeat (any_goals first | simp (dsimp := false) (maxSteps := 4000000) (maxDischargeDepth := 8) (implicitDefEqProofs := false) [*, -Int.not_le, -Int.not_lt, amLt, f65c, f65r0, f65r1, f65r2, f65r3, f65r4, f65r5, f65r6, f65r7, f65r8, f65r9, f65m10, f65m19, f65r10, f65r11, f65r12, f65r13, f65r14, f65r15, f65r16, f65r17, f65r18, f65r19, f65r20, f65r21, f65r22, f65r23, f65l10_b, f65l19_b, escV, obound_some, obound_none, abound_int] | with_reducible refine ch_both (fun _ => ?_) (fun _ => ?_) | with_reducible refine ite_both (fun _ => ?_) (fun _ => ?_) | intro _)
      · have hx' : ¬ (b.toNat : Int) = 120 := fun h => hx ((u120 b).2 h)
        rw [if_neg hx]
        have hr := fun h => run_ok 79 isOct octal_ok h s hs
        have hle := runLen_le isOct s
        have lq := octw_loop s hs [] (min 3 (runLen isOct s)) (by omega) (by omega) (s.take (min 3 (runLen isOct s))) 0 0 rfl (by omega) (by decide) (run_mem (by omega))
        have hm : (if (3 : Int) ≤ ((runLen isOct s : Nat) : Int) then (3 : Int) else ((runLen isOct s : Nat) : Int)) = ((min 3 (runLen isOct s) : Nat) : Int) := by split <;> omega
        generalize octW 0 (s.take (min 3 (runLen isOct s))) = v at *
        generalize min 3 (runLen isOct s) = m at *
        generalize runLen isOct s = n at *
        have hwv := u8_wrap v
        generalize UInt8.ofNat v = c at *
        simp only [Int.natCast_zero] at lq
        refine Ccall_own rfl rfl rfl rfl ?_
        by_cases q1 : 0 < m
        · have q1' : 0 < (m : Int) := by omega
          by_cases q2 : v ≤ 255
          · have q2' : (v : Int) ≤ 255 := by omega
            have hd : decide (0 < m ∧ v ≤ 255) = true := by simp [q1, q2]
            rw [hd]
            clear hs hlt hi1 hi3 hle hd hx
            repeat (any_goals first | simp (dsimp := false) (maxSteps := 4000000) (maxDischargeDepth := 8) (implicitDefEqProofs := false) [*, -Int.not_le, -Int.not_lt, amLt, f65c, f65r0, f65r1, f65r2, f65r3, f65r4, f65r5, f65r6, f65r7, f65r8, f65r9, f65m10, f65m19, f65r10, f65r11, f65r12, f65r13, f65r14, f65r15, f65r16, f65r17, f65r18, f65r19, f65r20, f65r21, f65r22, f65r23, f65l10_b, f65l19_b, escV, obound_some, obound_none, abound_int] | with_reducible refine ch_both (fun _ => ?_) (fun _ => ?_) | with_reducible refine ite_both (fun _ => ?_) (fun _ => ?_) | intro _)
          · have q2' : ¬ (v : Int) ≤ 255 := by omega
            have hd : decide (0 < m ∧ v ≤ 255) = false := by simp [q1, q2]
            rw [hd]
            clear hs hlt hi1 hi3 hle hd hx
            repeat (any_goals first | simp (dsimp := false) (maxSteps := 4000000) (maxDischargeDepth := 8) (implicitDefEqProofs := false) [*, -Int.not_le, -Int.not_lt, amLt, f65c, f65r0, f65r1, f65r2, f65r3, f65r4, f65r5, f65r6, f65r7, f65r8, f65r9, f65m10, f65m19, f65r10, f65r11, f65r12, f65r13, f65r14, f65r15, f65r16, f65r17, f65r18, f65r19, f65r20, f65r21, f65r22, f65r23, f65l10_b, f65l19_b, escV, obound_some, obound_none, abound_int] | with_reducible refine ch_both (fun _ => ?_) (fun _ => ?_) | with_reducible refine ite_both (fun _ => ?_) (fun _ => ?_) | intro _)
        · have q1' : ¬ 0 < (m : Int) := by omega
          have hd : decide (0 < m ∧ v ≤ 255) = false := by simp [q1]
          rw [hd]
          clear hs hlt hi1 hi3 hle hd hx
          repeat (any_goals first | simp (dsimp := false) (maxSteps := 4000000) (maxDischargeDepth := 8) (implicitDefEqProofs := false) [*, -Int.not_le, -Int.not_lt, amLt, f65c, f65r0, f65r1, f65r2, f65r3, f65r4, f65r5, f65r6, f65r7, f65r8, f65r9, f65m10, f65m19, f65r10, f65r11, f65r12, f65r13, f65r14, f65r15, f65r16, f65r17, f65r18, f65r19, f65r20, f65r21, f65r22, f65r23, f65l10_b, f65l19_b, escV, obound_some, obound_none, abound_int] | with_reducible refine ch_both (fun _ => ?_) (fun _ => ?_) | with_reducible refine ite_both (fun _ => ?_) (fun _ => ?_) | intro _)

end Go.Proofs.YtmpdpjkblcdfkaaDoor
