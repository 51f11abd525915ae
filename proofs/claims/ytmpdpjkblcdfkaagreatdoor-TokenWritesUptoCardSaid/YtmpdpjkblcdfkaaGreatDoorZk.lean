/- The reference: escapes. -/
import Derived.Test.YtmpdpjkblcdfkaaGreatDoorZj
import Derived.Test.YtmpdpjkblcdfkaaGreatDoorAmW
namespace Go.Proofs.YtmpdpjkblcdfkaaGreatDoor
open Go.AM
set_option maxRecDepth 20000
set_option maxHeartbeats 4000000
set_option linter.unusedSimpArgs false
set_option linter.unusedVariables false
attribute [local congr] andF_cg onF_cg bthen_cg bkeep_cg bcond_cg guardV_cg putF_cg guardF_cg ite_cg stepsF_cg
attribute [local simp] Brun_skip Brun_exit Brun_ret Brun_seq Brun_cond Brun_block Brun_region bthen_normal bthen_ret bthen_exit bblock_normal bblock_ret bblock_exit bkeep_some andF_some onF_some onF_none guardF_none guardF_some guardV_tup putF_some putF_none stepsF_nil stepsF_cons upd_apply ofL_cons ofL_nil bown_normal bown_ret banswer_normal banswer_ret aresults ares List.replicate stepF_call stepF_callD stepF_move stepF_pick stepF_alloc stepF_allocV stepF_box stepF_boxV stepF_build stepF_buildSlice stepF_buildSliceV stepF_load stepF_store stepF_nilCheck stepF_bin stepF_eq stepF_un stepF_conv stepF_strId stepF_toStr stepF_toBytes stepF_fn stepF_mkSlice stepF_slice stepF_strSlice stepF_fieldAddr stepF_field stepF_idxAddr stepF_idxArr stepF_index stepF_strIndex stepF_extract stepF_len0 stepF_len1 stepF_min stepF_max stepF_append stepF_appendF appF_none appF_row stepF_mkMap stepF_mkIface stepF_lookup stepF_mapUpdate stepF_ext aext_idx aext_count aext_same cellsF newF abin_add abin_sub abin_mul abin_quo abin_rem abin_eql abin_neq abin_lss abin_leq abin_gtr abin_geq abin_and abin_or abin_xor abin_shl abin_shr abin_seql abin_sneq aun_not aun_neg aeq_bool aeq_agg eqCells_nil eqCells_int eqCells_bool eqCells_str cellsOf_agg cellsOf_int cellsOf_bool cellsOf_str cellsOf_is cellsOf_ms cellsOf_fn cellsOf_nilp cellsOf_mp cellsOf_mm cellsOf_nilm cellsOf_nili cellsOf_ifc cellsOf_ip cget_one cget_agg ev_t ev_c fillp_nil fillp_cons isSc_int isSc_bool isSc_str isSc_is isSc_ms isSc_fn isSc_mm isSc_mp isSc_ip isSc_nilp isSc_nilm isSc_nili isSc_nilf isSc_ifc splice chunk strip strip.stripL imm imm.immL Areify_int Areify_bool Areify_str Areify_is Areify_nilp Areify_tup Areify_agg AreifyL andF_chi andF_ch onF_chi onF_ch bthen_ch bthen_chi bblock_ch bblock_chi bkeep_ch bkeep_chi bown_ch bown_chi banswer_ch banswer_chi isSome_ch bcond_ch guardV_ch1 guardV_ch0 chF_true chF_false chF_not
attribute [local simp ↓] andF_some andF_chi andF_ch onF_some onF_none onF_chi onF_ch bthen_normal bthen_ret bthen_exit bthen_ch bthen_chi bblock_normal bblock_ret bblock_exit bblock_ch bblock_chi bkeep_some bkeep_ch bkeep_chi bown_normal bown_ret bown_ch bown_chi banswer_normal banswer_ret banswer_ch banswer_chi bcond_ch guardV_ch1 guardV_ch0 guardV_tup guardF_none guardF_some putF_some putF_none stepsF_nil stepsF_cons chF_true chF_false Brun_seq Brun_cond Brun_block Brun_region Brun_skip Brun_ret Brun_exit stepF_call stepF_callD stepF_move stepF_pick stepF_alloc stepF_allocV stepF_box stepF_boxV stepF_build stepF_buildSlice stepF_buildSliceV stepF_load stepF_store stepF_nilCheck stepF_bin stepF_eq stepF_un stepF_conv stepF_strId stepF_toStr stepF_toBytes stepF_fn stepF_mkSlice stepF_slice stepF_strSlice stepF_fieldAddr stepF_field stepF_idxAddr stepF_idxArr stepF_index stepF_strIndex stepF_extract stepF_len0 stepF_len1 stepF_min stepF_max stepF_append stepF_appendF stepF_mkMap stepF_mkIface stepF_lookup stepF_mapUpdate stepF_ext
set_option maxHeartbeats 2000000
def wN (base : Nat) : Nat → List UInt8 → Option Nat
  | n, [] => some n
  | n, b :: t => if 255 < n * base + hexV b.toNat then none else wN base (n * base + hexV b.toNat) t
theorem u8_0 : IntKind.u8.wrap 0 = 0 := rfl
def WOut (s : List UInt8) (k0 base most K : Nat) (x : Option (Ex × Env × Heap)) : Option Nat → Prop
  | some m => x = some (.exit 2, ofL [(0, .str s), (1, .int .i64 k0), (12, .int .i64 m), (13, .int .i64 base), (14, .int .i64 most), (15, .int .i64 K), (97, .bool false)], [])
  | none => ∃ k : Int, x = some (.ret, ofL [(6, .int .u8 0), (7, .int .i64 k), (8, .bool false)], [])
def StopAt (s : List UInt8) (k0 base most K : Nat) : Prop := K = s.length ∨ K - k0 = most ∨ ∃ b, s[K]? = some b ∧ ¬ hexV b.toNat < base
theorem wn_loop (s : List UInt8) (hs : s.length ≤ 16777216) (k0 base most K : Nat) (hb0 : base ≤ 16) (hK : k0 ≤ K) (hKs : K ≤ s.length) (hKm : K - k0 ≤ most)
    (hstop : StopAt s k0 base most K) : ∀ (r : List UInt8) (k n : Nat), (s.drop k).take (K - k) = r → k0 ≤ k → k ≤ K → n ≤ 255 → (∀ b ∈ r, hexV b.toNat < base) →
    WOut s k0 base most K (Brun tab 117 (.loop f67l20) (ofL [(0, .str s), (1, .int .i64 k0), (12, .int .i64 n), (13, .int .i64 base), (14, .int .i64 most), (15, .int .i64 k)]) []) (wN base n r) := by
  intro r
  induction r with
  | nil =>
    intro k n hr hk0 hk hn _
    have hkK : k = K := by
      have := congrArg List.length hr
      simp only [List.length_take, List.length_drop, List.length_nil] at this
      omega
    subst hkK
    rw [Brun_loop]
    show _ = _
    have hw : IntKind.i64.wrap ((k : Int) - k0) = ((k - k0 : Nat) : Int) := by rw [IntWalk.i64_in _ (by omega)]; omega
    by_cases q1 : k = s.length
    · have q1' : (s.length : Int) ≤ k := by omega
      clear hr hk0 hk hn hs hb0 hK hKs hKm hstop
      subst q1
      repeat (any_goals first | simp (dsimp := false) (maxSteps := 4000000) (maxDischargeDepth := 8) (implicitDefEqProofs := false) [*, -Int.not_le, -Int.not_lt, amLt, f67c, f67r0, f67r1, f67r2, f67r3, f67r4, f67r5, f67r6, f67r7, f67r8, f67r9, f67m11, f67m20, f67q12, f67r10, f67r11, f67r13, f67r14, f67r15, f67r16, f67r17, f67r18, f67r19, f67r20, f67r21, f67r22, f67r23, f67r24, f67r25, f67l11_b, f67l20_b, f67r12_u, f67r12_w] | with_reducible refine ch_both (fun _ => ?_) (fun _ => ?_) | with_reducible refine ite_both (fun _ => ?_) (fun _ => ?_) | intro _)
    · have q1' : ¬ (s.length : Int) ≤ k := by omega
      have q1'' : (k : Int) < s.length := by omega
      by_cases q2 : k - k0 = most
      · have q2' : ¬ (((k - k0 : Nat) : Int) < most) := by omega
        have q2'' : (most : Int) ≤ ((k - k0 : Nat) : Int) := by omega
        generalize k - k0 = d at *
        clear hr hk0 hk hn hs hb0 hK hKs hKm hstop q1 q2
        repeat (any_goals first | simp (dsimp := false) (maxSteps := 4000000) (maxDischargeDepth := 8) (implicitDefEqProofs := false) [*, -Int.not_le, -Int.not_lt, amLt, f67c, f67r0, f67r1, f67r2, f67r3, f67r4, f67r5, f67r6, f67r7, f67r8, f67r9, f67m11, f67m20, f67q12, f67r10, f67r11, f67r13, f67r14, f67r15, f67r16, f67r17, f67r18, f67r19, f67r20, f67r21, f67r22, f67r23, f67r24, f67r25, f67l11_b, f67l20_b, f67r12_u, f67r12_w] | with_reducible refine ch_both (fun _ => ?_) (fun _ => ?_) | with_reducible refine ite_both (fun _ => ?_) (fun _ => ?_) | intro _)
      · have q2' : (((k - k0 : Nat) : Int) < most) := by omega
        have q2'' : ¬ (most : Int) ≤ ((k - k0 : Nat) : Int) := by omega
        unfold StopAt at hstop
        obtain ⟨b, hb, hnb⟩ := (hstop.resolve_left q1).resolve_left q2
        clear hstop
        have hx := fun h => rvalue_ok h b
        have q3 : (base : Int) ≤ hexV b.toNat := by omega
        generalize hexV b.toNat = v at *
        generalize k - k0 = d at *
        clear hr hk0 hk hn hs hb0 hK hKs hKm q1 q2 hnb
        repeat (any_goals first | simp (dsimp := false) (maxSteps := 4000000) (maxDischargeDepth := 8) (implicitDefEqProofs := false) [*, -Int.not_le, -Int.not_lt, amLt, f67c, f67r0, f67r1, f67r2, f67r3, f67r4, f67r5, f67r6, f67r7, f67r8, f67r9, f67m11, f67m20, f67q12, f67r10, f67r11, f67r13, f67r14, f67r15, f67r16, f67r17, f67r18, f67r19, f67r20, f67r21, f67r22, f67r23, f67r24, f67r25, f67l11_b, f67l20_b, f67r12_u, f67r12_w] | with_reducible refine ch_both (fun _ => ?_) (fun _ => ?_) | with_reducible refine ite_both (fun _ => ?_) (fun _ => ?_) | intro _)
  | cons b t ih =>
    intro k n hr hk0 hk hn hall
    obtain ⟨hlt, hb, htl⟩ := take_step (k := 0) (n := K) (i := k) (by rw [Nat.zero_add]; exact hr)
    rw [Nat.zero_add] at hb htl
    have hd := hall b (by simp)
    have hw : IntKind.i64.wrap ((k : Int) - k0) = ((k - k0 : Nat) : Int) := by rw [IntWalk.i64_in _ (by omega)]; omega
    have hw0 := w64 k (by omega)
    have q1' : ¬ (s.length : Int) ≤ k := by omega
    have q2' : ¬ (most : Int) ≤ ((k - k0 : Nat) : Int) := by omega
    have q2'' : (((k - k0 : Nat) : Int) < most) := by omega
    have hx := fun h => rvalue_ok h b
    have hd' : (hexV b.toNat : Int) < base := by omega
    have hge : ¬ (base : Int) ≤ hexV b.toNat := by omega
    have hv2 : n * base ≤ 255 * 16 := Nat.mul_le_mul hn hb0
    have em : ((n * base : Nat) : Int) = (n : Int) * base := by push_cast; rfl
    have hw1 : IntKind.i64.wrap ((n : Int) * base) = (n * base : Nat) := by rw [← em, IntWalk.i64_in _ (by omega)]
    have hw2 : IntKind.i64.wrap (((n * base : Nat) : Int) + hexV b.toNat) = ((n * base + hexV b.toNat : Nat) : Int) := by rw [IntWalk.i64_in _ (by omega)]; push_cast; rfl
    have hW : wN base n (b :: t) = if 255 < n * base + hexV b.toNat then none else wN base (n * base + hexV b.toNat) t := rfl
    rw [Brun_loop, hW]
    by_cases hbig : 255 < n * base + hexV b.toNat
    · rw [if_pos hbig]
      have hbig' : 255 < ((n * base + hexV b.toNat : Nat) : Int) := by omega
      refine ⟨k, ?_⟩
      generalize n * base + hexV b.toNat = m2 at *
      generalize n * base = m1 at *
      generalize hexV b.toNat = v at *
      generalize k - k0 = d at *
      clear ih hr hk0 hk hn hs hb0 hK hKs hKm hstop hall htl hlt hd hv2 em hW hbig
      repeat (any_goals first | simp (dsimp := false) (maxSteps := 4000000) (maxDischargeDepth := 8) (implicitDefEqProofs := false) [*, -Int.not_le, -Int.not_lt, amLt, f67c, f67r0, f67r1, f67r2, f67r3, f67r4, f67r5, f67r6, f67r7, f67r8, f67r9, f67m11, f67m20, f67q12, f67r10, f67r11, f67r13, f67r14, f67r15, f67r16, f67r17, f67r18, f67r19, f67r20, f67r21, f67r22, f67r23, f67r24, f67r25, f67l11_b, f67l20_b, f67r12_u, f67r12_w] | with_reducible refine ch_both (fun _ => ?_) (fun _ => ?_) | with_reducible refine ite_both (fun _ => ?_) (fun _ => ?_) | intro _)
    · rw [if_neg hbig]
      have hbig' : ¬ 255 < ((n * base + hexV b.toNat : Nat) : Int) := by omega
      have ih2 := ih (k + 1) (n * base + hexV b.toNat) (by rw [htl]) (by omega) (by omega) (by omega) (fun x hx => hall x (by simp [hx]))
      refine Eq.mp (congrArg (fun x => WOut s k0 base most K x _) ?_) ih2
      symm
      have ei : ((k + 1 : Nat) : Int) = k + 1 := by push_cast; rfl
      rw [ei]
      generalize n * base + hexV b.toNat = m2 at *
      generalize n * base = m1 at *
      generalize hexV b.toNat = v at *
      generalize k - k0 = d at *
      clear ih ih2 hr hk0 hk hn hs hb0 hK hKs hKm hstop hall htl hlt hd hv2 em hW hbig ei
      repeat (any_goals first | simp (dsimp := false) (maxSteps := 4000000) (maxDischargeDepth := 8) (implicitDefEqProofs := false) [*, -Int.not_le, -Int.not_lt, amLt, f67c, f67r0, f67r1, f67r2, f67r3, f67r4, f67r5, f67r6, f67r7, f67r8, f67r9, f67m11, f67m20, f67q12, f67r10, f67r11, f67r13, f67r14, f67r15, f67r16, f67r17, f67r18, f67r19, f67r20, f67r21, f67r22, f67r23, f67r24, f67r25, f67l11_b, f67l20_b, f67r12_u, f67r12_w] | with_reducible refine ch_both (fun _ => ?_) (fun _ => ?_) | with_reducible refine ite_both (fun _ => ?_) (fun _ => ?_) | intro _)
/-- The names of bytes: the loop over them. -/
theorem wn_hex : ∀ (r : List UInt8) (n : Nat), n ≤ 255 → match wN 16 n r with
    | some m => hexW n r = m ∧ m ≤ 255
    | none => 255 < hexW n r := by
  have big : ∀ (r : List UInt8) (n : Nat), 255 < n → 255 < hexW n r := by
    intro r
    induction r with
    | nil => intro n h; exact h
    | cons b t ih =>
      intro n h
      show 255 < hexW (min 1048576 (16 * n + hexV b.toNat)) t
      exact ih _ (by omega)
  intro r
  induction r with
  | nil => intro n hn; exact ⟨rfl, hn⟩
  | cons b t ih =>
    intro n hn
    have hb := hexV_le b.toNat
    have hW : wN 16 n (b :: t) = if 255 < n * 16 + hexV b.toNat then none else wN 16 (n * 16 + hexV b.toNat) t := rfl
    have hH : hexW n (b :: t) = hexW (n * 16 + hexV b.toNat) t := by
      show hexW (min 1048576 (16 * n + hexV b.toNat)) t = _
      rw [Nat.min_eq_right (by omega), Nat.mul_comm]
    rw [hW, hH]
    by_cases q : 255 < n * 16 + hexV b.toNat
    · rw [if_pos q]; exact big t _ q
    · rw [if_neg q]; exact ih _ (by omega)
theorem wn_oct : ∀ (r : List UInt8) (n : Nat), n ≤ 255 → (∀ b ∈ r, isOct b.toNat = true) → match wN 8 n r with
    | some m => octW n r = m ∧ m ≤ 255
    | none => 255 < octW n r := by
  have big : ∀ (r : List UInt8) (n : Nat), 255 < n → 255 < octW n r := by
    intro r
    induction r with
    | nil => intro n h; exact h
    | cons b t ih =>
      intro n h
      show 255 < octW (8 * n + (b.toNat - 48)) t
      exact ih _ (by omega)
  intro r
  induction r with
  | nil => intro n hn _; exact ⟨rfl, hn⟩
  | cons b t ih =>
    intro n hn hall
    have ho : 48 ≤ b.toNat ∧ b.toNat ≤ 55 := by simpa [isOct] using hall b (by simp)
    have hv : hexV b.toNat = b.toNat - 48 := by unfold hexV; rw [if_pos (by omega)]
    have hW : wN 8 n (b :: t) = if 255 < n * 8 + hexV b.toNat then none else wN 8 (n * 8 + hexV b.toNat) t := rfl
    have hH : octW n (b :: t) = octW (n * 8 + hexV b.toNat) t := by
      show octW (8 * n + (b.toNat - 48)) t = _
      rw [hv, Nat.mul_comm]
    rw [hW, hH]
    by_cases q : 255 < n * 8 + hexV b.toNat
    · rw [if_pos q]; exact big t _ q
    · rw [if_neg q]; exact ih _ (by omega) (fun x hx => hall x (by simp [hx]))
theorem bys_esc : bys escC = [[.int .u8 7], [.int .u8 8], [.int .u8 12], [.int .u8 10], [.int .u8 13], [.int .u8 9], [.int .u8 11], [.int .u8 92], [.int .u8 39], [.int .u8 34], [.int .u8 63]] := rfl
theorem names_loop (s : List UInt8) (c : UInt8) (i : Nat) (hi : i < 16777216) (hb : s[i]? = some c) : ∀ (r : List UInt8) (k : Nat), escT.drop k = r → k ≤ 11 →
    Brun tab 117 (.loop f67l11) (ofL [(0, .str s), (1, .int .i64 i), (9, .str escT), (10, .is (bys escC) .full), (11, .int .i64 k)]) [] =
      if 0 ≤ Go.Lib.indexByte r c then some (.ret, ofL [(6, .int .u8 (escC.getD (k + (Go.Lib.indexByte r c).toNat) 0).toNat), (7, .int .i64 (i + 1)), (8, .bool true)], [])
      else some (.exit 0, ofL [(0, .str s), (1, .int .i64 i), (9, .str escT), (10, .is (bys escC) .full), (11, .int .i64 11), (54, .bool false)], []) := by
  intro r
  have hw2 := w64 i (by omega)
  induction r with
  | nil =>
    intro k hr hk
    have hlen := congrArg List.length hr
    simp only [List.length_drop, List.length_nil, show escT.length = 11 from rfl] at hlen
    have e3 : (k : Int) = 11 := by omega
    have hl : ((escT.length : Nat) : Int) = 11 := rfl
    have hnil : ¬ 0 ≤ Go.Lib.indexByte [] c := by show ¬ (0 : Int) ≤ -1; decide
    rw [Brun_loop, if_neg hnil, e3]
    generalize bys escC = rows at *
    generalize escT = T at *
    clear hr hk hlen hnil
    repeat (any_goals first | simp (dsimp := false) (maxSteps := 4000000) (maxDischargeDepth := 8) (implicitDefEqProofs := false) [*, -Int.not_le, -Int.not_lt, amLt, f67c, f67r0, f67r1, f67r2, f67r3, f67r4, f67r5, f67r6, f67r7, f67r8, f67r9, f67m11, f67m20, f67q12, f67r10, f67r11, f67r13, f67r14, f67r15, f67r16, f67r17, f67r18, f67r19, f67r20, f67r21, f67r22, f67r23, f67r24, f67r25, f67l11_b, f67l20_b, f67r12_u, f67r12_w] | with_reducible refine ch_both (fun _ => ?_) (fun _ => ?_) | with_reducible refine ite_both (fun _ => ?_) (fun _ => ?_) | intro _)
  | cons b t ih =>
    intro k hr hk
    have hlen := congrArg List.length hr
    simp only [List.length_drop, List.length_cons, show escT.length = 11 from rfl] at hlen
    have hbk : escT[k]? = some b := by
      have := congrArg (·[0]?) hr
      simpa using this
    have htl : escT.drop (k + 1) = t := by
      have := congrArg List.tail hr
      simpa using this
    have e3 : (k : Int) < 11 := by omega
    have e4 : ¬ (11 : Int) ≤ k := by omega
    have hw := w64 k (by omega)
    have hcl : k < escC.length := by show k < 11; omega
    have hck : escC[k]? = some (escC.getD k 0) := by rw [List.getD_eq_getElem?_getD, List.getElem?_eq_getElem hcl]; rfl
    have hrow := bys_get hck
    have hl : ((escT.length : Nat) : Int) = 11 := rfl
    rw [Brun_loop]
    by_cases q : b = c
    · subst q
      have hI : Go.Lib.indexByte (b :: t) b = 0 := by unfold Go.Lib.indexByte; simp
      rw [hI, if_pos (by decide)]
      simp only [Int.toNat_zero, Nat.add_zero]
      generalize escC.getD k 0 = v at *
      generalize bys escC = rows at *
      generalize escT = T at *
      clear hr hk hlen htl ih hck hcl hI
      repeat (any_goals first | simp (dsimp := false) (maxSteps := 4000000) (maxDischargeDepth := 8) (implicitDefEqProofs := false) [*, -Int.not_le, -Int.not_lt, amLt, f67c, f67r0, f67r1, f67r2, f67r3, f67r4, f67r5, f67r6, f67r7, f67r8, f67r9, f67m11, f67m20, f67q12, f67r10, f67r11, f67r13, f67r14, f67r15, f67r16, f67r17, f67r18, f67r19, f67r20, f67r21, f67r22, f67r23, f67r24, f67r25, f67l11_b, f67l20_b, f67r12_u, f67r12_w] | with_reducible refine ch_both (fun _ => ?_) (fun _ => ?_) | with_reducible refine ite_both (fun _ => ?_) (fun _ => ?_) | intro _)
    · have hI : Go.Lib.indexByte (b :: t) c = if Go.Lib.indexByte t c = -1 then -1 else Go.Lib.indexByte t c + 1 := by
        conv => lhs; unfold Go.Lib.indexByte
        simp [q]
      have ih2 := ih (k + 1) htl (by omega)
      have hge := Go.Lib.indexByte_ge t c
      have hE : (if 0 ≤ Go.Lib.indexByte (b :: t) c then some (Ex.ret, ofL [(6, .int .u8 (escC.getD (k + (Go.Lib.indexByte (b :: t) c).toNat) 0).toNat), (7, .int .i64 (i + 1)), (8, .bool true)], ([] : Heap))
        else some (.exit 0, ofL [(0, .str s), (1, .int .i64 i), (9, .str escT), (10, .is (bys escC) .full), (11, .int .i64 11), (54, .bool false)], [])) =
        (if 0 ≤ Go.Lib.indexByte t c then some (Ex.ret, ofL [(6, .int .u8 (escC.getD (k + 1 + (Go.Lib.indexByte t c).toNat) 0).toNat), (7, .int .i64 (i + 1)), (8, .bool true)], ([] : Heap))
        else some (.exit 0, ofL [(0, .str s), (1, .int .i64 i), (9, .str escT), (10, .is (bys escC) .full), (11, .int .i64 11), (54, .bool false)], [])) := by
        rw [hI]
        by_cases z : Go.Lib.indexByte t c = -1
        · rw [if_pos z, if_neg (by omega), if_neg (by omega)]
        · rw [if_neg z, if_pos (by omega), if_pos (by omega), show k + (Go.Lib.indexByte t c + 1).toNat = k + 1 + (Go.Lib.indexByte t c).toNat by omega]
      rw [hE, ← ih2]
      have q' : ¬ (b.toNat : Int) = c.toNat := fun h => q ((u8_inj b c).1 h)
      push_cast
      generalize bys escC = rows at *
      generalize escT = T at *
      clear hr hk hlen htl ih ih2 hck hcl hI hE hge
      repeat (any_goals first | simp (dsimp := false) (maxSteps := 4000000) (maxDischargeDepth := 8) (implicitDefEqProofs := false) [*, -Int.not_le, -Int.not_lt, amLt, f67c, f67r0, f67r1, f67r2, f67r3, f67r4, f67r5, f67r6, f67r7, f67r8, f67r9, f67m11, f67m20, f67q12, f67r10, f67r11, f67r13, f67r14, f67r15, f67r16, f67r17, f67r18, f67r19, f67r20, f67r21, f67r22, f67r23, f67r24, f67r25, f67l11_b, f67l20_b, f67r12_u, f67r12_w] | with_reducible refine ch_both (fun _ => ?_) (fun _ => ?_) | with_reducible refine ite_both (fun _ => ?_) (fun _ => ?_) | intro _)
theorem oct_in : inB 8 = isOct := by
  funext n
  unfold inB isOct hexV
  by_cases h1 : 48 ≤ n ∧ n ≤ 57
  · rw [if_pos h1]
    by_cases h2 : n ≤ 55
    · rw [decide_eq_true (by omega), decide_eq_true (by omega)]
    · rw [decide_eq_false (by omega), decide_eq_false (by omega)]
  · rw [if_neg h1, decide_eq_false (p := 48 ≤ n ∧ n ≤ 55) (by omega)]
    apply decide_eq_false
    split
    · omega
    · split <;> omega
/-- What the reference says of an escape. -/
def EOut (h : Heap) (i : Nat) (x : Option (AV × Heap)) : UInt8 × Nat × Bool → Prop
  | (b, n, true) => x = some (.tup [.int .u8 b.toNat, .int .i64 (i + n : Nat), .bool true], h)
  | (_, _, false) => ∃ k : Int, x = some (.tup [.int .u8 0, .int .i64 k, .bool false], h)
theorem resc_ok (h : Heap) (s : List UInt8) (i : Nat) (q : UInt8) (hs : s.length ≤ 16777216) (hb : s[i]? = some 92) (hq : q ≠ 92) : EOut h (i + 1) (Ccall tab 67 [.str s, .int .i64 i, .int .u8 q.toNat] h) (escR (s.drop (i + 1))) := by
  have hlt := lt_get hb
  have e1 : ¬ (s.length : Int) ≤ i := by omega
  have hw := w64 i (by omega)
  have hq' : ¬ (92 : Int) = q.toNat := fun h => hq (UInt8.toNat_inj.1 (by show q.toNat = 92; omega))
  have hg : (s.drop (i + 1))[0]? = s[i + 1]? := by simp
  unfold escR
  rw [hg]
  cases h1 : s[i + 1]? with
  | none =>
    have e2 := List.getElem?_eq_none_iff.1 h1
    have e2' : (s.length : Int) ≤ (i : Int) + 1 := by omega
    refine ⟨(i : Int) + 1, ?_⟩
    refine Ccall_own rfl rfl rfl rfl ?_
    clear hs hlt hg h1 e2 hq
    repeat (any_goals first | simp (dsimp := false) (maxSteps := 4000000) (maxDischargeDepth := 8) (implicitDefEqProofs := false) [*, -Int.not_le, -Int.not_lt, amLt, f67c, f67r0, f67r1, f67r2, f67r3, f67r4, f67r5, f67r6, f67r7, f67r8, f67r9, f67m11, f67m20, f67q12, f67r10, f67r11, f67r13, f67r14, f67r15, f67r16, f67r17, f67r18, f67r19, f67r20, f67r21, f67r22, f67r23, f67r24, f67r25, f67l11_b, f67l20_b, f67r12_u, f67r12_w] | with_reducible refine ch_both (fun _ => ?_) (fun _ => ?_) | with_reducible refine ite_both (fun _ => ?_) (fun _ => ?_) | intro _)
  | some c =>
    have hlt1 := lt_get h1
    have e2 : ¬ (s.length : Int) ≤ (i : Int) + 1 := by omega
    have hn1 : ((i : Int) + 1).toNat = i + 1 := by omega
    have hn2 : (0 : Int) ≤ (i : Int) + 1 := by omega
    have hl := names_loop s c (i + 1) (by omega) h1 escT 0 rfl (by omega)
    rw [bys_esc] at hl
    push_cast at hl
    unfold escT at hl
    dsimp only
    rcases esc_cases c with ⟨k, d, g1, g2, g3⟩ | ⟨g1, g3⟩
    · rw [g3]
      have g1' : Go.Lib.indexByte [97, 98, 102, 110, 114, 116, 118, 92, 39, 34, 63] c = k := g1
      have hd : escC.getD k 0 = d := by rw [List.getD_eq_getElem?_getD, g2]; rfl
      rw [if_pos (by omega), g1', Int.toNat_natCast, Nat.zero_add, hd] at hl
      have hw2 := w64 (i + 1) (by omega)
      show Ccall tab 67 _ h = _
      refine Ccall_own rfl rfl rfl rfl ?_
      push_cast
      clear hs hlt hg hlt1 g1 g1' g2 g3 hd hq
      repeat (any_goals first | simp (dsimp := false) (maxSteps := 4000000) (maxDischargeDepth := 8) (implicitDefEqProofs := false) [*, -Int.not_le, -Int.not_lt, amLt, f67c, f67r0, f67r1, f67r2, f67r3, f67r4, f67r5, f67r6, f67r7, f67r8, f67r9, f67m11, f67m20, f67q12, f67r10, f67r11, f67r13, f67r14, f67r15, f67r16, f67r17, f67r18, f67r19, f67r20, f67r21, f67r22, f67r23, f67r24, f67r25, f67l11_b, f67l20_b, f67r12_u, f67r12_w] | with_reducible refine ch_both (fun _ => ?_) (fun _ => ?_) | with_reducible refine ite_both (fun _ => ?_) (fun _ => ?_) | intro _)
    · rw [g3]
      have g1' : ¬ 0 ≤ Go.Lib.indexByte [97, 98, 102, 110, 114, 116, 118, 92, 39, 34, 63] c := by show ¬ 0 ≤ Go.Lib.indexByte escT c; omega
      rw [if_neg g1'] at hl
      dsimp only
      by_cases hx : c = 120
      · have hx' := (u120 c).1 hx
        rw [if_pos hx]
        have hdd : (s.drop (i + 1)).drop 1 = s.drop (i + 2) := by rw [List.drop_drop]
        rw [hdd]
        have hle := runLen_le isHex (s.drop (i + 2))
        simp only [List.length_drop] at hle
        have hst : StopAt s (i + 2) 16 s.length (i + 2 + runLen isHex (s.drop (i + 2))) := by
          by_cases hK : i + 2 + runLen isHex (s.drop (i + 2)) = s.length
          · exact .inl hK
          · refine .inr (.inr ⟨s[i + 2 + runLen isHex (s.drop (i + 2))]'(by omega), List.getElem?_eq_getElem _, ?_⟩)
            have := runLen_out isHex (s.drop (i + 2)) _ (by rw [List.getElem?_drop]; exact List.getElem?_eq_getElem (by omega))
            simpa [isHex] using this
        have lw := wn_loop s hs (i + 2) 16 s.length (i + 2 + runLen isHex (s.drop (i + 2))) (by omega) (by omega) (by omega) (by omega) hst ((s.drop (i + 2)).take (runLen isHex (s.drop (i + 2)))) (i + 2) 0 (by congr 1; omega) (by omega) (by omega) (by omega) (fun b hb => by
          have := run_mem (Nat.le_refl _) b hb
          simpa [isHex] using this)
        have hv := wn_hex ((s.drop (i + 2)).take (runLen isHex (s.drop (i + 2)))) 0 (by omega)
        have hr0 : runLen isHex (s.drop (i + 2)) = 0 → hexW 0 ((s.drop (i + 2)).take (runLen isHex (s.drop (i + 2)))) = 0 := by
          intro z; rw [z]; rfl
        generalize (s.drop (i + 2)).take (runLen isHex (s.drop (i + 2))) = r at *
        generalize runLen isHex (s.drop (i + 2)) = n at *
        have ek : ((i + 2 : Nat) : Int) = (i : Int) + 1 + 1 := by omega
        have hw2 : IntKind.i64.wrap ((i : Int) + 1 + 1) = (i : Int) + 1 + 1 := IntWalk.i64_in _ (by omega)
        cases hW : wN 16 0 r with
        | none =>
          rw [hW] at lw hv
          obtain ⟨k, lw⟩ := lw
          have hd : decide (0 < n ∧ hexW 0 r ≤ 255) = false := by simp; omega
          rw [hd]
          refine ⟨k, ?_⟩
          rw [ek] at lw
          push_cast at lw
          refine Ccall_own rfl rfl rfl rfl ?_
          clear hs hlt hg hlt1 g1 g1' g3 hq hx hdd hle hst hv hr0 hW hd
          repeat (any_goals first | simp (dsimp := false) (maxSteps := 4000000) (maxDischargeDepth := 8) (implicitDefEqProofs := false) [*, -Int.not_le, -Int.not_lt, amLt, f67c, f67r0, f67r1, f67r2, f67r3, f67r4, f67r5, f67r6, f67r7, f67r8, f67r9, f67m11, f67m20, f67q12, f67r10, f67r11, f67r13, f67r14, f67r15, f67r16, f67r17, f67r18, f67r19, f67r20, f67r21, f67r22, f67r23, f67r24, f67r25, f67l11_b, f67l20_b, f67r12_u, f67r12_w] | with_reducible refine ch_both (fun _ => ?_) (fun _ => ?_) | with_reducible refine ite_both (fun _ => ?_) (fun _ => ?_) | intro _)
        | some m =>
          rw [hW] at lw hv
          dsimp only at hv
          obtain ⟨hv1, hv2⟩ := hv
          subst hv1
          unfold WOut at lw
          dsimp only at lw
          have hwv := u8_wrap (hexW 0 r)
          rw [ek] at lw
          push_cast at lw
          by_cases z : 0 < n
          · have hd : decide (0 < n ∧ hexW 0 r ≤ 255) = true := by simp; omega
            rw [hd]
            show Ccall tab 67 _ h = _
            have zz : (i : Int) + 1 + 1 < (i : Int) + 1 + 1 + n := by omega
            have ez : ((i + 1 + (n + 1) : Nat) : Int) = (i : Int) + 1 + 1 + n := by omega
            rw [ez]
            generalize UInt8.ofNat (hexW 0 r) = u at *
            generalize hexW 0 r = v at *
            generalize (i : Int) + 1 + 1 + n = K at *
            refine Ccall_own rfl rfl rfl rfl ?_
            clear hs hlt hg hlt1 g1 g1' g3 hq hx hdd hle hst hr0 hW hd hv2 z ez
            repeat (any_goals first | simp (dsimp := false) (maxSteps := 4000000) (maxDischargeDepth := 8) (implicitDefEqProofs := false) [*, -Int.not_le, -Int.not_lt, amLt, f67c, f67r0, f67r1, f67r2, f67r3, f67r4, f67r5, f67r6, f67r7, f67r8, f67r9, f67m11, f67m20, f67q12, f67r10, f67r11, f67r13, f67r14, f67r15, f67r16, f67r17, f67r18, f67r19, f67r20, f67r21, f67r22, f67r23, f67r24, f67r25, f67l11_b, f67l20_b, f67r12_u, f67r12_w] | with_reducible refine ch_both (fun _ => ?_) (fun _ => ?_) | with_reducible refine ite_both (fun _ => ?_) (fun _ => ?_) | intro _)
          · have hd : decide (0 < n ∧ hexW 0 r ≤ 255) = false := by simp; omega
            rw [hd]
            have hz := hr0 (by omega)
            refine ⟨(i : Int) + 1 + 1 + n, ?_⟩
            have zz : ¬ (i : Int) + 1 + 1 < (i : Int) + 1 + 1 + n := by omega
            rw [hz] at lw
            generalize (i : Int) + 1 + 1 + n = K at *
            refine Ccall_own rfl rfl rfl rfl ?_
            have hz0 := u8_0
            clear hs hlt hg hlt1 g1 g1' g3 hq hx hdd hle hst hr0 hW hd hv2 z hz hwv
            repeat (any_goals first | simp (dsimp := false) (maxSteps := 4000000) (maxDischargeDepth := 8) (implicitDefEqProofs := false) [*, -Int.not_le, -Int.not_lt, amLt, f67c, f67r0, f67r1, f67r2, f67r3, f67r4, f67r5, f67r6, f67r7, f67r8, f67r9, f67m11, f67m20, f67q12, f67r10, f67r11, f67r13, f67r14, f67r15, f67r16, f67r17, f67r18, f67r19, f67r20, f67r21, f67r22, f67r23, f67r24, f67r25, f67l11_b, f67l20_b, f67r12_u, f67r12_w] | with_reducible refine ch_both (fun _ => ?_) (fun _ => ?_) | with_reducible refine ite_both (fun _ => ?_) (fun _ => ?_) | intro _)
      · have hx' : ¬ (c.toNat : Int) = 120 := fun h => hx ((u120 c).2 h)
        rw [if_neg hx]
        have hle := runLen_le isOct (s.drop (i + 1))
        simp only [List.length_drop] at hle
        have hst : StopAt s (i + 1) 8 3 (i + 1 + min 3 (runLen isOct (s.drop (i + 1)))) := by
          by_cases hK : 3 ≤ runLen isOct (s.drop (i + 1))
          · exact .inr (.inl (by omega))
          · by_cases hK2 : i + 1 + runLen isOct (s.drop (i + 1)) = s.length
            · exact .inl (by omega)
            · rw [show min 3 (runLen isOct (s.drop (i + 1))) = runLen isOct (s.drop (i + 1)) by omega]
              refine .inr (.inr ⟨s[i + 1 + runLen isOct (s.drop (i + 1))]'(by omega), List.getElem?_eq_getElem _, ?_⟩)
              have := runLen_out isOct (s.drop (i + 1)) _ (by rw [List.getElem?_drop]; exact List.getElem?_eq_getElem (by omega))
              have h2 := (congrFun oct_in _).trans this
              simpa [inB] using h2
        have hro : ∀ b ∈ (s.drop (i + 1)).take (min 3 (runLen isOct (s.drop (i + 1)))), isOct b.toNat = true := fun b hb => run_mem (by omega) b hb
        have lw := wn_loop s hs (i + 1) 8 3 (i + 1 + min 3 (runLen isOct (s.drop (i + 1)))) (by omega) (by omega) (by omega) (by omega) hst ((s.drop (i + 1)).take (min 3 (runLen isOct (s.drop (i + 1))))) (i + 1) 0 (by congr 1; omega) (by omega) (by omega) (by omega) (fun b hb => by
          have := hro b hb
          rw [← oct_in] at this
          simpa [inB] using this)
        have hv := wn_oct ((s.drop (i + 1)).take (min 3 (runLen isOct (s.drop (i + 1))))) 0 (by omega) hro
        have hr0 : min 3 (runLen isOct (s.drop (i + 1))) = 0 → octW 0 ((s.drop (i + 1)).take (min 3 (runLen isOct (s.drop (i + 1))))) = 0 := by
          intro z; rw [z]; rfl
        have hKb : i + 1 + min 3 (runLen isOct (s.drop (i + 1))) ≤ s.length := by omega
        generalize (s.drop (i + 1)).take (min 3 (runLen isOct (s.drop (i + 1)))) = r at *
        generalize min 3 (runLen isOct (s.drop (i + 1))) = n at *
        have ek : ((i + 1 : Nat) : Int) = (i : Int) + 1 := by omega
        cases hW : wN 8 0 r with
        | none =>
          rw [hW] at lw hv
          obtain ⟨k, lw⟩ := lw
          have hd : decide (0 < n ∧ octW 0 r ≤ 255) = false := by simp; omega
          rw [hd]
          refine ⟨k, ?_⟩
          rw [ek] at lw
          push_cast at lw
          refine Ccall_own rfl rfl rfl rfl ?_
          clear hs hlt hg hlt1 g1 g1' g3 hq hx hle hst hv hr0 hW hd hro hKb ek
          repeat (any_goals first | simp (dsimp := false) (maxSteps := 4000000) (maxDischargeDepth := 8) (implicitDefEqProofs := false) [*, -Int.not_le, -Int.not_lt, amLt, f67c, f67r0, f67r1, f67r2, f67r3, f67r4, f67r5, f67r6, f67r7, f67r8, f67r9, f67m11, f67m20, f67q12, f67r10, f67r11, f67r13, f67r14, f67r15, f67r16, f67r17, f67r18, f67r19, f67r20, f67r21, f67r22, f67r23, f67r24, f67r25, f67l11_b, f67l20_b, f67r12_u, f67r12_w] | with_reducible refine ch_both (fun _ => ?_) (fun _ => ?_) | with_reducible refine ite_both (fun _ => ?_) (fun _ => ?_) | intro _)
        | some m =>
          rw [hW] at lw hv
          dsimp only at hv
          obtain ⟨hv1, hv2⟩ := hv
          subst hv1
          unfold WOut at lw
          dsimp only at lw
          have hwv := u8_wrap (octW 0 r)
          rw [ek] at lw
          push_cast at lw
          by_cases z : 0 < n
          · have hd : decide (0 < n ∧ octW 0 r ≤ 255) = true := by simp; omega
            rw [hd]
            show Ccall tab 67 _ h = _
            have zz : (i : Int) + 1 < (i : Int) + 1 + n := by omega
            have ez : ((i + 1 + n : Nat) : Int) = (i : Int) + 1 + n := by omega
            rw [ez]
            generalize UInt8.ofNat (octW 0 r) = u at *
            generalize octW 0 r = v at *
            generalize (i : Int) + 1 + n = K at *
            refine Ccall_own rfl rfl rfl rfl ?_
            clear hs hlt hg hlt1 g1 g1' g3 hq hx hle hst hr0 hW hd hv2 z ez hro hKb ek
            repeat (any_goals first | simp (dsimp := false) (maxSteps := 4000000) (maxDischargeDepth := 8) (implicitDefEqProofs := false) [*, -Int.not_le, -Int.not_lt, amLt, f67c, f67r0, f67r1, f67r2, f67r3, f67r4, f67r5, f67r6, f67r7, f67r8, f67r9, f67m11, f67m20, f67q12, f67r10, f67r11, f67r13, f67r14, f67r15, f67r16, f67r17, f67r18, f67r19, f67r20, f67r21, f67r22, f67r23, f67r24, f67r25, f67l11_b, f67l20_b, f67r12_u, f67r12_w] | with_reducible refine ch_both (fun _ => ?_) (fun _ => ?_) | with_reducible refine ite_both (fun _ => ?_) (fun _ => ?_) | intro _)
          · have hd : decide (0 < n ∧ octW 0 r ≤ 255) = false := by simp; omega
            rw [hd]
            have hz := hr0 (by omega)
            refine ⟨(i : Int) + 1 + n, ?_⟩
            have zz : ¬ (i : Int) + 1 < (i : Int) + 1 + n := by omega
            rw [hz] at lw
            generalize (i : Int) + 1 + n = K at *
            refine Ccall_own rfl rfl rfl rfl ?_
            have hz0 := u8_0
            clear hs hlt hg hlt1 g1 g1' g3 hq hx hle hst hr0 hW hd hv2 z hz hwv hro hKb ek
            repeat (any_goals first | simp (dsimp := false) (maxSteps := 4000000) (maxDischargeDepth := 8) (implicitDefEqProofs := false) [*, -Int.not_le, -Int.not_lt, amLt, f67c, f67r0, f67r1, f67r2, f67r3, f67r4, f67r5, f67r6, f67r7, f67r8, f67r9, f67m11, f67m20, f67q12, f67r10, f67r11, f67r13, f67r14, f67r15, f67r16, f67r17, f67r18, f67r19, f67r20, f67r21, f67r22, f67r23, f67r24, f67r25, f67l11_b, f67l20_b, f67r12_u, f67r12_w] | with_reducible refine ch_both (fun _ => ?_) (fun _ => ?_) | with_reducible refine ite_both (fun _ => ?_) (fun _ => ?_) | intro _)

end Go.Proofs.YtmpdpjkblcdfkaaGreatDoor
