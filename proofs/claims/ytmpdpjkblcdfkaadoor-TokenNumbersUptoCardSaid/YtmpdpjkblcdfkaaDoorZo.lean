/- Every number of 32 bits can be written, in each base. -/
import Derived.Test.YtmpdpjkblcdfkaaDoorZl
import Derived.Test.YtmpdpjkblcdfkaaDoorHd
import Derived.Test.YtmpdpjkblcdfkaaDoorAmW
namespace Go.Proofs.YtmpdpjkblcdfkaaDoor
open Go.AM
set_option maxRecDepth 20000
set_option maxHeartbeats 4000000
set_option linter.unusedSimpArgs false
set_option linter.unusedVariables false
attribute [local congr] andF_cg onF_cg bthen_cg bkeep_cg bcond_cg guardV_cg putF_cg guardF_cg ite_cg stepsF_cg
attribute [local simp] Brun_skip Brun_exit Brun_ret Brun_seq Brun_cond Brun_block Brun_region bthen_normal bthen_ret bthen_exit bblock_normal bblock_ret bblock_exit bkeep_some andF_some onF_some onF_none guardF_none guardF_some guardV_tup putF_some putF_none stepsF_nil stepsF_cons upd_apply ofL_cons ofL_nil bown_normal bown_ret banswer_normal banswer_ret aresults ares List.replicate stepF_call stepF_callD stepF_move stepF_pick stepF_alloc stepF_allocV stepF_box stepF_boxV stepF_build stepF_buildSlice stepF_buildSliceV stepF_load stepF_store stepF_nilCheck stepF_bin stepF_eq stepF_un stepF_conv stepF_strId strIdV_str strIdV_int stepF_toStr stepF_toBytes stepF_fn stepF_mkSlice stepF_slice stepF_strSlice stepF_fieldAddr stepF_field stepF_idxAddr stepF_idxArr stepF_index stepF_strIndex stepF_extract stepF_len0 stepF_len1 stepF_min stepF_max stepF_append stepF_appendF appF_none appF_row stepF_mkMap stepF_mkIface stepF_lookup stepF_mapUpdate stepF_ext aext_idx aext_count aext_same cellsF newF abin_add abin_sub abin_mul abin_quo abin_rem abin_eql abin_neq abin_lss abin_leq abin_gtr abin_geq abin_and abin_or abin_xor abin_shl abin_shr abin_seql abin_sneq aun_not aun_neg aeq_bool aeq_agg eqCells_nil eqCells_int eqCells_bool eqCells_str cellsOf_agg cellsOf_int cellsOf_bool cellsOf_str cellsOf_is cellsOf_ms cellsOf_fn cellsOf_nilp cellsOf_mp cellsOf_mm cellsOf_nilm cellsOf_nili cellsOf_ifc cellsOf_ip cget_one cget_agg ev_t ev_c fillp_nil fillp_cons isSc_int isSc_bool isSc_str isSc_is isSc_ms isSc_fn isSc_mm isSc_mp isSc_ip isSc_nilp isSc_nilm isSc_nili isSc_nilf isSc_ifc splice chunk strip strip.stripL imm imm.immL Areify_int Areify_bool Areify_str Areify_is Areify_nilp Areify_tup Areify_agg AreifyL andF_chi andF_ch onF_chi onF_ch bthen_ch bthen_chi bblock_ch bblock_chi bkeep_ch bkeep_chi bown_ch bown_chi banswer_ch banswer_chi isSome_ch bcond_ch guardV_ch1 guardV_ch0 chF_true chF_false chF_not
attribute [local simp ↓] andF_some andF_chi andF_ch onF_some onF_none onF_chi onF_ch bthen_normal bthen_ret bthen_exit bthen_ch bthen_chi bblock_normal bblock_ret bblock_exit bblock_ch bblock_chi bkeep_some bkeep_ch bkeep_chi bown_normal bown_ret bown_ch bown_chi banswer_normal banswer_ret banswer_ch banswer_chi bcond_ch guardV_ch1 guardV_ch0 guardV_tup guardF_none guardF_some putF_some putF_none stepsF_nil stepsF_cons chF_true chF_false Brun_seq Brun_cond Brun_block Brun_region Brun_skip Brun_ret Brun_exit stepF_call stepF_callD stepF_move stepF_pick stepF_alloc stepF_allocV stepF_box stepF_boxV stepF_build stepF_buildSlice stepF_buildSliceV stepF_load stepF_store stepF_nilCheck stepF_bin stepF_eq stepF_un stepF_conv stepF_strId stepF_toStr stepF_toBytes stepF_fn stepF_mkSlice stepF_slice stepF_strSlice stepF_fieldAddr stepF_field stepF_idxAddr stepF_idxArr stepF_index stepF_strIndex stepF_extract stepF_len0 stepF_len1 stepF_min stepF_max stepF_append stepF_appendF stepF_mkMap stepF_mkIface stepF_lookup stepF_mapUpdate stepF_ext
set_option maxHeartbeats 2000000
/-! Numbers in each base: the plain law. -/
def chrD (k : Nat) : UInt8 := if k < 10 then UInt8.ofNat (48 + k) else UInt8.ofNat (87 + k)
theorem chr_ok {k : Nat} (h : k < 16) : hexV (chrD k).toNat = k ∧ isTail (chrD k).toNat = true ∧ isHex (chrD k).toNat = true ∧ isX (chrD k) = false ∧ (k < 10 → isDig (chrD k).toNat = true ∧ ulS.contains (chrD k) = false) := by
  have : ∀ x : Fin 16, hexV (chrD x.val).toNat = x.val ∧ isTail (chrD x.val).toNat = true ∧ isHex (chrD x.val).toNat = true ∧ isX (chrD x.val) = false ∧ (x.val < 10 → isDig (chrD x.val).toNat = true ∧ ulS.contains (chrD x.val) = false) := by decide
  exact this ⟨k, h⟩
def digS (base n : Nat) : List UInt8 := if h : n = 0 ∨ base < 2 then [] else digS base (n / base) ++ [chrD (n % base)]
termination_by n
decreasing_by exact Nat.div_lt_self (by omega) (by omega)
theorem digS_zero (base : Nat) : digS base 0 = [] := by rw [digS, dif_pos (.inl rfl)]
theorem digS_pos {base n : Nat} (hb : 2 ≤ base) (hn : 0 < n) : digS base n = digS base (n / base) ++ [chrD (n % base)] := by rw [digS, dif_neg (by omega)]
theorem digS_mem {base : Nat} (hb : 2 ≤ base) (n : Nat) : ∀ c ∈ digS base n, ∃ k < base, c = chrD k := by
  induction n using Nat.strongRecOn with
  | _ n ih =>
    intro c hc
    by_cases h : n = 0
    · subst h; rw [digS_zero] at hc; cases hc
    · rw [digS_pos hb (by omega)] at hc
      rcases List.mem_append.1 hc with hc | hc
      · exact ih (n / base) (Nat.div_lt_self (by omega) (by omega)) c hc
      · simp only [List.mem_singleton] at hc
        exact ⟨n % base, Nat.mod_lt _ (by omega), hc⟩
theorem digS_ne {base n : Nat} (hb : 2 ≤ base) (hn : 0 < n) : digS base n ≠ [] := by rw [digS_pos hb hn]; simp
theorem digS_len {base : Nat} (hb : 2 ≤ base) : ∀ (f n : Nat), n < 2 ^ f → (digS base n).length ≤ f := by
  intro f
  induction f with
  | zero => intro n h; have : n = 0 := by simpa using h
            subst this; rw [digS_zero]; simp
  | succ f ih =>
    intro n h
    by_cases q : n = 0
    · subst q; rw [digS_zero]; simp
    · rw [digS_pos hb (by omega), List.length_append, List.length_singleton]
      have h1 : n / base ≤ n / 2 := Nat.div_le_div_left hb (by omega)
      have h2 := ih (n / base) (by rw [Nat.pow_succ] at h; omega)
      omega
theorem digS_val {base : Nat} (hb : 2 ≤ base) (hb2 : base ≤ 16) (n : Nat) (hn : n ≤ 8589934592) : digV base 0 (digS base n) = some n := by
  induction n using Nat.strongRecOn with
  | _ n ih =>
    by_cases h : n = 0
    · subst h; rw [digS_zero]; rfl
    · have hlt := Nat.div_lt_self (n := n) (k := base) (by omega) (by omega)
      have hm := Nat.mod_lt n (show base > 0 by omega)
      rw [digS_pos hb (by omega), digV_app, ih (n / base) hlt (by omega)]
      simp only [Option.bind_some, digV, (chr_ok (show n % base < 16 by omega)).1, hm, if_true]
      congr 1
      have := Nat.div_add_mod n base
      rw [Nat.mul_comm] at this
      omega
theorem digS_dec (n : Nat) (hn : 0 < n) : digS 10 n = Go.Lib.decDigits n := by
  induction n using Nat.strongRecOn with
  | _ n ih =>
    have hc : chrD (n % 10) = UInt8.ofNat (48 + n % 10) := by unfold chrD; rw [if_pos (Nat.mod_lt _ (by decide))]
    rw [digS_pos (by decide) hn, Go.Lib.decDigits, hc]
    by_cases h : n < 10
    · rw [dif_pos h, show n / 10 = 0 by omega, digS_zero, List.nil_append, Nat.mod_eq_of_lt h]
    · rw [dif_neg h, ih (n / 10) (by omega) (by omega)]
/-- The digits, "0" for 0. -/
def dig1 (base n : Nat) : List UInt8 := if n = 0 then [48] else digS base n
theorem dig1_dec (n : Nat) : dig1 10 n = Go.Lib.decDigits n := by
  unfold dig1
  by_cases h : n = 0
  · subst h; rw [if_pos rfl, Go.Lib.decDigits]; rfl
  · rw [if_neg h, digS_dec n (by omega)]
theorem one_num {b : UInt8} {t u : List UInt8} (hb : isDig b.toNat = true) (hall : allTail (b :: t) = true) (hu : Ends u) : oneR (b :: t ++ u) = match numberR (b :: t) with
    | none => .error 21
    | some (x, v) => .ok ((3, x, (v : Int)), (b :: t).length) := by
  have hbl : isLet b.toNat = false := by
    simp only [isDig, isLet, decide_eq_true_eq, decide_eq_false_iff_not] at *
    omega
  have hr : runLen isTail (b :: t ++ u) = (b :: t).length := run_ends hall hu (by decide)
  have ht : (b :: t ++ u).take (b :: t).length = b :: t := List.take_left
  rw [List.cons_append] at hr ht ⊢
  cases hN : numberR (b :: t) with
  | none => simp only [oneR, hbl, hb, if_true, hr, ht, hN, Bool.false_eq_true, if_false]
  | some p =>
    obtain ⟨x, v⟩ := p
    simp only [oneR, hbl, hb, if_true, hr, ht, hN, Bool.false_eq_true, if_false]
theorem all_digS {base : Nat} (hb : 2 ≤ base) (hb2 : base ≤ 16) (n : Nat) (p : Nat → Bool) (hp : ∀ k < base, p (chrD k).toNat = true) : ((digS base n).all fun b => p b.toNat) = true := by
  refine List.all_eq_true.2 fun c hc => ?_
  obtain ⟨k, hk, rfl⟩ := digS_mem hb n c hc
  exact hp k hk
theorem all_dig1 {base : Nat} (hb : 2 ≤ base) (hb2 : base ≤ 16) (n : Nat) (p : Nat → Bool) (hp : ∀ k < base, p (chrD k).toNat = true) : ((dig1 base n).all fun b => p b.toNat) = true := by
  unfold dig1
  split
  · have := hp 0 (by omega)
    rw [show chrD 0 = 48 by decide] at this
    simp only [List.all_cons, List.all_nil, this, Bool.and_self]
  · exact all_digS hb hb2 n p hp
theorem dig1_ne {base n : Nat} (hb : 2 ≤ base) : dig1 base n ≠ [] := by
  unfold dig1
  split
  · simp
  · exact digS_ne hb (by omega)
theorem dig1_val {base : Nat} (hb : 2 ≤ base) (hb2 : base ≤ 16) (n : Nat) (hn : n ≤ 8589934592) : digV base 0 (dig1 base n) = some n := by
  unfold dig1
  split
  · rename_i h
    subst h
    simp only [digV, show hexV (48 : UInt8).toNat = 0 by decide, show 0 < base by omega, if_true]
    simp
  · exact digS_val hb hb2 n hn
theorem num16 (v : Nat) (hv : v ≤ 4294967295) {u : List UInt8} (hu : Ends u) : oneR ((48 :: 120 :: dig1 16 v) ++ u) = .ok ((3, typT (decide (2147483647 < v)) false, (v : Int)), (48 :: 120 :: dig1 16 v).length) := by
  have hx := all_dig1 (by decide) (by decide) v isHex (fun k hk => (chr_ok hk).2.2.1)
  have ht := all_dig1 (base := 16) (by decide) (by decide) v isTail (fun k hk => (chr_ok hk).2.1)
  have hall : allTail (48 :: 120 :: dig1 16 v) = true := by
    unfold allTail
    simp only [List.all_cons, ht, Bool.and_true, Bool.and_eq_true]
    exact ⟨by decide, by decide⟩
  have hN : numberR (48 :: 120 :: dig1 16 v) = some (typT (decide (2147483647 < v)) false, v) := by
    have hne := dig1_ne (base := 16) (n := v) (by decide)
    have hpos := List.length_pos_iff.2 hne
    have hpre : hexPre (48 :: 120 :: dig1 16 v) = true := by show (decide ((48 : UInt8) = 48) && isX 120) = true; decide
    have hbody : bodyR (48 :: 120 :: dig1 16 v) = 48 :: 120 :: dig1 16 v := by
      unfold bodyR
      rw [if_pos ⟨by simp only [List.length_cons]; omega, hpre⟩]
      have hr : runLen isHex (dig1 16 v) = (dig1 16 v).length := runLen_all.2 hx
      rw [show (48 :: 120 :: dig1 16 v).drop 2 = dig1 16 v from rfl, hr]
      exact List.take_of_length_le (by simp only [List.length_cons]; omega)
    unfold numberR
    rw [hbody, List.drop_length]
    have hval : valueR (48 :: 120 :: dig1 16 v) = some (v, false) := by
      unfold valueR
      rw [if_pos hpre, show (48 :: 120 :: dig1 16 v).drop 2 = dig1 16 v from rfl, if_neg hne, dig1_val (by decide) (by decide) v (by omega)]
      rfl
    simp only [sufR, hval]
    rw [if_neg (by omega), if_neg (by simp)]
    rfl
  rw [one_num (by decide) hall hu, hN]
theorem trim_no {s : List UInt8} (h : ∀ b ∈ s, ulS.contains b = false) : Go.Lib.trimRightS s ulS = s := by
  unfold Go.Lib.trimRightS
  have : s.reverse.dropWhile (fun x => ulS.contains x) = s.reverse := by
    cases hr : s.reverse with
    | nil => rfl
    | cons a t => rw [List.dropWhile_cons_of_neg (by rw [h a (List.mem_reverse.1 (by rw [hr]; simp))]; simp)]
  rw [this, List.reverse_reverse]
theorem num8 (v : Nat) (hv : v ≤ 4294967295) {u : List UInt8} (hu : Ends u) : oneR ((48 :: digS 8 v) ++ u) = .ok ((3, typT (decide (2147483647 < v)) false, (v : Int)), (48 :: digS 8 v).length) := by
  have ht := all_digS (base := 8) (by decide) (by decide) v isTail (fun k hk => (chr_ok (by omega)).2.1)
  have hall : allTail (48 :: digS 8 v) = true := by
    unfold allTail
    simp only [List.all_cons, ht, Bool.and_true]
    decide
  have hN : numberR (48 :: digS 8 v) = some (typT (decide (2147483647 < v)) false, v) := by
    have hpre : hexPre (48 :: digS 8 v) = false := by
      cases hd : digS 8 v with
      | nil => rfl
      | cons c r =>
        obtain ⟨k, hk, rfl⟩ := digS_mem (base := 8) (by decide) v c (by rw [hd]; simp)
        simp only [hexPre, (chr_ok (k := k) (by omega)).2.2.2.1, Bool.and_false]
    have hbody : bodyR (48 :: digS 8 v) = 48 :: digS 8 v := by
      unfold bodyR
      rw [hpre, if_neg (by simp)]
      refine trim_no fun b hb => ?_
      rcases List.mem_cons.1 hb with rfl | hb
      · decide
      · obtain ⟨k, hk, rfl⟩ := digS_mem (base := 8) (by decide) v b hb
        exact ((chr_ok (k := k) (by omega)).2.2.2.2 (by omega)).2
    unfold numberR
    rw [hbody, List.drop_length]
    have hval : valueR (48 :: digS 8 v) = some (v, false) := by
      unfold valueR
      rw [hpre, if_neg (by simp), if_pos (by simp [zeroPre])]
      have h0 : digV 8 0 (48 :: digS 8 v) = digV 8 0 (digS 8 v) := by
        simp only [digV, show hexV (48 : UInt8).toNat = 0 by decide]
        rfl
      rw [h0, digS_val (by decide) (by decide) v (by omega)]
      rfl
    simp only [sufR, hval]
    rw [if_neg (by omega), if_neg (by simp)]
    rfl
  rw [one_num (by decide) hall hu, hN]
theorem num10 (v : Nat) (hv : v ≤ 4294967295) {u : List UInt8} (hu : Ends u) : oneR ((dig1 10 v ++ [117]) ++ u) = .ok ((3, typT true false, (v : Int)), (dig1 10 v ++ [117]).length) := by
  rw [dig1_dec]
  have hall : allTail (Go.Lib.decDigits v ++ [117]) = true := by
    unfold allTail
    rw [List.all_append, Bool.and_eq_true]
    exact ⟨List.all_eq_true.2 fun b hb => by rw [tail_or, dec_dig v b hb, Bool.or_true], by decide⟩
  have hN : numberR (Go.Lib.decDigits v ++ [117]) = some (typT true false, v) := by
    have hpre : hexPre (Go.Lib.decDigits v ++ [117]) = false := by
      by_cases h : v = 0
      · subst h
        rw [show Go.Lib.decDigits 0 = [48] by rw [Go.Lib.decDigits]; rfl]
        decide
      · obtain ⟨a, t, h1, h2⟩ := dec_head v (by omega)
        rw [h1]
        cases hx : hexPre (a :: t ++ [117]) with
        | false => rfl
        | true =>
          obtain ⟨x, h3, _⟩ := (hexPre_iff _).1 hx
          simp at h3
          exact absurd h3 h2
    have hbody : bodyR (Go.Lib.decDigits v ++ [117]) = Go.Lib.decDigits v := by
      unfold bodyR
      rw [hpre, if_neg (by simp)]
      have h1 := trim_no (s := Go.Lib.decDigits v) fun b hb => by
        have h2 : ∀ n < 256, isDig n = true → ulS.contains (UInt8.ofNat n) = false := by decide +kernel
        have := h2 b.toNat (UInt8.toNat_lt b) (dec_dig v b hb)
        rwa [UInt8.ofNat_toNat] at this
      unfold Go.Lib.trimRightS at h1 ⊢
      rw [List.reverse_append, List.dropWhile_append_of_pos (by intro b hb; simp only [List.reverse_cons, List.reverse_nil, List.nil_append, List.mem_singleton] at hb; subst hb; decide)]
      exact h1
    obtain ⟨t, h1, h2⟩ := value_dec v hv
    unfold numberR
    rw [hbody, List.drop_left, show sufR false false [117] = some (true, false) by decide]
    dsimp only
    rw [h1]
    dsimp only
    rw [if_neg (by omega), if_neg (by simp)]
    rfl
  cases hd : Go.Lib.decDigits v with
  | nil => exact absurd hd (dec_ne v)
  | cons b t =>
    rw [hd] at hall hN
    rw [List.cons_append] at hall hN ⊢
    rw [one_num (dec_dig v b (by rw [hd]; simp)) hall hu, hN]
def numT (v : Nat) : List UInt8 := 48 :: 120 :: dig1 16 v ++ (32 :: 48 :: digS 8 v ++ (32 :: (dig1 10 v ++ [117])))
/-- The three numbers are read. -/
theorem numbers_scan (v : Nat) (hv : v ≤ 4294967295) : ∃ k1 k2 k3 k4, scanS (numT v) = .ok [((3, typT (decide (2147483647 < v)) false, (v : Int)), k1), ((3, typT (decide (2147483647 < v)) false, (v : Int)), k2), ((3, typT true false, (v : Int)), k3), ((0, [], 0), k4)] := by
  have h16 := fun u (hu : Ends u) => num16 v hv hu
  have h8 := fun u (hu : Ends u) => num8 v hv hu
  have h10 := fun u (hu : Ends u) => num10 v hv hu
  have hok : OKs [] [((3, typT (decide (2147483647 < v)) false, (v : Int)), 48 :: 120 :: dig1 16 v, [32]), ((3, typT (decide (2147483647 < v)) false, (v : Int)), 48 :: digS 8 v, [32]), ((3, typT true false, (v : Int)), dig1 10 v ++ [117], [])] :=
    ⟨h16, by simp, gap_32, .inr ⟨_, rfl⟩, h8, by simp, gap_32, .inr ⟨_, rfl⟩, h10, by simp, gap_nil, .inl rfl, trivial⟩
  obtain ⟨h1, _⟩ := scan_items gap_nil _ [] 0 0 ((numT v).length + 1) (s := numT v) hok gap_nil (by simp [numT, bodyT]) (Nat.zero_le _) (by omega) (by omega)
  obtain ⟨L, h3, h4⟩ := h1 (by simp)
  have hL : scanS (numT v) = .ok L := h3
  rw [hL]
  match L, h4 with
  | [(a, k1), (b, k2), (c, k3), (d, k4)], h4 =>
    simp only [List.map_cons, List.map_nil, List.cons_append, List.nil_append, List.cons.injEq, and_true] at h4
    obtain ⟨rfl, rfl, rfl, rfl⟩ := h4
    exact ⟨k1, k2, k3, k4, rfl⟩
theorem hex_loop (v : Nat) (a b : List UInt8) (h : Heap) : ∀ (n : Nat) (s : List UInt8), n ≤ 4294967295 → s.length + n ≤ 9000000000 →
    Brun tab 121 (.loop f8l5) (ofL [(0, .int .u32 v), (3, .str s), (4, .str a), (5, .str b), (6, .int .u32 (n : Int))]) h = some (.exit 0, ofL [(0, .int .u32 v), (3, .str (digS 16 n ++ s)), (4, .str a), (5, .str b), (6, .int .u32 0), (14, .bool false)], h) := by
  intro n
  induction n using Nat.strongRecOn with
  | _ n ih =>
    intro s hn hs
    rw [Brun_loop]
    by_cases h0 : n = 0
    · subst h0
      rw [digS_zero, List.nil_append]
      clear ih hn hs
      repeat (any_goals first | simp (dsimp := false) (maxSteps := 4000000) (maxDischargeDepth := 8) (implicitDefEqProofs := false) [*, -Int.not_le, -Int.not_lt, amLt, f8c, f8m5, f8m9, f8r0, f8r1, f8r2, f8r3, f8r4, f8r5, f8r6, f8r7, f8r8, f8r9, f8m13, f8r10, f8r11, f8r12, f8r13, f8r14, f8r15, f8r16, f8r17, f8r18, f8r19, f8r20, f8r21, f8r22, f8r23, f8r24, f8r25, f8l5_b, f8l9_b, f8l13_b] | with_reducible refine ch_both (fun _ => ?_) (fun _ => ?_) | with_reducible refine ite_both (fun _ => ?_) (fun _ => ?_) | intro _)
    · have hpos : 0 < n := by omega
      have hdig := digS_pos (base := 16) (by decide) hpos
      have e : digS 16 n ++ s = digS 16 (n / 16) ++ (chrD (n % 16) :: s) := by rw [hdig]; simp
      have ih2 := ih (n / 16) (by omega) (chrD (n % 16) :: s) (by omega) (by simp only [List.length_cons]; omega)
      have hm : n % 16 < 16 := by omega
      have tm : ((n : Int)).tmod 16 = ((n % 16 : Nat) : Int) := by rw [Int.tmod_eq_emod_of_nonneg (by omega)]; omega
      have td : IntKind.u32.wrap (((n : Int)).tdiv 16) = ((n / 16 : Nat) : Int) := by
        rw [Int.tdiv_eq_ediv_of_nonneg (by omega), IntKind.wrap_u32]
        omega
      have td2 : IntKind.u32.wrap ((n : Int) / 16) = ((n / 16 : Nat) : Int) := by rw [IntKind.wrap_u32]; omega
      have ht : ([48, 49, 50, 51, 52, 53, 54, 55, 56, 57, 97, 98, 99, 100, 101, 102] : List UInt8)[n % 16]? = some (chrD (n % 16)) := by
        have : ∀ x : Fin 16, ([48, 49, 50, 51, 52, 53, 54, 55, 56, 57, 97, 98, 99, 100, 101, 102] : List UInt8)[x.val]? = some (chrD x.val) := by decide
        exact this ⟨n % 16, hm⟩
      have ht2 : ∀ hh : n % 16 < ([48, 49, 50, 51, 52, 53, 54, 55, 56, 57, 97, 98, 99, 100, 101, 102] : List UInt8).length, ([48, 49, 50, 51, 52, 53, 54, 55, 56, 57, 97, 98, 99, 100, 101, 102] : List UInt8)[n % 16]'hh = chrD (n % 16) := fun hh => (List.getElem?_eq_some_iff.1 ht).2
      have hlt : (chrD (n % 16)).toNat < 128 := by
        have : ∀ x : Fin 16, (chrD x.val).toNat < 128 := by decide
        exact this ⟨n % 16, hm⟩
      have hlt2 : ((chrD (n % 16)).toNat : Int) < 128 := by omega
      have hge : (0 : Int) ≤ (chrD (n % 16)).toNat := by omega
      have hb : UInt8.ofNat ((chrD (n % 16)).toNat : Int).toNat = chrD (n % 16) := by simp
      have ha := str_add (a := [chrD (n % 16)]) (b := s) (by simp only [List.length_cons, List.length_nil]; omega)
      rw [List.singleton_append] at ha
      have hml : ((n % 16 : Nat) : Int) < 16 := by omega
      have hT : ∃ T : List UInt8, T = [48, 49, 50, 51, 52, 53, 54, 55, 56, 57, 97, 98, 99, 100, 101, 102] ∧ T.length = 16 := ⟨_, rfl, rfl⟩
      rw [e, ← ih2]
      have h0' : ¬ (n : Int) = 0 := by omega
      generalize digS 16 (n / 16) ++ (chrD (n % 16) :: s) = D at *
      generalize chrD (n % 16) = c at *
      generalize n % 16 = q at *
      generalize n / 16 = d at *
      clear ih ih2 hn hs hdig e hT
      repeat (any_goals first | simp (dsimp := false) (maxSteps := 4000000) (maxDischargeDepth := 8) (implicitDefEqProofs := false) [*, -Int.not_le, -Int.not_lt, amLt, f8c, f8m5, f8m9, f8r0, f8r1, f8r2, f8r3, f8r4, f8r5, f8r6, f8r7, f8r8, f8r9, f8m13, f8r10, f8r11, f8r12, f8r13, f8r14, f8r15, f8r16, f8r17, f8r18, f8r19, f8r20, f8r21, f8r22, f8r23, f8r24, f8r25, f8l5_b, f8l9_b, f8l13_b] | with_reducible refine ch_both (fun _ => ?_) (fun _ => ?_) | with_reducible refine ite_both (fun _ => ?_) (fun _ => ?_) | intro _)
theorem oct_loop (v : Nat) (a b : List UInt8) (h : Heap) : ∀ (n : Nat) (s : List UInt8), n ≤ 4294967295 → s.length + n ≤ 9000000000 →
    Brun tab 121 (.loop f8l9) (ofL [(0, .int .u32 v), (3, .str a), (4, .str s), (5, .str b), (7, .int .u32 (n : Int))]) h = some (.exit 2, ofL [(0, .int .u32 v), (3, .str a), (4, .str (digS 8 n ++ s)), (5, .str b), (7, .int .u32 0), (25, .bool false)], h) := by
  intro n
  induction n using Nat.strongRecOn with
  | _ n ih =>
    intro s hn hs
    rw [Brun_loop]
    by_cases h0 : n = 0
    · subst h0
      rw [digS_zero, List.nil_append]
      clear ih hn hs
      repeat (any_goals first | simp (dsimp := false) (maxSteps := 4000000) (maxDischargeDepth := 8) (implicitDefEqProofs := false) [*, -Int.not_le, -Int.not_lt, amLt, f8c, f8m5, f8m9, f8r0, f8r1, f8r2, f8r3, f8r4, f8r5, f8r6, f8r7, f8r8, f8r9, f8m13, f8r10, f8r11, f8r12, f8r13, f8r14, f8r15, f8r16, f8r17, f8r18, f8r19, f8r20, f8r21, f8r22, f8r23, f8r24, f8r25, f8l5_b, f8l9_b, f8l13_b] | with_reducible refine ch_both (fun _ => ?_) (fun _ => ?_) | with_reducible refine ite_both (fun _ => ?_) (fun _ => ?_) | intro _)
    · have hpos : 0 < n := by omega
      have hdig := digS_pos (base := 8) (by decide) hpos
      have e : digS 8 n ++ s = digS 8 (n / 8) ++ (chrD (n % 8) :: s) := by rw [hdig]; simp
      have ih2 := ih (n / 8) (by omega) (chrD (n % 8) :: s) (by omega) (by simp only [List.length_cons]; omega)
      have hm : n % 8 < 8 := by omega
      have tm : ((n : Int)).tmod 8 = ((n % 8 : Nat) : Int) := by rw [Int.tmod_eq_emod_of_nonneg (by omega)]; omega
      have td : IntKind.u32.wrap (((n : Int)).tdiv 8) = ((n / 8 : Nat) : Int) := by
        rw [Int.tdiv_eq_ediv_of_nonneg (by omega), IntKind.wrap_u32]
        omega
      have td2 : IntKind.u32.wrap ((n : Int) / 8) = ((n / 8 : Nat) : Int) := by rw [IntKind.wrap_u32]; omega
      have ht : ([48, 49, 50, 51, 52, 53, 54, 55] : List UInt8)[n % 8]? = some (chrD (n % 8)) := by
        have : ∀ x : Fin 8, ([48, 49, 50, 51, 52, 53, 54, 55] : List UInt8)[x.val]? = some (chrD x.val) := by decide
        exact this ⟨n % 8, hm⟩
      have ht2 : ∀ hh : n % 8 < ([48, 49, 50, 51, 52, 53, 54, 55] : List UInt8).length, ([48, 49, 50, 51, 52, 53, 54, 55] : List UInt8)[n % 8]'hh = chrD (n % 8) := fun hh => (List.getElem?_eq_some_iff.1 ht).2
      have hlt : (chrD (n % 8)).toNat < 128 := by
        have : ∀ x : Fin 8, (chrD x.val).toNat < 128 := by decide
        exact this ⟨n % 8, hm⟩
      have hlt2 : ((chrD (n % 8)).toNat : Int) < 128 := by omega
      have hge : (0 : Int) ≤ (chrD (n % 8)).toNat := by omega
      have hb : UInt8.ofNat ((chrD (n % 8)).toNat : Int).toNat = chrD (n % 8) := by simp
      have ha := str_add (a := [chrD (n % 8)]) (b := s) (by simp only [List.length_cons, List.length_nil]; omega)
      rw [List.singleton_append] at ha
      have hml : ((n % 8 : Nat) : Int) < 8 := by omega
      have hT : ∃ T : List UInt8, T = [48, 49, 50, 51, 52, 53, 54, 55] ∧ T.length = 8 := ⟨_, rfl, rfl⟩
      rw [e, ← ih2]
      have h0' : ¬ (n : Int) = 0 := by omega
      generalize digS 8 (n / 8) ++ (chrD (n % 8) :: s) = D at *
      generalize chrD (n % 8) = c at *
      generalize n % 8 = q at *
      generalize n / 8 = d at *
      clear ih ih2 hn hs hdig e hT
      repeat (any_goals first | simp (dsimp := false) (maxSteps := 4000000) (maxDischargeDepth := 8) (implicitDefEqProofs := false) [*, -Int.not_le, -Int.not_lt, amLt, f8c, f8m5, f8m9, f8r0, f8r1, f8r2, f8r3, f8r4, f8r5, f8r6, f8r7, f8r8, f8r9, f8m13, f8r10, f8r11, f8r12, f8r13, f8r14, f8r15, f8r16, f8r17, f8r18, f8r19, f8r20, f8r21, f8r22, f8r23, f8r24, f8r25, f8l5_b, f8l9_b, f8l13_b] | with_reducible refine ch_both (fun _ => ?_) (fun _ => ?_) | with_reducible refine ite_both (fun _ => ?_) (fun _ => ?_) | intro _)
theorem dec_loop (v : Nat) (a b : List UInt8) (h : Heap) : ∀ (n : Nat) (s : List UInt8), n ≤ 4294967295 → s.length + n ≤ 9000000000 →
    Brun tab 121 (.loop f8l13) (ofL [(0, .int .u32 v), (3, .str a), (4, .str b), (5, .str s), (8, .int .u32 (n : Int))]) h = some (.exit 4, ofL [(0, .int .u32 v), (3, .str a), (4, .str b), (5, .str (digS 10 n ++ s)), (8, .int .u32 0), (36, .bool false)], h) := by
  intro n
  induction n using Nat.strongRecOn with
  | _ n ih =>
    intro s hn hs
    rw [Brun_loop]
    by_cases h0 : n = 0
    · subst h0
      rw [digS_zero, List.nil_append]
      clear ih hn hs
      repeat (any_goals first | simp (dsimp := false) (maxSteps := 4000000) (maxDischargeDepth := 8) (implicitDefEqProofs := false) [*, -Int.not_le, -Int.not_lt, amLt, f8c, f8m5, f8m9, f8r0, f8r1, f8r2, f8r3, f8r4, f8r5, f8r6, f8r7, f8r8, f8r9, f8m13, f8r10, f8r11, f8r12, f8r13, f8r14, f8r15, f8r16, f8r17, f8r18, f8r19, f8r20, f8r21, f8r22, f8r23, f8r24, f8r25, f8l5_b, f8l9_b, f8l13_b] | with_reducible refine ch_both (fun _ => ?_) (fun _ => ?_) | with_reducible refine ite_both (fun _ => ?_) (fun _ => ?_) | intro _)
    · have hpos : 0 < n := by omega
      have hdig := digS_pos (base := 10) (by decide) hpos
      have e : digS 10 n ++ s = digS 10 (n / 10) ++ (chrD (n % 10) :: s) := by rw [hdig]; simp
      have ih2 := ih (n / 10) (by omega) (chrD (n % 10) :: s) (by omega) (by simp only [List.length_cons]; omega)
      have hm : n % 10 < 10 := by omega
      have tm : ((n : Int)).tmod 10 = ((n % 10 : Nat) : Int) := by rw [Int.tmod_eq_emod_of_nonneg (by omega)]; omega
      have td : IntKind.u32.wrap (((n : Int)).tdiv 10) = ((n / 10 : Nat) : Int) := by
        rw [Int.tdiv_eq_ediv_of_nonneg (by omega), IntKind.wrap_u32]
        omega
      have td2 : IntKind.u32.wrap ((n : Int) / 10) = ((n / 10 : Nat) : Int) := by rw [IntKind.wrap_u32]; omega
      have ht : ([48, 49, 50, 51, 52, 53, 54, 55, 56, 57] : List UInt8)[n % 10]? = some (chrD (n % 10)) := by
        have : ∀ x : Fin 10, ([48, 49, 50, 51, 52, 53, 54, 55, 56, 57] : List UInt8)[x.val]? = some (chrD x.val) := by decide
        exact this ⟨n % 10, hm⟩
      have ht2 : ∀ hh : n % 10 < ([48, 49, 50, 51, 52, 53, 54, 55, 56, 57] : List UInt8).length, ([48, 49, 50, 51, 52, 53, 54, 55, 56, 57] : List UInt8)[n % 10]'hh = chrD (n % 10) := fun hh => (List.getElem?_eq_some_iff.1 ht).2
      have hlt : (chrD (n % 10)).toNat < 128 := by
        have : ∀ x : Fin 10, (chrD x.val).toNat < 128 := by decide
        exact this ⟨n % 10, hm⟩
      have hlt2 : ((chrD (n % 10)).toNat : Int) < 128 := by omega
      have hge : (0 : Int) ≤ (chrD (n % 10)).toNat := by omega
      have hb : UInt8.ofNat ((chrD (n % 10)).toNat : Int).toNat = chrD (n % 10) := by simp
      have ha := str_add (a := [chrD (n % 10)]) (b := s) (by simp only [List.length_cons, List.length_nil]; omega)
      rw [List.singleton_append] at ha
      have hml : ((n % 10 : Nat) : Int) < 10 := by omega
      have hT : ∃ T : List UInt8, T = [48, 49, 50, 51, 52, 53, 54, 55, 56, 57] ∧ T.length = 10 := ⟨_, rfl, rfl⟩
      rw [e, ← ih2]
      have h0' : ¬ (n : Int) = 0 := by omega
      generalize digS 10 (n / 10) ++ (chrD (n % 10) :: s) = D at *
      generalize chrD (n % 10) = c at *
      generalize n % 10 = q at *
      generalize n / 10 = d at *
      clear ih ih2 hn hs hdig e hT
      repeat (any_goals first | simp (dsimp := false) (maxSteps := 4000000) (maxDischargeDepth := 8) (implicitDefEqProofs := false) [*, -Int.not_le, -Int.not_lt, amLt, f8c, f8m5, f8m9, f8r0, f8r1, f8r2, f8r3, f8r4, f8r5, f8r6, f8r7, f8r8, f8r9, f8m13, f8r10, f8r11, f8r12, f8r13, f8r14, f8r15, f8r16, f8r17, f8r18, f8r19, f8r20, f8r21, f8r22, f8r23, f8r24, f8r25, f8l5_b, f8l9_b, f8l13_b] | with_reducible refine ch_both (fun _ => ?_) (fun _ => ?_) | with_reducible refine ite_both (fun _ => ?_) (fun _ => ?_) | intro _)
theorem numbers_ok (h : Heap) (v : Nat) (hv : v ≤ 4294967295) : Ccall tab 8 [.int .u32 v] h = some (.bool true, h) := by
  have l1 := fun h => hex_loop v [] [] h v [] hv (by simp; omega)
  have l2 := fun h => oct_loop v (digS 16 v) [] h v [] hv (by simp; omega)
  have l3 := fun h => dec_loop v (digS 16 v) (digS 8 v) h v [] hv (by simp; omega)
  simp only [List.append_nil] at l1 l2 l3
  obtain ⟨k1, k2, k3, k4, hS⟩ := numbers_scan v hv
  have d16 := digS_len (base := 16) (by decide) 32 v (by omega)
  have d8 := digS_len (base := 8) (by decide) 32 v (by omega)
  have d10 := digS_len (base := 10) (by decide) 32 v (by omega)
  have dl : ∀ base, (digS base v).length ≤ 32 → (dig1 base v).length ≤ 32 := by
    intro base hb
    unfold dig1
    split
    · simp
    · exact hb
  have g16 := dl 16 d16
  have g10 := dl 10 d10
  have hT : (numT v).length ≤ 200 := by
    unfold numT
    simp only [List.length_cons, List.length_append, List.length_nil]
    omega
  have hs := fun h => scan_ok h (numT v) (by omega)
  unfold scanV at hs
  simp only [if_neg (show ¬ 65536 < (numT v).length by omega), hS] at hs
  have a1 := str_add (a := [48, 120]) (b := dig1 16 v) (by simp; omega)
  have a2 := str_add (a := [48, 120] ++ dig1 16 v) (b := [32, 48]) (by simp; omega)
  have a3 := str_add (a := [48, 120] ++ dig1 16 v ++ [32, 48]) (b := digS 8 v) (by simp; omega)
  have a4 := str_add (a := [48, 120] ++ dig1 16 v ++ [32, 48] ++ digS 8 v) (b := [32]) (by simp; omega)
  have a5 := str_add (a := [48, 120] ++ dig1 16 v ++ [32, 48] ++ digS 8 v ++ [32]) (b := dig1 10 v) (by simp; omega)
  have a6 := str_add (a := [48, 120] ++ dig1 16 v ++ [32, 48] ++ digS 8 v ++ [32] ++ dig1 10 v) (b := [117]) (by simp; omega)
  have e6 : [48, 120] ++ dig1 16 v ++ [32, 48] ++ digS 8 v ++ [32] ++ dig1 10 v ++ [117] = numT v := by simp [numT]
  rw [e6] at a6
  simp only [tokRows, tokRow, List.map_cons, List.map_nil] at hs
  have wv : IntKind.i64.wrap (v : Int) = v := IntWalk.i64_in _ (by omega)
  generalize numT v = T at *
  generalize spotOf T k1 = p1 at *
  generalize spotOf T k2 = p2 at *
  generalize spotOf T k3 = p3 at *
  generalize spotOf T k4 = p4 at *
  generalize [48, 120] ++ dig1 16 v ++ [32, 48] ++ digS 8 v ++ [32] ++ dig1 10 v = T5 at *
  generalize [48, 120] ++ dig1 16 v ++ [32, 48] ++ digS 8 v ++ [32] = T4 at *
  generalize [48, 120] ++ dig1 16 v ++ [32, 48] ++ digS 8 v = T3 at *
  generalize [48, 120] ++ dig1 16 v ++ [32, 48] = T2 at *
  generalize [48, 120] ++ dig1 16 v = T1 at *
  refine Ccall_own rfl rfl rfl rfl ?_
  have t1 : typT true false = [117, 110, 115, 105, 103, 110, 101, 100, 32, 105, 110, 116] := rfl
  have t2 : typT false false = [105, 110, 116] := rfl
  by_cases h0 : v = 0
  · subst h0
    have x1 : dig1 16 0 = [48] := rfl
    have x2 : dig1 10 0 = [48] := rfl
    have hd : decide (2147483647 < 0) = false := rfl
    simp only [hd, t1, t2, x1, x2, digS_zero, Int.natCast_zero] at hs a1 a3 a5 l1 l2 l3
    have wv0 : IntKind.i64.wrap 0 = 0 := rfl
    clear wv
    clear hv hS d16 d8 d10 dl g16 g10 hT e6 t1 t2 x1 x2 hd
    repeat (any_goals first | simp (dsimp := false) (maxSteps := 4000000) (maxDischargeDepth := 8) (implicitDefEqProofs := false) [*, -Int.not_le, -Int.not_lt, amLt, f8c, f8m5, f8m9, f8r0, f8r1, f8r2, f8r3, f8r4, f8r5, f8r6, f8r7, f8r8, f8r9, f8m13, f8r10, f8r11, f8r12, f8r13, f8r14, f8r15, f8r16, f8r17, f8r18, f8r19, f8r20, f8r21, f8r22, f8r23, f8r24, f8r25, f8l5_b, f8l9_b, f8l13_b, heads_ok] | with_reducible refine ch_both (fun _ => ?_) (fun _ => ?_) | with_reducible refine ite_both (fun _ => ?_) (fun _ => ?_) | intro _)
  · have x1 : dig1 16 v = digS 16 v := by unfold dig1; rw [if_neg h0]
    have x2 : dig1 10 v = digS 10 v := by unfold dig1; rw [if_neg h0]
    have h0' : ¬ (v : Int) = 0 := by omega
    by_cases hb : 2147483647 < v
    · have hb' : ¬ (v : Int) ≤ 2147483647 := by omega
      have hd : decide (2147483647 < v) = true := decide_eq_true hb
      simp only [hd, t1, t2, x1, x2] at hs a1 a5
      clear hv hS d16 d8 d10 dl g16 g10 hT e6 t1 t2 x1 x2 hd hb
      repeat (any_goals first | simp (dsimp := false) (maxSteps := 4000000) (maxDischargeDepth := 8) (implicitDefEqProofs := false) [*, -Int.not_le, -Int.not_lt, amLt, f8c, f8m5, f8m9, f8r0, f8r1, f8r2, f8r3, f8r4, f8r5, f8r6, f8r7, f8r8, f8r9, f8m13, f8r10, f8r11, f8r12, f8r13, f8r14, f8r15, f8r16, f8r17, f8r18, f8r19, f8r20, f8r21, f8r22, f8r23, f8r24, f8r25, f8l5_b, f8l9_b, f8l13_b, heads_ok] | with_reducible refine ch_both (fun _ => ?_) (fun _ => ?_) | with_reducible refine ite_both (fun _ => ?_) (fun _ => ?_) | intro _)
    · have hb' : (v : Int) ≤ 2147483647 := by omega
      have hd : decide (2147483647 < v) = false := decide_eq_false hb
      simp only [hd, t1, t2, x1, x2] at hs a1 a5
      clear hv hS d16 d8 d10 dl g16 g10 hT e6 t1 t2 x1 x2 hd hb
      repeat (any_goals first | simp (dsimp := false) (maxSteps := 4000000) (maxDischargeDepth := 8) (implicitDefEqProofs := false) [*, -Int.not_le, -Int.not_lt, amLt, f8c, f8m5, f8m9, f8r0, f8r1, f8r2, f8r3, f8r4, f8r5, f8r6, f8r7, f8r8, f8r9, f8m13, f8r10, f8r11, f8r12, f8r13, f8r14, f8r15, f8r16, f8r17, f8r18, f8r19, f8r20, f8r21, f8r22, f8r23, f8r24, f8r25, f8l5_b, f8l9_b, f8l13_b, heads_ok] | with_reducible refine ch_both (fun _ => ?_) (fun _ => ?_) | with_reducible refine ite_both (fun _ => ?_) (fun _ => ?_) | intro _)
theorem numbers_law : ∀ xs, ArgsL 1048576 f8s xs → ∃ h', Ccall tab 8 xs [] = some (.bool true, h') := by
  intro xs hxs
  unfold f8s at hxs
  simp only [ArgsL, Sh.Arg, Sh.Row] at hxs
  obtain ⟨x, r, rfl, ⟨n, hn, hx⟩, rfl⟩ := hxs
  cases hx
  simp only [Lit.wf, Bool.and_eq_true, decide_eq_true_eq] at hn
  have e1 : IntKind.u32.min = 0 := rfl
  have e2 : IntKind.u32.max = 4294967295 := rfl
  rw [e1, e2] at hn
  obtain ⟨v, rfl⟩ : ∃ v : Nat, n = (v : Int) := ⟨n.toNat, by omega⟩
  exact ⟨_, numbers_ok [] v (by omega)⟩

end Go.Proofs.YtmpdpjkblcdfkaaDoor
