/- Names and words. -/
import Derived.Test.YtmpdpjkblcdfkaaDoorZa
import Derived.Test.YtmpdpjkblcdfkaaDoorHd
import Derived.Test.YtmpdpjkblcdfkaaDoorAmW
namespace Go.Proofs.YtmpdpjkblcdfkaaDoor
open Go.AM
set_option maxRecDepth 20000
set_option maxHeartbeats 4000000
set_option linter.unusedSimpArgs false
set_option linter.unusedVariables false
attribute [local congr] andF_cg onF_cg bthen_cg bkeep_cg bcond_cg guardV_cg putF_cg guardF_cg ite_cg stepsF_cg
attribute [local simp] Brun_skip Brun_exit Brun_ret Brun_seq Brun_cond Brun_block Brun_region bthen_normal bthen_ret bthen_exit bblock_normal bblock_ret bblock_exit bkeep_some andF_some onF_some onF_none guardF_none guardF_some guardV_tup putF_some putF_none stepsF_nil stepsF_cons upd_apply ofL_cons ofL_nil bown_normal bown_ret banswer_normal banswer_ret aresults ares List.replicate stepF_call stepF_callD stepF_move stepF_pick stepF_alloc stepF_allocV stepF_box stepF_boxV stepF_build stepF_buildSlice stepF_buildSliceV stepF_load stepF_store stepF_nilCheck stepF_bin stepF_eq stepF_un stepF_conv stepF_strId strIdV_str strIdV_int stepF_toStr stepF_toBytes stepF_fn stepF_mkSlice stepF_slice stepF_strSlice stepF_fieldAddr stepF_field stepF_idxAddr stepF_idxArr stepF_index stepF_strIndex stepF_extract stepF_len0 stepF_len1 stepF_min stepF_max stepF_append stepF_appendF appF_none appF_row stepF_mkMap stepF_mkIface stepF_lookup stepF_mapUpdate stepF_ext aext_idx aext_count aext_same cellsF newF abin_add abin_sub abin_mul abin_quo abin_rem abin_eql abin_neq abin_lss abin_leq abin_gtr abin_geq abin_and abin_or abin_xor abin_shl abin_shr abin_seql abin_sneq aun_not aun_neg aeq_bool aeq_agg eqCells_nil eqCells_int eqCells_bool eqCells_str cellsOf_agg cellsOf_int cellsOf_bool cellsOf_str cellsOf_is cellsOf_ms cellsOf_fn cellsOf_nilp cellsOf_mp cellsOf_mm cellsOf_nilm cellsOf_nili cellsOf_ifc cellsOf_ip cget_one cget_agg ev_t ev_c fillp_nil fillp_cons isSc_int isSc_bool isSc_str isSc_is isSc_ms isSc_fn isSc_mm isSc_mp isSc_ip isSc_nilp isSc_nilm isSc_nili isSc_nilf isSc_ifc splice chunk strip strip.stripL imm imm.immL Areify_int Areify_bool Areify_str Areify_is Areify_nilp Areify_tup Areify_agg AreifyL andF_chi andF_ch onF_chi onF_ch bthen_ch bthen_chi bblock_ch bblock_chi bkeep_ch bkeep_chi bown_ch bown_chi banswer_ch banswer_chi isSome_ch bcond_ch guardV_ch1 guardV_ch0 chF_true chF_false chF_not
attribute [local simp ↓] andF_some andF_chi andF_ch onF_some onF_none onF_chi onF_ch bthen_normal bthen_ret bthen_exit bthen_ch bthen_chi bblock_normal bblock_ret bblock_exit bblock_ch bblock_chi bkeep_some bkeep_ch bkeep_chi bown_normal bown_ret bown_ch bown_chi banswer_normal banswer_ret banswer_ch banswer_chi bcond_ch guardV_ch1 guardV_ch0 guardV_tup guardF_none guardF_some putF_some putF_none stepsF_nil stepsF_cons chF_true chF_false Brun_seq Brun_cond Brun_block Brun_region Brun_skip Brun_ret Brun_exit stepF_call stepF_callD stepF_move stepF_pick stepF_alloc stepF_allocV stepF_box stepF_boxV stepF_build stepF_buildSlice stepF_buildSliceV stepF_load stepF_store stepF_nilCheck stepF_bin stepF_eq stepF_un stepF_conv stepF_strId stepF_toStr stepF_toBytes stepF_fn stepF_mkSlice stepF_slice stepF_strSlice stepF_fieldAddr stepF_field stepF_idxAddr stepF_idxArr stepF_index stepF_strIndex stepF_extract stepF_len0 stepF_len1 stepF_min stepF_max stepF_append stepF_appendF stepF_mkMap stepF_mkIface stepF_lookup stepF_mapUpdate stepF_ext
set_option maxHeartbeats 2000000
theorem lastIx_succ (s : List UInt8) (c : UInt8) (n : Nat) : lastIx s c (n + 1) = if s[n]? = some c then (n : Int) else lastIx s c n := rfl
theorem count_succ (s : List UInt8) (n : Nat) (b : UInt8) (hb : s[n]? = some b) : ((s.take (n + 1)).count 10) = (s.take n).count 10 + if b = 10 then 1 else 0 := by
  rw [List.take_add_one, hb]
  by_cases q : b = 10 <;> simp [q]
theorem rat_loop (s : List UInt8) (hs : s.length ≤ 16777216) (off : Int) (B : Blk) (n : Nat) (hn : n ≤ s.length) : ∀ (m i : Nat), i + m = n →
    Brun tab 33 (.loop f10l4) (ofL [(0, .str s), (1, .int .i64 n), (4, .mp 0 0), (5, .mp 1 0), (6, .int .i64 i)]) [B, .cells [.int .i64 (lineAt s i), .int .i64 (colAt s i), .int .i64 off]] =
      some (.exit 0, ofL [(0, .str s), (1, .int .i64 n), (4, .mp 0 0), (5, .mp 1 0), (6, .int .i64 n), (16, .bool false)], [B, .cells [.int .i64 (lineAt s n), .int .i64 (colAt s n), .int .i64 off]]) := by
  intro m
  induction m with
  | zero =>
    intro i hi
    have hi' : i = n := by omega
    subst hi'
    rw [Brun_loop]
    clear hn hs
    repeat (any_goals first | simp (dsimp := false) (maxSteps := 4000000) (maxDischargeDepth := 8) (implicitDefEqProofs := false) [*, -Int.not_le, -Int.not_lt, amLt, f10c, f10m4, f10r0, f10r1, f10r2, f10r3, f10r4, f10r5, f10r6, f10r7, f10r8, f10r9, f10r10, f10l4_b] | with_reducible refine ch_both (fun _ => ?_) (fun _ => ?_) | with_reducible refine ite_both (fun _ => ?_) (fun _ => ?_) | intro _)
  | succ m ih =>
    intro i hi
    have hlt : i < s.length := by omega
    have hb : s[i]? = some s[i] := List.getElem?_eq_getElem hlt
    generalize s[i] = b at hb
    have e3 : ¬ (n : Int) ≤ i := by omega
    have hw := w64 i (by omega)
    have hlb := lastIx_lt s 10 i
    have hcb : (s.take i).count 10 ≤ s.length := Nat.le_trans List.count_le_length (by simp; omega)
    have ih2 := ih (i + 1) (by omega)
    have w1 : IntKind.i64.wrap (colAt s i + 1) = colAt s i + 1 := IntWalk.i64_in _ (by unfold colAt; omega)
    have w2 : IntKind.i64.wrap (lineAt s i + 1) = lineAt s i + 1 := IntWalk.i64_in _ (by unfold lineAt; omega)
    have hcs := count_succ s i b hb
    have hls := lastIx_succ s 10 i
    rw [hb] at hls
    rw [Brun_loop]
    by_cases q : b = 10
    · subst q
      have l1 : lineAt s (i + 1) = lineAt s i + 1 := by unfold lineAt; rw [hcs]; simp; omega
      have l2 : colAt s (i + 1) = 1 := by unfold colAt; rw [hls]; simp; omega
      rw [l1, l2] at ih2
      push_cast at ih2
      have q2 : (((10 : UInt8).toNat : Nat) : Int) = 10 := rfl
      clear ih hn hs hlt hlb hcb hcs hls l1 l2
      repeat (any_goals first | simp (dsimp := false) (maxSteps := 4000000) (maxDischargeDepth := 8) (implicitDefEqProofs := false) [*, -Int.not_le, -Int.not_lt, amLt, f10c, f10m4, f10r0, f10r1, f10r2, f10r3, f10r4, f10r5, f10r6, f10r7, f10r8, f10r9, f10r10, f10l4_b] | with_reducible refine ch_both (fun _ => ?_) (fun _ => ?_) | with_reducible refine ite_both (fun _ => ?_) (fun _ => ?_) | intro _)
    · have l1 : lineAt s (i + 1) = lineAt s i := by unfold lineAt; rw [hcs]; simp [q]
      have l2 : colAt s (i + 1) = colAt s i + 1 := by unfold colAt; rw [hls]; simp [q]; omega
      rw [l1, l2] at ih2
      push_cast at ih2
      have q2 : ¬ ((b.toNat : Int) = 10) := fun e => q (UInt8.toNat_inj.1 (by have : b.toNat = 10 := by omega
                                                                              rw [this]; rfl))
      clear ih hn hs hlt hlb hcb hcs hls l1 l2 q
      repeat (any_goals first | simp (dsimp := false) (maxSteps := 4000000) (maxDischargeDepth := 8) (implicitDefEqProofs := false) [*, -Int.not_le, -Int.not_lt, amLt, f10c, f10m4, f10r0, f10r1, f10r2, f10r3, f10r4, f10r5, f10r6, f10r7, f10r8, f10r9, f10r10, f10l4_b] | with_reducible refine ch_both (fun _ => ?_) (fun _ => ?_) | with_reducible refine ite_both (fun _ => ?_) (fun _ => ?_) | intro _)
theorem rat_ok (h : Heap) (s : List UInt8) (off : Int) (hs : s.length ≤ 1048576) : Ccall tab 10 [.str s, .int .i64 off] h = some (atV s (offAt s off), h) := by
  have hl := offAt_le s off
  have e1 : (if (if off ≤ (s.length : Int) then off else (s.length : Int)) ≤ 0 then 0 else (if off ≤ (s.length : Int) then off else (s.length : Int))) = (offAt s off : Int) := by unfold offAt; split <;> split <;> omega
  generalize hn : offAt s off = n at hl e1
  have lp := rat_loop s (by omega) n (.cells [.int .i64 0, .int .i64 0, .int .i64 0]) n hl n 0 (by omega)
  have l0 : lineAt s 0 = 1 := rfl
  have c0 : colAt s 0 = 1 := rfl
  rw [l0, c0] at lp
  simp only [Int.natCast_zero] at lp
  refine Ccall_own rfl rfl rfl rfl ?_
  clear hs hl hn l0 c0
  repeat (any_goals first | simp (dsimp := false) (maxSteps := 4000000) (maxDischargeDepth := 8) (implicitDefEqProofs := false) [*, -Int.not_le, -Int.not_lt, amLt, f10c, f10m4, f10r0, f10r1, f10r2, f10r3, f10r4, f10r5, f10r6, f10r7, f10r8, f10r9, f10r10, f10l4_b, atV] | with_reducible refine ch_both (fun _ => ?_) (fun _ => ?_) | with_reducible refine ite_both (fun _ => ?_) (fun _ => ?_) | intro _)
def strs (l : List (List UInt8)) : List (List AV) := l.map fun k => [.str k]
theorem strs_len (l : List (List UInt8)) : (strs l).length = l.length := by simp [strs]
theorem strs_get {l : List (List UInt8)} {i : Nat} {k : List UInt8} (h : l[i]? = some k) : (strs l)[i]? = some [.str k] := by simp [strs, h]
theorem kws_ok (h : Heap) : Ccall tab 39 [] h = some (.is (strs kws) .no, h) := by
  refine Ccall_run (w := []) 100 ?_
  kernel_rfl
theorem mem_drop {l : List (List UInt8)} {i : Nat} {k s : List UInt8} (h : l[i]? = some k) : s ∈ l.drop i ↔ s = k ∨ s ∈ l.drop (i + 1) := by
  obtain ⟨h1, h2⟩ := List.getElem?_eq_some_iff.1 h
  rw [List.drop_eq_getElem_cons h1, h2, List.mem_cons]
theorem rkw_loop (s : List UInt8) (l : List (List UInt8)) (hs : l.length ≤ 1000) (h : Heap) : ∀ (m i : Nat), i + m = l.length →
    Brun tab 18 (.loop f27l3) (ofL [(0, .str s), (3, .is (strs l) .no), (4, .int .i64 i)]) h =
      if s ∈ l.drop i then some (.ret, ofL [(2, .bool true)], h) else some (.exit 0, ofL [(0, .str s), (3, .is (strs l) .no), (4, .int .i64 l.length), (9, .bool false)], h) := by
  intro m
  induction m with
  | zero =>
    intro i hi
    have e1 : ¬ s ∈ l.drop i := by rw [List.drop_of_length_le (by omega)]; exact List.not_mem_nil
    have e2 : (l.length : Int) = i := by omega
    rw [Brun_loop, if_neg e1]
    clear hs e1 hi
    repeat (any_goals first | simp (dsimp := false) (maxSteps := 4000000) (maxDischargeDepth := 8) (implicitDefEqProofs := false) [*, -Int.not_le, -Int.not_lt, amLt, f27c, f27m3, f27r0, f27r1, f27r2, f27r3, f27r4, f27r5, f27r6, f27r7, f27l3_b, strs_len] | with_reducible refine ch_both (fun _ => ?_) (fun _ => ?_) | with_reducible refine ite_both (fun _ => ?_) (fun _ => ?_) | intro _)
  | succ m ih =>
    intro i hi
    have hlt : i < l.length := by omega
    have hb : l[i]? = some l[i] := List.getElem?_eq_getElem hlt
    generalize l[i] = k at hb
    have e3 : ¬ (l.length : Int) ≤ i := by omega
    have hw := w64 i (by omega)
    have hm := mem_drop (s := s) hb
    have hg := strs_get hb
    have ih2 := ih (i + 1) (by omega)
    push_cast at ih2
    rw [Brun_loop]
    by_cases q : s = k
    · subst q
      rw [if_pos (hm.2 (.inl rfl))]
      clear ih ih2 hs hlt hb hm hi
      repeat (any_goals first | simp (dsimp := false) (maxSteps := 4000000) (maxDischargeDepth := 8) (implicitDefEqProofs := false) [*, -Int.not_le, -Int.not_lt, amLt, f27c, f27m3, f27r0, f27r1, f27r2, f27r3, f27r4, f27r5, f27r6, f27r7, f27l3_b, strs_len] | with_reducible refine ch_both (fun _ => ?_) (fun _ => ?_) | with_reducible refine ite_both (fun _ => ?_) (fun _ => ?_) | intro _)
    · have q' : ¬ k = s := fun e => q e.symm
      simp only [hm, q, false_or]
      clear ih hs hlt hb hm hi
      repeat (any_goals first | simp (dsimp := false) (maxSteps := 4000000) (maxDischargeDepth := 8) (implicitDefEqProofs := false) [*, -Int.not_le, -Int.not_lt, amLt, f27c, f27m3, f27r0, f27r1, f27r2, f27r3, f27r4, f27r5, f27r6, f27r7, f27l3_b, strs_len] | with_reducible refine ch_both (fun _ => ?_) (fun _ => ?_) | with_reducible refine ite_both (fun _ => ?_) (fun _ => ?_) | intro _)
theorem rkw_ok (h : Heap) (s : List UInt8) : Ccall tab 27 [.str s] h = some (.bool (isKw s), h) := by
  have lp := rkw_loop s kws (by decide) [] 23 0 rfl
  simp only [Int.natCast_zero, List.drop_zero] at lp
  refine Ccall_own rfl rfl rfl rfl ?_
  by_cases q : s ∈ kws
  · have e : isKw s = true := by simpa [isKw] using q
    rw [if_pos q] at lp
    repeat (any_goals first | simp (dsimp := false) (maxSteps := 4000000) (maxDischargeDepth := 8) (implicitDefEqProofs := false) [*, -Int.not_le, -Int.not_lt, amLt, f27c, f27m3, f27r0, f27r1, f27r2, f27r3, f27r4, f27r5, f27r6, f27r7, f27l3_b, kws_ok] | with_reducible refine ch_both (fun _ => ?_) (fun _ => ?_) | with_reducible refine ite_both (fun _ => ?_) (fun _ => ?_) | intro _)
  · have e : isKw s = false := by simpa [isKw] using q
    rw [if_neg q] at lp
    repeat (any_goals first | simp (dsimp := false) (maxSteps := 4000000) (maxDischargeDepth := 8) (implicitDefEqProofs := false) [*, -Int.not_le, -Int.not_lt, amLt, f27c, f27m3, f27r0, f27r1, f27r2, f27r3, f27r4, f27r5, f27r6, f27r7, f27l3_b, kws_ok] | with_reducible refine ch_both (fun _ => ?_) (fun _ => ?_) | with_reducible refine ite_both (fun _ => ?_) (fun _ => ?_) | intro _)
theorem rword_ok (h : Heap) (s : List UInt8) : Ccall tab 14 [.str s] h = some (.bool (isKw s), h) := by
  refine Ccall_own rfl rfl rfl rfl ?_
  repeat (any_goals first | simp (dsimp := false) (maxSteps := 4000000) (maxDischargeDepth := 8) (implicitDefEqProofs := false) [*, -Int.not_le, -Int.not_lt, amLt, f14c, f14r0, f14r1, rkw_ok] | with_reducible refine ch_both (fun _ => ?_) (fun _ => ?_) | with_reducible refine ite_both (fun _ => ?_) (fun _ => ?_) | intro _)
def allTail (s : List UInt8) : Bool := s.all fun b => isTail b.toNat
theorem tail_or (b : UInt8) : isTail b.toNat = (isLet b.toNat || isDig b.toNat) := rfl
theorem drop_get {s : List UInt8} {i : Nat} {b : UInt8} (h : s[i]? = some b) : s.drop i = b :: s.drop (i + 1) := by
  obtain ⟨h1, h2⟩ := List.getElem?_eq_some_iff.1 h
  rw [List.drop_eq_getElem_cons h1, h2]
theorem rname_loop (s : List UInt8) (hs : s.length ≤ 16777216) (h : Heap) : ∀ (m i : Nat), i + m = s.length →
    Brun tab 39 (.loop f12l4) (ofL [(0, .str s), (3, .int .i64 i)]) h =
      if allTail (s.drop i) = true then some (.exit 0, ofL [(0, .str s), (3, .int .i64 s.length), (21, .bool false)], h) else some (.ret, ofL [(2, .bool false)], h) := by
  intro m
  induction m with
  | zero =>
    intro i hi
    have e1 : allTail (s.drop i) = true := by rw [List.drop_of_length_le (by omega)]; rfl
    have e2 : (s.length : Int) = i := by omega
    rw [Brun_loop, if_pos e1]
    clear hs e1 hi
    repeat (any_goals first | simp (dsimp := false) (maxSteps := 4000000) (maxDischargeDepth := 8) (implicitDefEqProofs := false) [*, -Int.not_le, -Int.not_lt, amLt, f12c, f12m4, f12r0, f12r1, f12r2, f12r3, f12r4, f12r5, f12r6, f12r7, f12r8, f12l4_b] | with_reducible refine ch_both (fun _ => ?_) (fun _ => ?_) | with_reducible refine ite_both (fun _ => ?_) (fun _ => ?_) | intro _)
  | succ m ih =>
    intro i hi
    have hlt : i < s.length := by omega
    have hb : s[i]? = some s[i] := List.getElem?_eq_getElem hlt
    generalize s[i] = b at hb
    have e3 : ¬ (s.length : Int) ≤ i := by omega
    have hw := w64 i (by omega)
    have hd : allTail (s.drop i) = (isTail b.toNat && allTail (s.drop (i + 1))) := by rw [drop_get hb]; rfl
    have ih2 := ih (i + 1) (by omega)
    push_cast at ih2
    rw [Brun_loop, hd, tail_or]
    generalize allTail (s.drop (i + 1)) = q at *
    clear ih hs hlt hi hd
    cases h1 : isLet b.toNat <;> cases h2 : isDig b.toNat <;> simp only [Bool.or_self, Bool.or_true, Bool.true_or, Bool.false_and, Bool.true_and]
    · repeat (any_goals first | simp (dsimp := false) (maxSteps := 4000000) (maxDischargeDepth := 8) (implicitDefEqProofs := false) [*, -Int.not_le, -Int.not_lt, amLt, f12c, f12m4, f12r0, f12r1, f12r2, f12r3, f12r4, f12r5, f12r6, f12r7, f12r8, f12l4_b, rletter_ok, rdigit_ok] | with_reducible refine ch_both (fun _ => ?_) (fun _ => ?_) | with_reducible refine ite_both (fun _ => ?_) (fun _ => ?_) | intro _)
    · repeat (any_goals first | simp (dsimp := false) (maxSteps := 4000000) (maxDischargeDepth := 8) (implicitDefEqProofs := false) [*, -Int.not_le, -Int.not_lt, amLt, f12c, f12m4, f12r0, f12r1, f12r2, f12r3, f12r4, f12r5, f12r6, f12r7, f12r8, f12l4_b, rletter_ok, rdigit_ok] | with_reducible refine ch_both (fun _ => ?_) (fun _ => ?_) | with_reducible refine ite_both (fun _ => ?_) (fun _ => ?_) | intro _)
    · repeat (any_goals first | simp (dsimp := false) (maxSteps := 4000000) (maxDischargeDepth := 8) (implicitDefEqProofs := false) [*, -Int.not_le, -Int.not_lt, amLt, f12c, f12m4, f12r0, f12r1, f12r2, f12r3, f12r4, f12r5, f12r6, f12r7, f12r8, f12l4_b, rletter_ok, rdigit_ok] | with_reducible refine ch_both (fun _ => ?_) (fun _ => ?_) | with_reducible refine ite_both (fun _ => ?_) (fun _ => ?_) | intro _)
    · repeat (any_goals first | simp (dsimp := false) (maxSteps := 4000000) (maxDischargeDepth := 8) (implicitDefEqProofs := false) [*, -Int.not_le, -Int.not_lt, amLt, f12c, f12m4, f12r0, f12r1, f12r2, f12r3, f12r4, f12r5, f12r6, f12r7, f12r8, f12l4_b, rletter_ok, rdigit_ok] | with_reducible refine ch_both (fun _ => ?_) (fun _ => ?_) | with_reducible refine ite_both (fun _ => ?_) (fun _ => ?_) | intro _)
/-- Is a text a name (or a keyword)? -/
def isWord (s : List UInt8) : Bool := match s with
  | [] => false
  | b :: _ => isLet b.toNat && allTail s && decide (s.length ≤ 63)
theorem rname_ok (h : Heap) (s : List UInt8) (hs : s.length ≤ 1048576) : Ccall tab 12 [.str s] h = some (.bool (isWord s && !isKw s), h) := by
  have lp := rname_loop s (by omega) [] s.length 0 (by omega)
  simp only [Int.natCast_zero, List.drop_zero] at lp
  refine Ccall_own rfl rfl rfl rfl ?_
  cases s with
  | nil =>
    repeat (any_goals first | simp (dsimp := false) (maxSteps := 4000000) (maxDischargeDepth := 8) (implicitDefEqProofs := false) [*, -Int.not_le, -Int.not_lt, amLt, f12c, f12m4, f12r0, f12r1, f12r2, f12r3, f12r4, f12r5, f12r6, f12r7, f12r8, f12l4_b, isWord] | with_reducible refine ch_both (fun _ => ?_) (fun _ => ?_) | with_reducible refine ite_both (fun _ => ?_) (fun _ => ?_) | intro _)
  | cons b t =>
    have hne : ¬ ((b :: t).length : Int) = 0 := by simp only [List.length_cons]; omega
    have hne2 : ¬ (b :: t) = [] := by simp
    have h0 : (b :: t)[0]? = some b := rfl
    have hi : isWord (b :: t) = (isLet b.toNat && allTail (b :: t) && decide ((b :: t).length ≤ 63)) := rfl
    rw [hi]
    generalize b :: t = s at *
    clear hs hi
    cases h1 : isLet b.toNat
    · repeat (any_goals first | simp (dsimp := false) (maxSteps := 4000000) (maxDischargeDepth := 8) (implicitDefEqProofs := false) [*, -Int.not_le, -Int.not_lt, amLt, f12c, f12m4, f12r0, f12r1, f12r2, f12r3, f12r4, f12r5, f12r6, f12r7, f12r8, f12l4_b, rletter_ok] | with_reducible refine ch_both (fun _ => ?_) (fun _ => ?_) | with_reducible refine ite_both (fun _ => ?_) (fun _ => ?_) | intro _)
    · by_cases h3 : s.length ≤ 63
      · have h3' : (s.length : Int) ≤ 63 := by omega
        have h4 : decide (s.length ≤ 63) = true := by simpa using h3
        clear h3
        cases h2 : allTail s
        · rw [h2] at lp
          repeat (any_goals first | simp (dsimp := false) (maxSteps := 4000000) (maxDischargeDepth := 8) (implicitDefEqProofs := false) [*, -Int.not_le, -Int.not_lt, amLt, f12c, f12m4, f12r0, f12r1, f12r2, f12r3, f12r4, f12r5, f12r6, f12r7, f12r8, f12l4_b, rletter_ok] | with_reducible refine ch_both (fun _ => ?_) (fun _ => ?_) | with_reducible refine ite_both (fun _ => ?_) (fun _ => ?_) | intro _)
        · rw [h2] at lp
          repeat (any_goals first | simp (dsimp := false) (maxSteps := 4000000) (maxDischargeDepth := 8) (implicitDefEqProofs := false) [*, -Int.not_le, -Int.not_lt, amLt, f12c, f12m4, f12r0, f12r1, f12r2, f12r3, f12r4, f12r5, f12r6, f12r7, f12r8, f12l4_b, rletter_ok, rkw_ok] | with_reducible refine ch_both (fun _ => ?_) (fun _ => ?_) | with_reducible refine ite_both (fun _ => ?_) (fun _ => ?_) | intro _)
      · have h3' : ¬ (s.length : Int) ≤ 63 := by omega
        have h4 : decide (s.length ≤ 63) = false := by simpa using h3
        clear h3
        repeat (any_goals first | simp (dsimp := false) (maxSteps := 4000000) (maxDischargeDepth := 8) (implicitDefEqProofs := false) [*, -Int.not_le, -Int.not_lt, amLt, f12c, f12m4, f12r0, f12r1, f12r2, f12r3, f12r4, f12r5, f12r6, f12r7, f12r8, f12l4_b, rletter_ok] | with_reducible refine ch_both (fun _ => ?_) (fun _ => ?_) | with_reducible refine ite_both (fun _ => ?_) (fun _ => ?_) | intro _)
/-- A token, as the machine has it. -/
def tokV (k : Int) (s : List UInt8) (n l c o : Int) : AV := .agg [.int .i64 k, .str s, .int .i64 n, .int .i64 l, .int .i64 c, .int .i64 o]
/-- What 'one' answers of a word. -/
def oneWord (s : List UInt8) : AV :=
  if 63 < runLen isTail s then .tup [tokV 0 [] 0 0 0 0, .int .i64 0, .int .i64 22]
  else .tup [tokV (if isKw (s.take (runLen isTail s)) = true then 2 else 1) (s.take (runLen isTail s)) 0 0 0 0, .int .i64 (runLen isTail s), .int .i64 0]
theorem one_word (h : Heap) (s : List UInt8) (b : UInt8) (hs : s.length ≤ 16777216) (h0 : s[0]? = some b) (hb : isLet b.toNat = true) : Ccall tab 31 [.str s] h = some (oneWord s, h) := by
  have hr := fun h => run_ok 46 isTail tail_ok h s hs
  have hle := runLen_le isTail s
  unfold oneWord tokV
  generalize runLen isTail s = n at *
  have h1 : (n : Int) ≤ s.length := by omega
  refine Ccall_own rfl rfl rfl rfl ?_
  by_cases h3 : 63 < n
  · have h3' : ¬ (n : Int) ≤ 63 := by omega
    rw [if_pos h3]
    clear hs hle h3
    repeat (any_goals first | simp (dsimp := false) (maxSteps := 4000000) (maxDischargeDepth := 8) (implicitDefEqProofs := false) [*, -Int.not_le, -Int.not_lt, amLt, f31c, f31r0, f31r1, f31r2, f31r3, f31r4, f31r5, f31r6, f31r7, f31r8, f31r9, f31r10, f31r11, f31r12, f31r13, f31r14, f31r15, f31r16, f31r17, f31r18, f31r19, f31r20, f31r21, f31r22, f31r23, f31r24, f31r25, letter_ok] | with_reducible refine ch_both (fun _ => ?_) (fun _ => ?_) | with_reducible refine ite_both (fun _ => ?_) (fun _ => ?_) | intro _)
  · have h3' : (n : Int) ≤ 63 := by omega
    rw [if_neg h3]
    clear hs hle h3
    cases hk : isKw (s.take n)
    · repeat (any_goals first | simp (dsimp := false) (maxSteps := 4000000) (maxDischargeDepth := 8) (implicitDefEqProofs := false) [*, -Int.not_le, -Int.not_lt, amLt, f31c, f31r0, f31r1, f31r2, f31r3, f31r4, f31r5, f31r6, f31r7, f31r8, f31r9, f31r10, f31r11, f31r12, f31r13, f31r14, f31r15, f31r16, f31r17, f31r18, f31r19, f31r20, f31r21, f31r22, f31r23, f31r24, f31r25, letter_ok, keyword_ok, obound_some, obound_none, abound_int] | with_reducible refine ch_both (fun _ => ?_) (fun _ => ?_) | with_reducible refine ite_both (fun _ => ?_) (fun _ => ?_) | intro _)
    · repeat (any_goals first | simp (dsimp := false) (maxSteps := 4000000) (maxDischargeDepth := 8) (implicitDefEqProofs := false) [*, -Int.not_le, -Int.not_lt, amLt, f31c, f31r0, f31r1, f31r2, f31r3, f31r4, f31r5, f31r6, f31r7, f31r8, f31r9, f31r10, f31r11, f31r12, f31r13, f31r14, f31r15, f31r16, f31r17, f31r18, f31r19, f31r20, f31r21, f31r22, f31r23, f31r24, f31r25, letter_ok, keyword_ok, obound_some, obound_none, abound_int] | with_reducible refine ch_both (fun _ => ?_) (fun _ => ?_) | with_reducible refine ite_both (fun _ => ?_) (fun _ => ?_) | intro _)
theorem runLen_all {p : Nat → Bool} {s : List UInt8} : runLen p s = s.length ↔ (s.all fun b => p b.toNat) = true := by
  unfold runLen
  induction s with
  | nil => simp
  | cons a t ih =>
    rw [List.takeWhile_cons, List.all_cons]
    by_cases q : p a.toNat = true
    · simp only [q, if_true, List.length_cons, Bool.true_and]
      rw [← ih]
      omega
    · simp [q]
theorem alone_ok (h : Heap) (s : List UInt8) (k : Int) (hs : s.length ≤ 1048576) : Ccall tab 24 [.str s, .int .i64 k] h = some (.bool (isWord s && decide (k = if isKw s = true then 2 else 1)), h) := by
  refine Ccall_own rfl rfl rfl rfl ?_
  cases s with
  | nil =>
    repeat (any_goals first | simp (dsimp := false) (maxSteps := 4000000) (maxDischargeDepth := 8) (implicitDefEqProofs := false) [*, -Int.not_le, -Int.not_lt, amLt, f24c, f24r0, f24r1, f24r2, f24r3, f24r4, isWord] | with_reducible refine ch_both (fun _ => ?_) (fun _ => ?_) | with_reducible refine ite_both (fun _ => ?_) (fun _ => ?_) | intro _)
  | cons b t =>
    have hne : ¬ (b :: t) = [] := by simp
    have h0 : (b :: t)[0]? = some b := rfl
    have hi : isWord (b :: t) = (isLet b.toNat && allTail (b :: t) && decide ((b :: t).length ≤ 63)) := rfl
    rw [hi]
    generalize b :: t = s at *
    clear hi
    cases h1 : isLet b.toNat
    · clear hs
      repeat (any_goals first | simp (dsimp := false) (maxSteps := 4000000) (maxDischargeDepth := 8) (implicitDefEqProofs := false) [*, -Int.not_le, -Int.not_lt, amLt, f24c, f24r0, f24r1, f24r2, f24r3, f24r4, letter_ok] | with_reducible refine ch_both (fun _ => ?_) (fun _ => ?_) | with_reducible refine ite_both (fun _ => ?_) (fun _ => ?_) | intro _)
    · have ho := fun h => one_word h s b (by omega) h0 h1
      unfold oneWord tokV at ho
      have hle := runLen_le isTail s
      have hra : runLen isTail s = s.length ↔ allTail s = true := runLen_all
      generalize runLen isTail s = n at *
      by_cases h3 : 63 < n
      · simp only [if_pos h3] at ho
        have h4 : (allTail s && decide (s.length ≤ 63)) = false := by
          cases q : allTail s with
          | false => rfl
          | true => have := hra.2 q; simp; omega
        have h5 : (true && allTail s && decide (s.length ≤ 63)) = false := by rw [Bool.true_and]; exact h4
        rw [h5]
        clear hs hle hra h3 h4 h5
        repeat (any_goals first | simp (dsimp := false) (maxSteps := 4000000) (maxDischargeDepth := 8) (implicitDefEqProofs := false) [*, -Int.not_le, -Int.not_lt, amLt, f24c, f24r0, f24r1, f24r2, f24r3, f24r4, letter_ok] | with_reducible refine ch_both (fun _ => ?_) (fun _ => ?_) | with_reducible refine ite_both (fun _ => ?_) (fun _ => ?_) | intro _)
      · simp only [if_neg h3] at ho
        by_cases h6 : n = s.length
        · have h7 := hra.1 h6
          have h8 : decide (s.length ≤ 63) = true := by simp; omega
          subst h6
          rw [List.take_length] at ho
          rw [h7, h8]
          clear hs hle hra h3 h7 h8
          by_cases hk : isKw s = true
          · simp only [if_pos hk] at ho ⊢
            by_cases q : k = 2
            · subst q
              repeat (any_goals first | simp (dsimp := false) (maxSteps := 4000000) (maxDischargeDepth := 8) (implicitDefEqProofs := false) [*, -Int.not_le, -Int.not_lt, amLt, f24c, f24r0, f24r1, f24r2, f24r3, f24r4, letter_ok] | with_reducible refine ch_both (fun _ => ?_) (fun _ => ?_) | with_reducible refine ite_both (fun _ => ?_) (fun _ => ?_) | intro _)
            · have q' : ¬ 2 = k := fun e => q e.symm
              repeat (any_goals first | simp (dsimp := false) (maxSteps := 4000000) (maxDischargeDepth := 8) (implicitDefEqProofs := false) [*, -Int.not_le, -Int.not_lt, amLt, f24c, f24r0, f24r1, f24r2, f24r3, f24r4, letter_ok] | with_reducible refine ch_both (fun _ => ?_) (fun _ => ?_) | with_reducible refine ite_both (fun _ => ?_) (fun _ => ?_) | intro _)
          · simp only [if_neg hk] at ho ⊢
            by_cases q : k = 1
            · subst q
              repeat (any_goals first | simp (dsimp := false) (maxSteps := 4000000) (maxDischargeDepth := 8) (implicitDefEqProofs := false) [*, -Int.not_le, -Int.not_lt, amLt, f24c, f24r0, f24r1, f24r2, f24r3, f24r4, letter_ok] | with_reducible refine ch_both (fun _ => ?_) (fun _ => ?_) | with_reducible refine ite_both (fun _ => ?_) (fun _ => ?_) | intro _)
            · have q' : ¬ 1 = k := fun e => q e.symm
              repeat (any_goals first | simp (dsimp := false) (maxSteps := 4000000) (maxDischargeDepth := 8) (implicitDefEqProofs := false) [*, -Int.not_le, -Int.not_lt, amLt, f24c, f24r0, f24r1, f24r2, f24r3, f24r4, letter_ok] | with_reducible refine ch_both (fun _ => ?_) (fun _ => ?_) | with_reducible refine ite_both (fun _ => ?_) (fun _ => ?_) | intro _)
        · have h7 : allTail s = false := by cases q : allTail s with | false => rfl | true => exact absurd (hra.2 q) h6
          have h8 : ¬ (n : Int) = s.length := by omega
          rw [h7]
          clear hs hle hra h3 h7 h6
          repeat (any_goals first | simp (dsimp := false) (maxSteps := 4000000) (maxDischargeDepth := 8) (implicitDefEqProofs := false) [*, -Int.not_le, -Int.not_lt, amLt, f24c, f24r0, f24r1, f24r2, f24r3, f24r4, letter_ok] | with_reducible refine ch_both (fun _ => ?_) (fun _ => ?_) | with_reducible refine ite_both (fun _ => ?_) (fun _ => ?_) | intro _)
theorem name_ok (h : Heap) (s : List UInt8) (hs : s.length ≤ 1048576) : Ccall tab 11 [.str s] h = some (.bool (isWord s && !isKw s), h) := by
  have ha := fun h => alone_ok h s 1 hs
  have e : decide ((1 : Int) = if isKw s = true then 2 else 1) = !isKw s := by cases isKw s <;> rfl
  rw [e] at ha
  refine Ccall_own rfl rfl rfl rfl ?_
  clear hs e
  repeat (any_goals first | simp (dsimp := false) (maxSteps := 4000000) (maxDischargeDepth := 8) (implicitDefEqProofs := false) [*, -Int.not_le, -Int.not_lt, amLt, f11c, f11r0, f11r1] | with_reducible refine ch_both (fun _ => ?_) (fun _ => ?_) | with_reducible refine ite_both (fun _ => ?_) (fun _ => ?_) | intro _)
theorem kw_word {s : List UInt8} (h : isKw s = true) : isWord s = true := by
  have hall : kws.all isWord = true := by decide
  exact List.all_eq_true.1 hall s (by simpa [isKw] using h)
theorem word_ok (h : Heap) (s : List UInt8) (hs : s.length ≤ 1048576) : Ccall tab 13 [.str s] h = some (.bool (isKw s), h) := by
  have ha := fun h => alone_ok h s 2 hs
  have e : (isWord s && decide ((2 : Int) = if isKw s = true then 2 else 1)) = isKw s := by
    cases q : isKw s with
    | true => rw [kw_word q]; rfl
    | false => simp
  rw [e] at ha
  refine Ccall_own rfl rfl rfl rfl ?_
  clear hs e
  repeat (any_goals first | simp (dsimp := false) (maxSteps := 4000000) (maxDischargeDepth := 8) (implicitDefEqProofs := false) [*, -Int.not_le, -Int.not_lt, amLt, f13c, f13r0, f13r1] | with_reducible refine ch_both (fun _ => ?_) (fun _ => ?_) | with_reducible refine ite_both (fun _ => ?_) (fun _ => ?_) | intro _)
/-- TokenSpots: its answer. -/
theorem spots_ok (h : Heap) (s : List UInt8) (off : Int) (hs : s.length ≤ 1048576) : Ccall tab 3 [.str s, .int .i64 off] h = some (.bool true, h) := by
  have a1 := fun h => at_ok h s off hs
  have a2 := fun h => rat_ok h s off hs
  have a3 := fun h => name_ok h s hs
  have a4 := fun h => rname_ok h s hs
  have a5 := fun h => word_ok h s hs
  refine Ccall_own rfl rfl rfl rfl ?_
  unfold atV at a1 a2
  clear hs
  repeat (any_goals first | simp (dsimp := false) (maxSteps := 4000000) (maxDischargeDepth := 8) (implicitDefEqProofs := false) [*, -Int.not_le, -Int.not_lt, amLt, f3c, f3r0, f3r1, rword_ok, heads_ok] | with_reducible refine ch_both (fun _ => ?_) (fun _ => ?_) | with_reducible refine ite_both (fun _ => ?_) (fun _ => ?_) | intro _)
theorem spots_law : ∀ xs, ArgsL 1048576 f3s xs → ∃ h', Ccall tab 3 xs [] = some (.bool true, h') := by
  intro xs hxs
  unfold f3s at hxs
  simp only [ArgsL, Sh.Arg, Sh.Row] at hxs
  obtain ⟨x, r, rfl, ⟨s, hl, hs⟩, y, r2, rfl, ⟨n, _, hn⟩, rfl⟩ := hxs
  cases hn
  cases hs
  exact ⟨_, spots_ok [] s n hl⟩

end Go.Proofs.YtmpdpjkblcdfkaaDoor
