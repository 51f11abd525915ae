/- One token. -/
import Derived.Test.YtmpdpjkblcdfkaaDoorTm
import Derived.Test.YtmpdpjkblcdfkaaDoorAmW
namespace Go.Proofs.YtmpdpjkblcdfkaaDoor
open Go.AM
set_option maxRecDepth 20000
set_option maxHeartbeats 4000000
set_option linter.unusedSimpArgs false
set_option linter.unusedVariables false
attribute [local congr] andF_cg onF_cg bthen_cg bkeep_cg bcond_cg guardV_cg putF_cg guardF_cg ite_cg stepsF_cg
attribute [local simp] Brun_skip Brun_exit Brun_ret Brun_seq Brun_cond Brun_block Brun_region bthen_normal bthen_ret bthen_exit bblock_normal bblock_ret bblock_exit bkeep_some andF_some onF_some onF_none guardF_none guardF_some guardV_tup putF_some putF_none stepsF_nil stepsF_cons upd_apply ofL_cons ofL_nil bown_normal bown_ret banswer_normal banswer_ret aresults ares List.replicate stepF_call stepF_callD stepF_move stepF_pick stepF_alloc stepF_allocV stepF_box stepF_boxV stepF_build stepF_buildSlice stepF_buildSliceV stepF_load stepF_store stepF_nilCheck stepF_bin stepF_eq stepF_un stepF_conv stepF_strId stepF_toStr stepF_toBytes stepF_fn stepF_mkSlice stepF_slice stepF_strSlice stepF_fieldAddr stepF_field stepF_idxAddr stepF_idxArr stepF_index stepF_strIndex stepF_extract stepF_len0 stepF_len1 stepF_min stepF_max stepF_append stepF_appendF appF_none appF_row stepF_mkMap stepF_mkIface stepF_lookup stepF_mapUpdate stepF_ext aext_idx aext_count aext_same cellsF newF abin_add abin_sub abin_mul abin_quo abin_rem abin_eql abin_neq abin_lss abin_leq abin_gtr abin_geq abin_and abin_or abin_xor abin_shl abin_shr abin_seql abin_sneq aun_not aun_neg aeq_bool aeq_agg eqCells_nil eqCells_int eqCells_bool eqCells_str cellsOf_agg cellsOf_int cellsOf_bool cellsOf_str cellsOf_is cellsOf_ms cellsOf_fn cellsOf_nilp cellsOf_mp cellsOf_mm cellsOf_nilm cellsOf_nili cellsOf_ifc cellsOf_ip cget_one cget_agg ev_t ev_c fillp_nil fillp_cons isSc_int isSc_bool isSc_str isSc_is isSc_ms isSc_fn isSc_mm isSc_mp isSc_ip isSc_nilp isSc_nilm isSc_nili isSc_nilf isSc_ifc splice chunk strip strip.stripL imm imm.immL Areify_int Areify_bool Areify_str Areify_is Areify_nilp Areify_tup Areify_agg AreifyL andF_chi andF_ch onF_chi onF_ch bthen_ch bthen_chi bblock_ch bblock_chi bkeep_ch bkeep_chi bown_ch bown_chi banswer_ch banswer_chi isSome_ch bcond_ch guardV_ch1 guardV_ch0 chF_true chF_false chF_not
attribute [local simp ↓] andF_some andF_chi andF_ch onF_some onF_none onF_chi onF_ch bthen_normal bthen_ret bthen_exit bthen_ch bthen_chi bblock_normal bblock_ret bblock_exit bblock_ch bblock_chi bkeep_some bkeep_ch bkeep_chi bown_normal bown_ret bown_ch bown_chi banswer_normal banswer_ret banswer_ch banswer_chi bcond_ch guardV_ch1 guardV_ch0 guardV_tup guardF_none guardF_some putF_some putF_none stepsF_nil stepsF_cons chF_true chF_false Brun_seq Brun_cond Brun_block Brun_region Brun_skip Brun_ret Brun_exit stepF_call stepF_callD stepF_move stepF_pick stepF_alloc stepF_allocV stepF_box stepF_boxV stepF_build stepF_buildSlice stepF_buildSliceV stepF_load stepF_store stepF_nilCheck stepF_bin stepF_eq stepF_un stepF_conv stepF_strId stepF_toStr stepF_toBytes stepF_fn stepF_mkSlice stepF_slice stepF_strSlice stepF_fieldAddr stepF_field stepF_idxAddr stepF_idxArr stepF_index stepF_strIndex stepF_extract stepF_len0 stepF_len1 stepF_min stepF_max stepF_append stepF_appendF stepF_mkMap stepF_mkIface stepF_lookup stepF_mapUpdate stepF_ext
set_option maxHeartbeats 1000000
theorem ssz_bys (o : List UInt8) (c : Cap) : ssz 1 (.is (bys o) c) = true := by simp [ssz, rowsz, bys]
theorem bys_flat (o : List UInt8) : (bys o).flatten = ofBytes o := by
  induction o with
  | nil => rfl
  | cons a t ih => show _ :: (bys t).flatten = _ :: ofBytes t; rw [ih]
theorem scells_bys (o : List UInt8) (c : Cap) (h : Heap) : scellsF (.is (bys o) c) h = some (ofBytes o) := by
  show some (bys o).flatten = _
  rw [bys_flat]
theorem bytesOf_of (o : List UInt8) : bytesOf (ofBytes o) = some o := by
  induction o with
  | nil => rfl
  | cons a t ih =>
    show (bytesOf (ofBytes t)).map _ = _
    rw [ih]
    simp
/-- A byte as a number with a sign. -/
def sgn (b : UInt8) : Int := IntKind.i8.wrap b.toNat
theorem sgn_in (b : UInt8) : IntKind.i64.wrap (sgn b) = sgn b := by
  have hb := UInt8.toNat_lt b
  have h : -128 ≤ sgn b ∧ sgn b ≤ 127 := by
    unfold sgn
    simp only [IntKind.wrap, IntKind.bits, IntKind.signed]
    simp
    omega
  exact IntWalk.i64_in _ (by omega)
/-- The token at the beginning, or what is wrong: its kind, text and number, and how many bytes it has. -/
def oneR (s : List UInt8) : Except Nat ((Int × List UInt8 × Int) × Nat) := match s with
  | [] => .error 0
  | b :: _ =>
    if isLet b.toNat = true then (if 63 < runLen isTail s then .error 22 else .ok ((if isKw (s.take (runLen isTail s)) = true then 2 else 1, s.take (runLen isTail s), 0), runLen isTail s))
    else if isDig b.toNat = true then (match numberR (s.take (runLen isTail s)) with
      | none => .error 21
      | some (t, v) => .ok ((3, t, v), runLen isTail s))
    else if b = 39 ∨ b = 34 then (match quoR b s.length (s.drop 1) with
      | none => .error 26
      | some (o, m) => if b = 34 then .ok ((5, o, 0), m + 1) else match o with
        | [x] => .ok ((4, [], sgn x), m + 1)
        | _ => .error 26)
    else if signR s = [] then .error 20 else .ok ((6, signR s, 0), (signR s).length)
def oneV : Except Nat ((Int × List UInt8 × Int) × Nat) → AV
  | .error e => .tup [tokV 0 [] 0 0 0 0, .int .i64 0, .int .i64 e]
  | .ok ((k, t, v), n) => .tup [tokV k t v 0 0 0, .int .i64 n, .int .i64 0]
theorem quoR_len {q : UInt8} : ∀ {f : Nat} {r o : List UInt8} {m : Nat}, quoR q f r = some (o, m) → m ≤ r.length := by
  intro f
  induction f with
  | zero => intro r o m h; cases h
  | succ f ih =>
    intro r o m h
    cases r with
    | nil => cases h
    | cons c t =>
      simp only [quoR] at h
      split at h
      · cases h; simp
      · split at h
        · cases h
        · split at h
          · split at h
            · rename_i b n he
              obtain ⟨p, hp, he2⟩ := Option.map_eq_some_iff.1 h
              cases he2
              have := ih hp
              have h2 := esc_le he
              simp only [List.length_drop, List.length_cons] at *
              omega
            · cases h
          · obtain ⟨p, hp, he2⟩ := Option.map_eq_some_iff.1 h
            cases he2
            have := ih hp
            simp only [List.length_cons]
            omega
theorem sign_len (s : List UInt8) : (signR s).length ≤ s.length := by
  unfold signR
  split
  · rename_i x hx
    have := List.find?_some hx
    exact hasPre_len (p := x) (s := s) this
  · cases s with
    | nil => simp
    | cons b t => dsimp only; split <;> simp
theorem let39 (h : Heap) : Ccall tab 38 [.int .u8 39] h = some (.bool false, h) := letter_ok h 39
theorem let34 (h : Heap) : Ccall tab 38 [.int .u8 34] h = some (.bool false, h) := letter_ok h 34
theorem dig39 (h : Heap) : Ccall tab 48 [.int .u8 39] h = some (.bool false, h) := digit_ok h 39
theorem dig34 (h : Heap) : Ccall tab 48 [.int .u8 34] h = some (.bool false, h) := digit_ok h 34
theorem one_ok (h : Heap) (s : List UInt8) (b : UInt8) (hs : s.length ≤ 4194304) (h0 : s[0]? = some b) : Ccall tab 31 [.str s] h = some (oneV (oneR s), h) := by
  have hne : s ≠ [] := by rintro rfl; simp at h0
  have hR : oneR s = if isLet b.toNat = true then (if 63 < runLen isTail s then .error 22 else .ok ((if isKw (s.take (runLen isTail s)) = true then 2 else 1, s.take (runLen isTail s), 0), runLen isTail s))
    else if isDig b.toNat = true then (match numberR (s.take (runLen isTail s)) with
      | none => .error 21
      | some (t, v) => .ok ((3, t, v), runLen isTail s))
    else if b = 39 ∨ b = 34 then (match quoR b s.length (s.drop 1) with
      | none => .error 26
      | some (o, m) => if b = 34 then .ok ((5, o, 0), m + 1) else match o with
        | [x] => .ok ((4, [], sgn x), m + 1)
        | _ => .error 26)
    else if signR s = [] then .error 20 else .ok ((6, signR s, 0), (signR s).length) := by
    cases s with
    | nil => simp at h0
    | cons a t => simp at h0; subst h0; rfl
  rw [hR]
  have hlt := lt_get h0
  by_cases hl : isLet b.toNat = true
  · rw [if_pos hl]
    have ho := one_word h s b hs h0 hl
    unfold oneWord at ho
    rw [ho]
    by_cases q : 63 < runLen isTail s
    · rw [if_pos q, if_pos q]; rfl
    · rw [if_neg q, if_neg q]; rfl
  · rw [if_neg hl]
    have hl' : isLet b.toNat = false := by simpa using hl
    by_cases hd : isDig b.toNat = true
    · rw [if_pos hd]
      have hr := fun h => run_ok 46 isTail tail_ok h s hs
      have hle := runLen_le isTail s
      have hnum := fun h => number_ok h (s.take (runLen isTail s)) (by simp only [List.length_take]; omega)
      generalize hn : runLen isTail s = n at *
      have e1 : (n : Int) ≤ s.length := by omega
      refine Ccall_own rfl rfl rfl rfl ?_
      cases hN : numberR (s.take n) with
      | none =>
        rw [hN] at hnum
        unfold numV at hnum
        clear hs hR hlt hl hle hn hN
        repeat (any_goals first | simp (dsimp := false) (maxSteps := 4000000) (maxDischargeDepth := 8) (implicitDefEqProofs := false) [*, -Int.not_le, -Int.not_lt, amLt, f31c, f31r0, f31r1, f31r2, f31r3, f31r4, f31r5, f31r6, f31r7, f31r8, f31r9, f31r10, f31r11, f31r12, f31r13, f31r14, f31r15, f31r16, f31r17, f31r18, f31r19, f31r20, f31r21, f31r22, f31r23, f31r24, f31r25, letter_ok, digit_ok, let39, let34, dig39, dig34, obound_some, obound_none, abound_int, oneV, tokV] | with_reducible refine ch_both (fun _ => ?_) (fun _ => ?_) | with_reducible refine ite_both (fun _ => ?_) (fun _ => ?_) | intro _)
      | some p =>
        obtain ⟨t, v⟩ := p
        rw [hN] at hnum
        unfold numV at hnum
        clear hs hR hlt hl hle hn hN
        repeat (any_goals first | simp (dsimp := false) (maxSteps := 4000000) (maxDischargeDepth := 8) (implicitDefEqProofs := false) [*, -Int.not_le, -Int.not_lt, amLt, f31c, f31r0, f31r1, f31r2, f31r3, f31r4, f31r5, f31r6, f31r7, f31r8, f31r9, f31r10, f31r11, f31r12, f31r13, f31r14, f31r15, f31r16, f31r17, f31r18, f31r19, f31r20, f31r21, f31r22, f31r23, f31r24, f31r25, letter_ok, digit_ok, let39, let34, dig39, dig34, obound_some, obound_none, abound_int, oneV, tokV] | with_reducible refine ch_both (fun _ => ?_) (fun _ => ?_) | with_reducible refine ite_both (fun _ => ?_) (fun _ => ?_) | intro _)
    · rw [if_neg hd]
      have hd' : isDig b.toNat = false := by simpa using hd
      by_cases hq : b = 39 ∨ b = 34
      · rw [if_pos hq]
        have hquo := fun h => quoted_ok h (s.drop 1) b (by simp only [List.length_drop]; omega)
        rw [show (s.drop 1).length + 1 = s.length by simp only [List.length_drop]; omega] at hquo
        have hlq := @quoR_len b s.length (s.drop 1)
        simp only [List.drop_one] at hquo hlq ⊢
        have e1 : (1 : Int) ≤ s.length := by omega
        refine Ccall_own rfl rfl rfl rfl ?_
        cases hQ : quoR b s.length s.tail with
        | none =>
          rw [hQ] at hquo
          unfold quoV at hquo
          rcases hq with rfl | rfl
          · replace hquo := fun h => (show Ccall tab 50 [.str s.tail, .int .u8 39] h = _ from hquo h)
            clear hs hR hlt hl hd hQ hlq
            repeat (any_goals first | simp (dsimp := false) (maxSteps := 4000000) (maxDischargeDepth := 8) (implicitDefEqProofs := false) [*, -Int.not_le, -Int.not_lt, amLt, f31c, f31r0, f31r1, f31r2, f31r3, f31r4, f31r5, f31r6, f31r7, f31r8, f31r9, f31r10, f31r11, f31r12, f31r13, f31r14, f31r15, f31r16, f31r17, f31r18, f31r19, f31r20, f31r21, f31r22, f31r23, f31r24, f31r25, letter_ok, digit_ok, let39, let34, dig39, dig34, obound_some, obound_none, abound_int, oneV, tokV] | with_reducible refine ch_both (fun _ => ?_) (fun _ => ?_) | with_reducible refine ite_both (fun _ => ?_) (fun _ => ?_) | intro _)
          · replace hquo := fun h => (show Ccall tab 50 [.str s.tail, .int .u8 34] h = _ from hquo h)
            clear hs hR hlt hl hd hQ hlq
            repeat (any_goals first | simp (dsimp := false) (maxSteps := 4000000) (maxDischargeDepth := 8) (implicitDefEqProofs := false) [*, -Int.not_le, -Int.not_lt, amLt, f31c, f31r0, f31r1, f31r2, f31r3, f31r4, f31r5, f31r6, f31r7, f31r8, f31r9, f31r10, f31r11, f31r12, f31r13, f31r14, f31r15, f31r16, f31r17, f31r18, f31r19, f31r20, f31r21, f31r22, f31r23, f31r24, f31r25, letter_ok, digit_ok, let39, let34, dig39, dig34, obound_some, obound_none, abound_int, oneV, tokV] | with_reducible refine ch_both (fun _ => ?_) (fun _ => ?_) | with_reducible refine ite_both (fun _ => ?_) (fun _ => ?_) | intro _)
        | some p =>
          obtain ⟨o, m⟩ := p
          have hm := hlq hQ
          simp only [List.length_tail] at hm
          have hw := w64 m (by omega)
          have ei : ((m + 1 : Nat) : Int) = m + 1 := by push_cast; rfl
          rw [hQ] at hquo
          unfold quoV at hquo
          by_cases h34 : b = 34
          · subst h34
            replace hquo := fun h => (show Ccall tab 50 [.str s.tail, .int .u8 34] h = _ from hquo h)
            dsimp only
            rw [if_pos rfl]
            clear hs hR hlt hl hd hQ hlq hm hq
            repeat (any_goals first | simp (dsimp := false) (maxSteps := 4000000) (maxDischargeDepth := 8) (implicitDefEqProofs := false) [*, -Int.not_le, -Int.not_lt, amLt, f31c, f31r0, f31r1, f31r2, f31r3, f31r4, f31r5, f31r6, f31r7, f31r8, f31r9, f31r10, f31r11, f31r12, f31r13, f31r14, f31r15, f31r16, f31r17, f31r18, f31r19, f31r20, f31r21, f31r22, f31r23, f31r24, f31r25, letter_ok, digit_ok, let39, let34, dig39, dig34, obound_some, obound_none, abound_int, oneV, tokV, ssz_bys, scells_bys, bytesOf_of] | with_reducible refine ch_both (fun _ => ?_) (fun _ => ?_) | with_reducible refine ite_both (fun _ => ?_) (fun _ => ?_) | intro _)
          · have h39 : b = 39 := hq.resolve_right h34
            subst h39
            replace hquo := fun h => (show Ccall tab 50 [.str s.tail, .int .u8 39] h = _ from hquo h)
            dsimp only
            rw [if_neg h34]
            match o with
            | [] =>
              dsimp only
              clear hs hR hlt hl hd hQ hlq hm hq
              repeat (any_goals first | simp (dsimp := false) (maxSteps := 4000000) (maxDischargeDepth := 8) (implicitDefEqProofs := false) [*, -Int.not_le, -Int.not_lt, amLt, f31c, f31r0, f31r1, f31r2, f31r3, f31r4, f31r5, f31r6, f31r7, f31r8, f31r9, f31r10, f31r11, f31r12, f31r13, f31r14, f31r15, f31r16, f31r17, f31r18, f31r19, f31r20, f31r21, f31r22, f31r23, f31r24, f31r25, letter_ok, digit_ok, let39, let34, dig39, dig34, obound_some, obound_none, abound_int, oneV, tokV, bys_len] | with_reducible refine ch_both (fun _ => ?_) (fun _ => ?_) | with_reducible refine ite_both (fun _ => ?_) (fun _ => ?_) | intro _)
            | [x] =>
              dsimp only
              have hb1 : bys [x] = [[.int .u8 x.toNat]] := rfl
              simp only [hb1] at hquo
              have hsg := sgn_in x
              have hsg2 : IntKind.i8.wrap x.toNat = sgn x := rfl
              generalize sgn x = sg at *
              clear hs hR hlt hl hd hQ hlq hm hq
              repeat (any_goals first | simp (dsimp := false) (maxSteps := 4000000) (maxDischargeDepth := 8) (implicitDefEqProofs := false) [*, -Int.not_le, -Int.not_lt, amLt, f31c, f31r0, f31r1, f31r2, f31r3, f31r4, f31r5, f31r6, f31r7, f31r8, f31r9, f31r10, f31r11, f31r12, f31r13, f31r14, f31r15, f31r16, f31r17, f31r18, f31r19, f31r20, f31r21, f31r22, f31r23, f31r24, f31r25, letter_ok, digit_ok, let39, let34, dig39, dig34, obound_some, obound_none, abound_int, oneV, tokV] | with_reducible refine ch_both (fun _ => ?_) (fun _ => ?_) | with_reducible refine ite_both (fun _ => ?_) (fun _ => ?_) | intro _)
            | x :: y :: u =>
              dsimp only
              have hlen : ¬ ((bys (x :: y :: u)).length : Int) = 1 := by rw [bys_len]; simp only [List.length_cons]; omega
              have hlen2 : ¬ (bys (x :: y :: u)).length = 1 := by rw [bys_len]; simp only [List.length_cons]; omega
              dsimp only at hquo
              generalize bys (x :: y :: u) = rows at hquo hlen hlen2
              clear hs hR hlt hl hd hQ hlq hm hq
              repeat (any_goals first | simp (dsimp := false) (maxSteps := 4000000) (maxDischargeDepth := 8) (implicitDefEqProofs := false) [*, -Int.not_le, -Int.not_lt, amLt, f31c, f31r0, f31r1, f31r2, f31r3, f31r4, f31r5, f31r6, f31r7, f31r8, f31r9, f31r10, f31r11, f31r12, f31r13, f31r14, f31r15, f31r16, f31r17, f31r18, f31r19, f31r20, f31r21, f31r22, f31r23, f31r24, f31r25, letter_ok, digit_ok, let39, let34, dig39, dig34, obound_some, obound_none, abound_int, oneV, tokV] | with_reducible refine ch_both (fun _ => ?_) (fun _ => ?_) | with_reducible refine ite_both (fun _ => ?_) (fun _ => ?_) | intro _)
      · rw [if_neg hq]
        have h39 : ¬ (b.toNat : Int) = 39 := fun h => hq (.inl (UInt8.toNat_inj.1 (by show b.toNat = 39; omega)))
        have h34 : ¬ (b.toNat : Int) = 34 := fun h => hq (.inr (UInt8.toNat_inj.1 (by show b.toNat = 34; omega)))
        have hsg := fun h => sign_ok h s b h0 hs
        generalize signR s = x at *
        refine Ccall_own rfl rfl rfl rfl ?_
        by_cases hx : x = []
        · rw [if_pos hx]
          clear hs hR hlt hl hd hq
          subst hx
          repeat (any_goals first | simp (dsimp := false) (maxSteps := 4000000) (maxDischargeDepth := 8) (implicitDefEqProofs := false) [*, -Int.not_le, -Int.not_lt, amLt, f31c, f31r0, f31r1, f31r2, f31r3, f31r4, f31r5, f31r6, f31r7, f31r8, f31r9, f31r10, f31r11, f31r12, f31r13, f31r14, f31r15, f31r16, f31r17, f31r18, f31r19, f31r20, f31r21, f31r22, f31r23, f31r24, f31r25, letter_ok, digit_ok, let39, let34, dig39, dig34, obound_some, obound_none, abound_int, oneV, tokV] | with_reducible refine ch_both (fun _ => ?_) (fun _ => ?_) | with_reducible refine ite_both (fun _ => ?_) (fun _ => ?_) | intro _)
        · rw [if_neg hx]
          clear hs hR hlt hl hd hq
          repeat (any_goals first | simp (dsimp := false) (maxSteps := 4000000) (maxDischargeDepth := 8) (implicitDefEqProofs := false) [*, -Int.not_le, -Int.not_lt, amLt, f31c, f31r0, f31r1, f31r2, f31r3, f31r4, f31r5, f31r6, f31r7, f31r8, f31r9, f31r10, f31r11, f31r12, f31r13, f31r14, f31r15, f31r16, f31r17, f31r18, f31r19, f31r20, f31r21, f31r22, f31r23, f31r24, f31r25, letter_ok, digit_ok, let39, let34, dig39, dig34, obound_some, obound_none, abound_int, oneV, tokV] | with_reducible refine ch_both (fun _ => ?_) (fun _ => ?_) | with_reducible refine ite_both (fun _ => ?_) (fun _ => ?_) | intro _)

end Go.Proofs.YtmpdpjkblcdfkaaDoor
