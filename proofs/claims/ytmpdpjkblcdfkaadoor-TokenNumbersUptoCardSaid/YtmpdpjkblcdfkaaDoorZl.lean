/- Tokens are joined; tokens with gaps between them. -/
import Derived.Test.YtmpdpjkblcdfkaaDoorZk
import Derived.Test.YtmpdpjkblcdfkaaDoorAmW
namespace Go.Proofs.YtmpdpjkblcdfkaaDoor
open Go.AM
set_option maxRecDepth 20000
set_option maxHeartbeats 4000000
set_option linter.unusedSimpArgs false
set_option linter.unusedVariables false
attribute [local congr] andF_cg onF_cg bthen_cg bkeep_cg bcond_cg guardV_cg putF_cg guardF_cg ite_cg stepsF_cg
attribute [local simp] Brun_skip Brun_exit Brun_ret Brun_seq Brun_cond Brun_block Brun_region bthen_normal bthen_ret bthen_exit bblock_normal bblock_ret bblock_exit bkeep_some andF_some onF_some onF_none guardF_none guardF_some guardV_tup putF_some putF_none stepsF_nil stepsF_cons upd_apply ofL_cons ofL_nil bown_normal bown_ret banswer_normal banswer_ret aresults ares List.replicate stepF_call stepF_callD stepF_move stepF_pick stepF_alloc stepF_allocV stepF_box stepF_boxV stepF_build stepF_buildSlice stepF_buildSliceV stepF_load stepF_store stepF_nilCheck stepF_bin stepF_eq stepF_un stepF_conv stepF_strId strIdV_str strIdV_int stepF_toStr stepF_toBytes stepF_fn stepF_mkSlice stepF_slice stepF_strSlice stepF_fieldAddr stepF_field stepF_idxAddr stepF_idxArr stepF_index stepF_strIndex stepF_extract stepF_len0 stepF_len1 stepF_min stepF_max stepF_append stepF_appendF appF_none appF_row stepF_mkMap stepF_mkIface stepF_lookup stepF_mapUpdate stepF_ext aext_idx aext_count aext_same cellsF newF abin_add abin_sub abin_mul abin_quo abin_rem abin_eql abin_neq abin_lss abin_leq abin_gtr abin_geq abin_and abin_or abin_xor abin_shl abin_shr abin_seql abin_sneq aun_not aun_neg aeq_bool aeq_agg eqCells_nil eqCells_int eqCells_bool eqCells_str cellsOf_agg cellsOf_int cellsOf_bool cellsOf_str cellsOf_is cellsOf_ms cellsOf_fn cellsOf_nilp cellsOf_mp cellsOf_mm cellsOf_nilm cellsOf_nili cellsOf_ifc cellsOf_ip cget_one cget_agg ev_t ev_c fillp_nil fillp_cons isSc_int isSc_bool isSc_str isSc_is isSc_ms isSc_fn isSc_mm isSc_mp isSc_ip isSc_nilp isSc_nilm isSc_nili isSc_nilf isSc_ifc splice chunk strip strip.stripL imm imm.immL Areify_int Areify_bool Areify_str Areify_is Areify_nilp Areify_tup Areify_agg AreifyL andF_chi andF_ch onF_chi onF_ch bthen_ch bthen_chi bblock_ch bblock_chi bkeep_ch bkeep_chi bown_ch bown_chi banswer_ch banswer_chi isSome_ch bcond_ch guardV_ch1 guardV_ch0 chF_true chF_false chF_not
attribute [local simp ↓] andF_some andF_chi andF_ch onF_some onF_none onF_chi onF_ch bthen_normal bthen_ret bthen_exit bthen_ch bthen_chi bblock_normal bblock_ret bblock_exit bblock_ch bblock_chi bkeep_some bkeep_ch bkeep_chi bown_normal bown_ret bown_ch bown_chi banswer_normal banswer_ret banswer_ch banswer_chi bcond_ch guardV_ch1 guardV_ch0 guardV_tup guardF_none guardF_some putF_some putF_none stepsF_nil stepsF_cons chF_true chF_false Brun_seq Brun_cond Brun_block Brun_region Brun_skip Brun_ret Brun_exit stepF_call stepF_callD stepF_move stepF_pick stepF_alloc stepF_allocV stepF_box stepF_boxV stepF_build stepF_buildSlice stepF_buildSliceV stepF_load stepF_store stepF_nilCheck stepF_bin stepF_eq stepF_un stepF_conv stepF_strId stepF_toStr stepF_toBytes stepF_fn stepF_mkSlice stepF_slice stepF_strSlice stepF_fieldAddr stepF_field stepF_idxAddr stepF_idxArr stepF_index stepF_strIndex stepF_extract stepF_len0 stepF_len1 stepF_min stepF_max stepF_append stepF_appendF stepF_mkMap stepF_mkIface stepF_lookup stepF_mapUpdate stepF_ext
set_option maxHeartbeats 2000000
theorem nDig_lt : ∀ (k n : Nat), n < 10 ^ (k + 1) → Go.Lib.nDigits n ≤ k + 1 := by
  intro k
  induction k with
  | zero => intro n h; rw [Go.Lib.nDigits_small (by simpa using h)]; omega
  | succ k ih =>
    intro n h
    by_cases q : n < 10
    · rw [Go.Lib.nDigits_small q]; omega
    · rw [Go.Lib.nDigits_big q]
      have := ih (n / 10) (by rw [Nat.pow_succ] at h; omega)
      omega
theorem ins_len (q : UInt8) (s : List UInt8) : (ins q s).length ≤ 4 * s.length := by
  induction s with
  | nil => simp [ins]
  | cons c r ih =>
    have : ins q (c :: r) = insB q c ++ ins q r := by simp [ins]
    rw [this, List.length_append, List.length_cons]
    have := insB_len q c
    omega
theorem written_len {k n : Int} {t : List UInt8} (ht : t.length ≤ 1048576) (hm : mayS k t n = true) : (writtenS k t n).length ≤ 4194400 := by
  unfold writtenS
  split
  · rename_i k3
    subst k3
    have hN : mayN t n = true := by simpa [mayS] using hm
    obtain ⟨u, l, e, h0, h1, _⟩ := mayN_inv hN
    have hd := nDig_lt 9 n.toNat (by omega)
    have hs : ∀ a b, (sufT a b).length ≤ 2 := by intro a b; cases a <;> cases b <;> decide
    have := hs (hasPre unsP t) (hasSuf longP t)
    rw [List.length_append, itoa_dec h0, Go.Lib.decDigits_length]
    omega
  · split
    · have := ins_len 39 [b8 n]
      simp only [quoteS, List.length_cons, List.length_append, List.length_nil] at *
      omega
    · split
      · have := ins_len 34 t
        simp only [quoteS, List.length_cons, List.length_append, List.length_nil] at *
        omega
      · omega
theorem out_len {k n : Int} {t w : List UInt8} (ht : t.length ≤ 1048576) (h : outS k t n = some w) : w.length ≤ 4194400 := by
  unfold outS at h
  split at h
  · rename_i hm
    cases h
    exact written_len ht hm
  · cases h
/-- Words with a blank between them. -/
def joinB : List (List UInt8) → List UInt8
  | [] => []
  | [w] => w
  | w :: v :: r => w ++ 32 :: joinB (v :: r)
theorem join_eq (ws : List (List UInt8)) : Go.Lib.join ws [32] = joinB ws := by
  unfold Go.Lib.join
  induction ws with
  | nil => rfl
  | cons w r ih =>
    cases r with
    | nil => simp [joinB, List.intercalate]
    | cons v r =>
      rw [joinB, ← ih]
      simp [List.intercalate]
theorem joinB_len : ∀ (ws : List (List UInt8)), (∀ w ∈ ws, w.length ≤ 4194400) → (joinB ws).length ≤ ws.length * 4194401 := by
  intro ws
  induction ws with
  | nil => intro _; simp [joinB]
  | cons w r ih =>
    intro h
    have h1 := h w (by simp)
    have h2 := ih fun x hx => h x (by simp [hx])
    cases r with
    | nil => simp only [joinB, List.length_cons, List.length_nil]; omega
    | cons v r =>
      simp only [joinB, List.length_append, List.length_cons] at *
      omega
theorem strRows_strs (ws : List (List UInt8)) : strRows (strs ws) = some ws := by
  induction ws with
  | nil => rfl
  | cons w r ih =>
    show (strRows (strs r)).map (w :: ·) = _
    rw [ih]; rfl
theorem sjoin_ok (h : Heap) (ws : List (List UInt8)) (cap : Cap) (hl : ws.length ≤ 1048576) (hw : ∀ w ∈ ws, w.length ≤ 4194400) : Ccall tab 28 [.is (strs ws) cap, .str [32]] h = some (.str (joinB ws), h) := by
  have hb := joinB_len ws hw
  refine Ccall_ext (F := libJoin) rfl rfl rfl rfl ?_
  simp only [strip.stripL, strip, libJoin, strRows_strs, join_eq]
  rw [if_pos ⟨by omega, by omega⟩]
/-- What a row of tokens is written as, word by word. -/
def outsY : List Y6 → Option (List (List UInt8))
  | [] => some []
  | y :: r => match outS y.1 y.2.1 y.2.2.1 with
    | none => none
    | some w => if y.1 = 0 ∧ r ≠ [] then none else (outsY r).map (w :: ·)
theorem strs_app (a : List (List UInt8)) (w : List UInt8) : strs a ++ [[.str w]] = strs (a ++ [w]) := by simp [strs]
def JOut (L : List (Nat × AV)) (E : List (Nat × AV)) (ws : List (List UInt8)) (x : Option (Ex × Env × Heap)) : Option (List (List UInt8)) → Prop
  | none => ∃ t', x = some (.ret, ofL [(2, .str []), (3, .int .i64 2)], t')
  | some ws2 => ∃ cap' t', CapAt 0 cap' 1 (strs (ws ++ ws2)) t' ∧ x = some (.exit 0, ofL (L ++ (4, .is (strs (ws ++ ws2)) cap') :: E), t')
theorem join_loop (l : List Y6) (c0 : Cap) (hl : l.length ≤ 1048576) (hy : ∀ y ∈ l, y.2.1.length ≤ 1048576) : ∀ (r : List Y6) (i : Nat) (ws : List (List UInt8)) (cap : Cap) (t : Heap), l.drop i = r → i ≤ l.length → ws.length = i → CapAt 0 cap 1 (strs ws) t →
    JOut [(0, .is (rows6 l) c0)] [(9, .is (rows6 l) c0), (10, .int .i64 l.length), (11, .int .i64 l.length), (12, .bool false)] ws (Brun tab 42 (.loop f16l3) (ofL [(0, .is (rows6 l) c0), (4, .is (strs ws) cap), (9, .is (rows6 l) c0), (10, .int .i64 l.length), (11, .int .i64 i)]) t) (outsY r) := by
  intro r
  induction r with
  | nil =>
    intro i ws cap t hr hi ho hc
    have hlen := congrArg List.length hr
    simp only [List.length_drop, List.length_nil] at hlen
    refine ⟨cap, t, by simpa using hc, ?_⟩
    have e3 : (l.length : Int) = i := by omega
    rw [List.append_nil, Brun_loop]
    clear hr hi hlen hl hy ho hc
    repeat (any_goals first | simp (dsimp := false) (maxSteps := 4000000) (maxDischargeDepth := 8) (implicitDefEqProofs := false) [*, -Int.not_le, -Int.not_lt, amLt, f16c, f16m3, f16r0, f16r1, f16r2, f16r3, f16r4, f16r5, f16r6, f16r7, f16r8, f16r9, f16r10, f16l3_b] | with_reducible refine ch_both (fun _ => ?_) (fun _ => ?_) | with_reducible refine ite_both (fun _ => ?_) (fun _ => ?_) | intro _)
  | cons y r ih =>
    intro i ws cap t hr hi ho hc
    have hlen := congrArg List.length hr
    simp only [List.length_drop, List.length_cons] at hlen
    have hb : l[i]? = some y := by
      have := congrArg (·[0]?) hr
      simpa using this
    have hmem : y ∈ l := List.mem_of_getElem? hb
    have htl : l.drop (i + 1) = r := by
      have := congrArg List.tail hr
      simpa using this
    have hyt := hy y hmem
    have hg : (rows6 l)[i]? = some (row6 y) := by simp [rows6, hb]
    have hW := fun h => write_ok h y.1 y.2.2.1 y.2.2.2.1 y.2.2.2.2.1 y.2.2.2.2.2 y.2.1 hyt
    clear hb hmem
    obtain ⟨k, tx, n, ln, cl, of_⟩ := y
    dsimp only at hg hW hyt
    have hl6 := rows6_len l
    have e3 : ¬ (l.length : Int) ≤ i := by omega
    have hw := w64 i (by omega)
    have hr0 := room0 hc
    have hs0 := spend0 hc
    have hsl := spendAt_len 0 cap t
    have hroom : roomy (ws.length + 1) 16 = true := roomy_small (by omega) (by decide)
    have w1 : IntKind.i64.wrap ((l.length : Int) - 1) = (l.length : Int) - 1 := IntWalk.i64_in _ (by omega)
    unfold row6 at hg
    unfold tokV at hW
    rw [Brun_loop]
    unfold outsY
    dsimp only
    cases hO : outS k tx n with
    | none =>
      simp only [hO, outV] at hW
      refine ⟨t ++ [.cells (row6 (k, tx, n, ln, cl, of_))], ?_⟩
      unfold row6
      clear ih hr hi hlen hl hy ho hc htl hO hyt
      repeat (any_goals first | simp (dsimp := false) (maxSteps := 4000000) (maxDischargeDepth := 8) (implicitDefEqProofs := false) [*, -Int.not_le, -Int.not_lt, amLt, f16c, f16m3, f16r0, f16r1, f16r2, f16r3, f16r4, f16r5, f16r6, f16r7, f16r8, f16r9, f16r10, f16l3_b, app_get, app_get0, app_set, app_set0] | with_reducible refine ch_both (fun _ => ?_) (fun _ => ?_) | with_reducible refine ite_both (fun _ => ?_) (fun _ => ?_) | intro _)
    | some w =>
      simp only [hO, outV] at hW
      dsimp only
      by_cases hk : k = 0 ∧ r ≠ []
      · rw [if_pos hk]
        obtain ⟨hk0, hk1⟩ := hk
        have hlt : (i : Int) < (l.length : Int) - 1 := by
          have := List.length_pos_iff.2 hk1
          omega
        refine ⟨t ++ [.cells (row6 (k, tx, n, ln, cl, of_))], ?_⟩
        unfold row6
        subst hk0
        clear ih hr hi hlen hl hy ho hc htl hO hyt hk1
        repeat (any_goals first | simp (dsimp := false) (maxSteps := 4000000) (maxDischargeDepth := 8) (implicitDefEqProofs := false) [*, -Int.not_le, -Int.not_lt, amLt, f16c, f16m3, f16r0, f16r1, f16r2, f16r3, f16r4, f16r5, f16r6, f16r7, f16r8, f16r9, f16r10, f16l3_b, app_get, app_get0, app_set, app_set0] | with_reducible refine ch_both (fun _ => ?_) (fun _ => ?_) | with_reducible refine ite_both (fun _ => ?_) (fun _ => ?_) | intro _)
      · rw [if_neg hk]
        have key : ∃ X, Brun tab 42 f16l3 (ofL [(0, .is (rows6 l) c0), (4, .is (strs ws) cap), (9, .is (rows6 l) c0), (10, .int .i64 l.length), (11, .int .i64 i)]) t =
            some (.normal, ofL [(0, .is (rows6 l) c0), (4, .is (strs (ws ++ [w])) (.tok (t.length + 1) 1)), (9, .is (rows6 l) c0), (10, .int .i64 l.length), (11, .int .i64 (i + 1))], spendAt 0 cap t ++ [X, .tok]) := by
          refine ⟨.cells (row6 (k, tx, n, ln, cl, of_)), ?_⟩
          rw [← strs_app]
          unfold row6
          by_cases hk0 : k = 0
          · have hlt : ¬ (i : Int) < (l.length : Int) - 1 := by
              have : r = [] := Classical.byContradiction fun q => hk ⟨hk0, q⟩
              subst this
              simp only [List.length_nil] at hlen
              omega
            subst hk0
            clear ih hr hi hlen hl hy ho hc htl hO hyt hk
            repeat (any_goals first | simp (dsimp := false) (maxSteps := 4000000) (maxDischargeDepth := 8) (implicitDefEqProofs := false) [*, -Int.not_le, -Int.not_lt, amLt, f16c, f16m3, f16r0, f16r1, f16r2, f16r3, f16r4, f16r5, f16r6, f16r7, f16r8, f16r9, f16r10, f16l3_b, app_get, app_get0, app_set, app_set0, strs_len] | with_reducible refine ch_both (fun _ => ?_) (fun _ => ?_) | with_reducible refine ite_both (fun _ => ?_) (fun _ => ?_) | intro _)
          · clear ih hr hi hlen hl hy ho hc htl hO hyt hk
            repeat (any_goals first | simp (dsimp := false) (maxSteps := 4000000) (maxDischargeDepth := 8) (implicitDefEqProofs := false) [*, -Int.not_le, -Int.not_lt, amLt, f16c, f16m3, f16r0, f16r1, f16r2, f16r3, f16r4, f16r5, f16r6, f16r7, f16r8, f16r9, f16r10, f16l3_b, app_get, app_get0, app_set, app_set0, strs_len] | with_reducible refine ch_both (fun _ => ?_) (fun _ => ?_) | with_reducible refine ite_both (fun _ => ?_) (fun _ => ?_) | intro _)
        obtain ⟨X, hbd⟩ := key
        have ih2 := ih (i + 1) (ws ++ [w]) (.tok (t.length + 1) 1) (spendAt 0 cap t ++ [X, .tok]) htl (by omega) (by simp; omega) (by
          have := CapAt.new (k := 0) (sz := 1) (rows := strs (ws ++ [w])) (s := spendAt 0 cap t) (r := [X, .tok]) (n := t.length) hsl 1 rfl
          exact this)
        push_cast at ih2
        rw [hbd, bthen_normal]
        cases hR : outsY r with
        | none => rw [hR] at ih2; exact ih2
        | some ws2 =>
          rw [hR] at ih2
          obtain ⟨cap', t', h1, h2⟩ := ih2
          rw [List.append_assoc] at h1 h2
          exact ⟨cap', t', h1, h2⟩
theorem outs_len : ∀ {l : List Y6} {ws : List (List UInt8)}, outsY l = some ws → ws.length = l.length := by
  intro l
  induction l with
  | nil => intro ws h; cases h; rfl
  | cons y r ih =>
    intro ws h
    unfold outsY at h
    split at h
    · cases h
    · split at h
      · cases h
      · obtain ⟨v, h1, rfl⟩ := Option.map_eq_some_iff.1 h
        simp [ih h1]
theorem outs_small : ∀ {l : List Y6} {ws : List (List UInt8)}, (∀ y ∈ l, y.2.1.length ≤ 1048576) → outsY l = some ws → ∀ w ∈ ws, w.length ≤ 4194400 := by
  intro l
  induction l with
  | nil => intro ws _ h; cases h; intro w hw; cases hw
  | cons y r ih =>
    intro ws hy h
    unfold outsY at h
    split at h
    · cases h
    · rename_i w hw
      split at h
      · cases h
      · obtain ⟨v, h1, rfl⟩ := Option.map_eq_some_iff.1 h
        intro x hx
        rcases List.mem_cons.1 hx with rfl | hx
        · exact out_len (hy y (by simp)) hw
        · exact ih (fun z hz => hy z (by simp [hz])) h1 x hx
theorem join_ok (h : Heap) (l : List Y6) (c0 : Cap) (hl : l.length ≤ 1048576) (hy : ∀ y ∈ l, y.2.1.length ≤ 1048576) : Ccall tab 16 [.is (rows6 l) c0] h = some (outV ((outsY l).map joinB), h) := by
  have lp := join_loop l .no hl hy l 0 [] .nil [] rfl (by omega) rfl (CapAt.nil 0 1 [])
  have hl6 := rows6_len l
  refine Ccall_own rfl rfl rfl rfl ?_
  rw [show strs [] = [] from rfl] at lp
  simp only [Int.natCast_zero, List.nil_append] at lp
  cases hO : outsY l with
  | none =>
    rw [hO] at lp
    obtain ⟨t', lp⟩ := lp
    simp only [Option.map_none, outV]
    clear hl hy hO
    repeat (any_goals first | simp (dsimp := false) (maxSteps := 4000000) (maxDischargeDepth := 8) (implicitDefEqProofs := false) [*, -Int.not_le, -Int.not_lt, amLt, f16c, f16m3, f16r0, f16r1, f16r2, f16r3, f16r4, f16r5, f16r6, f16r7, f16r8, f16r9, f16r10, f16l3_b] | with_reducible refine ch_both (fun _ => ?_) (fun _ => ?_) | with_reducible refine ite_both (fun _ => ?_) (fun _ => ?_) | intro _)
  | some ws =>
    rw [hO] at lp
    obtain ⟨cap', t', _, lp⟩ := lp
    simp only [List.nil_append, List.cons_append] at lp
    have hj := fun h cap => sjoin_ok h ws cap (by rw [outs_len hO]; exact hl) (outs_small hy hO)
    simp only [Option.map_some, outV]
    generalize strs ws = rw_ at *
    clear hl hy hO
    repeat (any_goals first | simp (dsimp := false) (maxSteps := 4000000) (maxDischargeDepth := 8) (implicitDefEqProofs := false) [*, -Int.not_le, -Int.not_lt, amLt, f16c, f16m3, f16r0, f16r1, f16r2, f16r3, f16r4, f16r5, f16r6, f16r7, f16r8, f16r9, f16r10, f16l3_b] | with_reducible refine ch_both (fun _ => ?_) (fun _ => ?_) | with_reducible refine ite_both (fun _ => ?_) (fun _ => ?_) | intro _)
/-- What is gone over between tokens. -/
def Gapped (g : List UInt8) : Prop := ∀ (r : List UInt8) (F f : Nat), (g ++ r).length < F → r.length < f → (skipR f r).2 = false → skipR F (g ++ r) = (g.length + (skipR f r).1, false)
theorem gap_nil : Gapped [] := by
  intro r F f h1 h2 h3
  rw [List.nil_append] at h1 ⊢
  rw [skip_fuel h2 h1 h3]
  simp
theorem gap_app {g k : List UInt8} (hg : Gapped g) (hk : Gapped k) : Gapped (g ++ k) := by
  intro r F f h1 h2 h3
  have e1 := hk r (k.length + r.length + 1) f (by simp) h2 h3
  rw [List.append_assoc] at h1 ⊢
  rw [hg (k ++ r) F (k.length + r.length + 1) h1 (by simp) (by rw [e1]), e1]
  simp only [List.length_append]
  congr 1; omega
theorem gap_blank {b : UInt8} (hb : isBlank b.toNat = true) : Gapped [b] := by
  intro r F f h1 h2 h3
  cases F with
  | zero => omega
  | succ F =>
    simp only [List.cons_append, List.nil_append, List.length_cons] at h1 ⊢
    rw [skip_cons, if_pos hb, skip_fuel h2 (by omega) h3]
    simp; omega
theorem skip_comment {t : List UInt8} {n F f : Nat} (hc : closeC t = some n) (hF : t.length + 2 < F) (hf : (t.drop (n + 2)).length < f) (h3 : (skipR f (t.drop (n + 2))).2 = false) : skipR F (47 :: 42 :: t) = (n + 4 + (skipR f (t.drop (n + 2))).1, false) := by
  cases F with
  | zero => omega
  | succ F =>
    have hd : (47 :: 42 :: t).drop (n + 4) = t.drop (n + 2) := by simp
    rw [skip_cons, if_neg (by decide), if_neg (by simp [hasPre]), if_pos (by simp [hasPre]), show (42 :: t).tail = t from rfl, hc]
    dsimp only
    rw [hd, skip_fuel hf (by simp only [List.length_drop] at *; omega) h3]
    simp; omega
theorem gap_com1 : Gapped [47, 42, 34, 42, 47] := by
  intro r F f h1 h2 h3
  have hc : closeC (34 :: 42 :: 47 :: r) = some 1 := by simp [closeC, hasPre]
  have := skip_comment (F := F) (f := f) hc (by simp at *; omega) (by simpa using h2) (by simpa using h3)
  simpa using this
theorem gap_com2 : Gapped [47, 42, 42, 42, 47] := by
  intro r F f h1 h2 h3
  have hc : closeC (42 :: 42 :: 47 :: r) = some 1 := by simp [closeC, hasPre]
  have := skip_comment (F := F) (f := f) hc (by simp at *; omega) (by simpa using h2) (by simpa using h3)
  simpa using this
theorem gap_com3 : Gapped [47, 42, 42, 47] := by
  intro r F f h1 h2 h3
  have hc : closeC (42 :: 47 :: r) = some 0 := by simp [closeC, hasPre]
  have := skip_comment (F := F) (f := f) hc (by simp at *; omega) (by simpa using h2) (by simpa using h3)
  simpa using this
theorem gap_line : Gapped [47, 47, 32, 39, 10] := by
  intro r F f h1 h2 h3
  have hl : lineEnd (47 :: 47 :: 32 :: 39 :: 10 :: r) = 4 := by simp [lineEnd]
  cases F with
  | zero => omega
  | succ F =>
    have hb := gap_blank (b := 10) (by decide) r F f (by simp at *; omega) h2 h3
    simp only [List.cons_append, List.nil_append] at hb ⊢
    rw [skip_cons, if_neg (by decide), if_pos (by simp [hasPre]), hl]
    simp only [List.drop_succ_cons, List.drop_zero]
    rw [hb]
    simp; omega
theorem gap_32 : Gapped [32] := gap_blank (by decide)
def gapT : List (List UInt8) := [[32], [10], [47, 42, 34, 42, 47], [9, 13, 11, 12, 32], [47, 47, 32, 39, 10], [47, 42, 42, 42, 47, 32, 47, 42, 42, 47]]
theorem gap_all : ∀ g ∈ gapT, Gapped g := by
  intro g hg
  simp only [gapT, List.mem_cons, List.not_mem_nil, or_false] at hg
  rcases hg with rfl | rfl | rfl | rfl | rfl | rfl
  · exact gap_32
  · exact gap_blank (by decide)
  · exact gap_com1
  · exact gap_app (gap_blank (b := 9) (by decide)) (gap_app (gap_blank (b := 13) (by decide)) (gap_app (gap_blank (b := 11) (by decide)) (gap_app (gap_blank (b := 12) (by decide)) gap_32)))
  · exact gap_line
  · exact gap_app gap_com2 (gap_app gap_32 gap_com3)
/-- A token is not gone over. -/
theorem tok_start {x u : List UInt8} {y : Int × List UInt8 × Int} (h : oneR (x ++ u) = .ok (y, x.length)) (h0 : x ≠ []) (hu : Ends u) (f : Nat) : skipR (f + 1) (x ++ u) = (0, false) := by
  cases x with
  | nil => exact absurd rfl h0
  | cons b t =>
    have hb : isBlank b.toNat = false := by
      cases hq : isBlank b.toNat with
      | false => rfl
      | true =>
        exfalso
        have hbl : ∀ n < 256, isBlank n = true → isLet n = false ∧ isDig n = false ∧ n ≠ 39 ∧ n ≠ 34 := by decide +kernel
        obtain ⟨p1, p2, p3, p4⟩ := hbl b.toNat (UInt8.toNat_lt b) hq
        have p5 : ¬ (b = 39 ∨ b = 34) := by rintro (rfl | rfl); exact p3 rfl; exact p4 rfl
        have p6 : signR (b :: (t ++ u)) = [] := by
          apply Classical.byContradiction
          intro q
          have := sign_chs q
          have hc : ∀ c ∈ chs, isBlank c.toNat = false := by decide
          rw [hc b this] at hq
          cases hq
        simp only [List.cons_append, oneR, p1, p2, p5, p6, Bool.false_eq_true, if_false, if_true] at h
        cases h
    have h47 : ∀ c : UInt8, (c = 47 ∨ c = 42) → hasPre [47, c] (b :: (t ++ u)) = false := by
      intro c hc
      cases hq : hasPre [47, c] (b :: (t ++ u)) with
      | false => rfl
      | true =>
        exfalso
        obtain ⟨v, hv⟩ := pre2 hq
        have hb47 : b = 47 := by have := congrArg List.head? hv; simpa using this
        subst hb47
        have htu : t ++ u = c :: v := by have := congrArg List.tail hv; simpa using this
        have hs : signR (47 :: (t ++ u)) = [47] := by
          rw [htu]
          rcases hc with rfl | rfl <;> simp [signR, sgs, hasPre] <;> decide
        have h2 := h
        simp only [List.cons_append, oneR, show isLet (47 : UInt8).toNat = false by decide, show isDig (47 : UInt8).toNat = false by decide, show ¬ ((47 : UInt8) = 39 ∨ (47 : UInt8) = 34) by decide, hs, Bool.false_eq_true, if_false] at h2
        rw [if_neg (by simp)] at h2
        injection h2 with h2
        have hl : t.length = 0 := by have := congrArg (·.2) h2; simpa using this
        have ht : t = [] := List.eq_nil_of_length_eq_zero hl
        subst ht
        rw [List.nil_append] at htu
        rcases hu with rfl | ⟨w, rfl⟩
        · cases htu
        · have := congrArg List.head? htu
          simp only [List.head?_cons, Option.some.injEq] at this
          rcases hc with rfl | rfl
          · exact absurd this (by decide)
          · exact absurd this (by decide)
    rw [List.cons_append, skip_cons, hb, if_neg (by simp), h47 47 (.inl rfl), if_neg (by simp), h47 42 (.inr rfl), if_neg (by simp)]
abbrev Item := (Int × List UInt8 × Int) × List UInt8 × List UInt8
/-- Tokens with what stands behind each. -/
def bodyT (e : List UInt8) : List Item → List UInt8
  | [] => e
  | i :: r => i.2.1 ++ (i.2.2 ++ bodyT e r)
def OKs (e : List UInt8) : List Item → Prop
  | [] => True
  | i :: r => (∀ u, Ends u → oneR (i.2.1 ++ u) = .ok (i.1, i.2.1.length)) ∧ i.2.1 ≠ [] ∧ Gapped i.2.2 ∧ Ends (i.2.2 ++ bodyT e r) ∧ OKs e r
theorem scan_items {s e : List UInt8} (he : Gapped e) : ∀ (items : List Item) (g : List UInt8) (at_ n F : Nat), OKs e items → Gapped g → s.drop at_ = g ++ bodyT e items → at_ ≤ s.length → s.length < at_ + F → n ≤ 16384 →
    (n + items.length ≤ 16384 → ∃ L, scanR s F at_ n = .ok L ∧ L.map (·.1) = items.map (·.1) ++ [(0, [], 0)]) ∧ (16384 < n + items.length → ∃ k, scanR s F at_ n = .error (23, k)) := by
  intro items
  induction items with
  | nil =>
    intro g at_ n F _ hg hd hat hF hn
    have hlen := congrArg List.length hd
    simp only [bodyT, List.length_drop, List.length_append] at hlen
    have h1 := gap_app hg he [] (s.length + 1) 1 (by simp; omega) (by simp) rfl
    have h2 : skipR (s.length + 1) (s.drop at_) = (s.length - at_, false) := by
      rw [hd]
      simp only [bodyT, List.append_nil, List.length_append] at h1 ⊢
      rw [h1]
      congr 1
      have : (skipR 1 []).1 = 0 := rfl
      omega
    cases F with
    | zero => omega
    | succ F =>
      refine ⟨fun _ => ⟨[((0, [], 0), s.length)], ?_, rfl⟩, fun h => by simp only [List.length_nil] at h; omega⟩
      rw [scan_succ]
      have hb : badC s at_ = false := by unfold badC; rw [h2]
      have hn : nextR s at_ = s.length := by unfold nextR; rw [h2]; simp only; omega
      rw [hb, hn]
      simp
  | cons i r ih =>
    obtain ⟨y, x, k⟩ := i
    intro g at_ n F hok hg hd hat hF hn
    obtain ⟨o1, o2, o3, o4, o5⟩ := hok
    dsimp only at o1 o2 o3 o4
    simp only [bodyT] at hd
    have hlen := congrArg List.length hd
    simp only [List.length_drop, List.length_append] at hlen
    have hx := o1 _ o4
    have hst := tok_start hx o2 o4
    have h1 := hg (x ++ (k ++ bodyT e r)) (s.length + 1) (x.length + (k.length + (bodyT e r).length) + 1) (by simp; omega) (by simp) (by rw [hst])
    rw [hst] at h1
    have h2 : skipR (s.length + 1) (s.drop at_) = (g.length, false) := by rw [hd, h1]; rfl
    have hb : badC s at_ = false := by unfold badC; rw [h2]
    have hnx : nextR s at_ = at_ + g.length := by unfold nextR; rw [h2]
    have hxl := List.length_pos_iff.2 o2
    have hdx : s.drop (at_ + g.length) = x ++ (k ++ bodyT e r) := by rw [← List.drop_drop, hd, List.drop_left]
    have hdn : s.drop (at_ + g.length + x.length) = k ++ bodyT e r := by rw [← List.drop_drop, hdx, List.drop_left]
    cases F with
    | zero => omega
    | succ F =>
      have hstep : scanR s (F + 1) at_ n = if n = 16384 then .error (23, nextR s at_) else consR (y, nextR s at_) (scanR s F (nextR s at_ + x.length) (n + 1)) := by
        rw [scan_succ, hb, hnx, if_neg (by simp), if_neg (by omega), hdx, hx]
      rw [hstep, hnx]
      by_cases hn2 : n = 16384
      · rw [if_pos hn2]
        exact ⟨fun h => by simp only [List.length_cons] at h; omega, fun _ => ⟨_, rfl⟩⟩
      · rw [if_neg hn2]
        obtain ⟨i1, i2⟩ := ih k (at_ + g.length + x.length) (n + 1) F o5 o3 hdn (by omega) (by omega) (by omega)
        constructor
        · intro h
          obtain ⟨L, h3, h4⟩ := i1 (by simp only [List.length_cons] at h; omega)
          rw [h3]
          refine ⟨_, rfl, ?_⟩
          simp only [List.map_cons, h4, List.cons_append]
        · intro h
          obtain ⟨q, h3⟩ := i2 (by simp only [List.length_cons] at h; omega)
          rw [h3]
          exact ⟨_, rfl⟩
theorem scan_long (h : Heap) (s : List UInt8) (hs : s.length ≤ 1000000000000000) (hb : 65536 < s.length) : Ccall tab 18 [.str s] h = some (.tup [.is [] .no, .agg [.int .i64 24, .int .i64 0, .int .i64 0, .int .i64 0]], h) := by
  refine Ccall_own rfl rfl rfl rfl ?_
  have hb' : 65536 < (s.length : Int) := by omega
  clear hs hb
  repeat (any_goals first | simp (dsimp := false) (maxSteps := 4000000) (maxDischargeDepth := 8) (implicitDefEqProofs := false) [*, -Int.not_le, -Int.not_lt, amLt, f18c, f18m6, f18r0, f18r1, f18r2, f18r3, f18r4, f18r5, f18r6, f18r7, f18r8, f18r9, f18q16, f18r10, f18r11, f18r12, f18r13, f18r14, f18r15, f18r17, f18r18, f18l6_b, f18r16_u, f18r16_w] | with_reducible refine ch_both (fun _ => ?_) (fun _ => ?_) | with_reducible refine ite_both (fun _ => ?_) (fun _ => ?_) | intro _)
def tok3 (y : Y6) : Int × List UInt8 × Int := (y.1, y.2.1, y.2.2.1)
/-- A row that may be joined, as tokens with a blank behind each. -/
def itemsOf : List Y6 → List Item
  | [] => []
  | y :: r => if y.1 = 0 then [] else (tok3 y, writtenS y.1 y.2.1 y.2.2.1, if r = [] then [] else [32]) :: itemsOf r
theorem outs_cons {y : Y6} {r : List Y6} {ws : List (List UInt8)} (h : outsY (y :: r) = some ws) : mayS y.1 y.2.1 y.2.2.1 = true ∧ ¬ (y.1 = 0 ∧ r ≠ []) ∧ ∃ ws', outsY r = some ws' ∧ ws = writtenS y.1 y.2.1 y.2.2.1 :: ws' := by
  unfold outsY at h
  unfold outS at h
  by_cases hm : mayS y.1 y.2.1 y.2.2.1 = true
  · rw [if_pos hm] at h
    dsimp only at h
    split at h
    · cases h
    · rename_i hk
      obtain ⟨v, h1, h2⟩ := Option.map_eq_some_iff.1 h
      exact ⟨hm, hk, v, h1, h2.symm⟩
  · rw [if_neg hm] at h
    cases h
theorem may0 {t : List UInt8} {n : Int} (h : mayS 0 t n = true) : t = [] ∧ n = 0 := by simpa [mayS] using h
theorem items_body : ∀ {l : List Y6} {ws : List (List UInt8)}, outsY l = some ws → joinB ws = bodyT [] (itemsOf l) := by
  intro l
  induction l with
  | nil => intro ws h; cases h; rfl
  | cons y r ih =>
    intro ws h
    obtain ⟨hm, hk, ws', h1, rfl⟩ := outs_cons h
    unfold itemsOf
    by_cases h0 : y.1 = 0
    · have hr : r = [] := Classical.byContradiction fun q => hk ⟨h0, q⟩
      subst hr
      cases h1
      rw [if_pos h0]
      rw [h0] at hm ⊢
      obtain ⟨e1, e2⟩ := may0 hm
      rw [e1, e2]
      rfl
    · rw [if_neg h0]
      cases r with
      | nil => cases h1; simp [joinB, bodyT, itemsOf]
      | cons z r =>
        obtain ⟨_, _, ws2, h3, rfl⟩ := outs_cons h1
        rw [if_neg (by simp)]
        show _ ++ 32 :: joinB _ = _
        rw [ih h1]
        rfl
theorem items_ok : ∀ {l : List Y6} {ws : List (List UInt8)}, outsY l = some ws → OKs [] (itemsOf l) := by
  intro l
  induction l with
  | nil => intro ws _; trivial
  | cons y r ih =>
    intro ws h
    obtain ⟨hm, hk, ws', h1, rfl⟩ := outs_cons h
    unfold itemsOf
    by_cases h0 : y.1 = 0
    · rw [if_pos h0]; trivial
    · rw [if_neg h0]
      refine ⟨fun u hu => (may_back h0 hm hu).2.2, (may_back h0 hm (.inl rfl)).1, ?_, ?_, ih h1⟩
      · dsimp only; split
        · exact gap_nil
        · exact gap_32
      · dsimp only; split
        · rename_i hr; subst hr; exact .inl rfl
        · exact .inr ⟨_, rfl⟩
/-- What is wanted of a row that was joined and is cut again. -/
def wantY (l : List Y6) : List Y6 := (itemsOf l).map (fun i => (i.1.1, i.1.2.1, i.1.2.2, (0 : Int), (0 : Int), (0 : Int))) ++ [(0, [], 0, 0, 0, 0)]
theorem want_last : ∀ {l : List Y6} {ws : List (List UInt8)}, outsY l = some ws → (l = [] ∧ wantY l = [(0, [], 0, 0, 0, 0)]) ∨ (∃ l0 y, l = l0 ++ [y] ∧ y.1 ≠ 0 ∧ wantY l = l.map plainY ++ [(0, [], 0, 0, 0, 0)]) ∨ (∃ l0 y, l = l0 ++ [y] ∧ y.1 = 0 ∧ wantY l = l.map plainY) := by
  intro l
  induction l with
  | nil => intro ws _; exact .inl ⟨rfl, rfl⟩
  | cons y r ih =>
    intro ws h
    obtain ⟨hm, hk, ws', h1, rfl⟩ := outs_cons h
    right
    by_cases h0 : y.1 = 0
    · have hr : r = [] := Classical.byContradiction fun q => hk ⟨h0, q⟩
      subst hr
      right
      refine ⟨[], y, rfl, h0, ?_⟩
      rw [h0] at hm
      obtain ⟨e1, e2⟩ := may0 hm
      obtain ⟨k, t, n, a, b, c⟩ := y
      dsimp only at h0 e1 e2
      subst h0 e1 e2
      rfl
    · have hw : wantY (y :: r) = plainY y :: wantY r := by
        unfold wantY
        rw [show itemsOf (y :: r) = (tok3 y, writtenS y.1 y.2.1 y.2.2.1, if r = [] then [] else [32]) :: itemsOf r by rw [itemsOf, if_neg h0]]
        rfl
      rcases ih h1 with ⟨rfl, h2⟩ | ⟨l0, z, rfl, h2, h3⟩ | ⟨l0, z, rfl, h2, h3⟩
      · left
        refine ⟨[], y, rfl, h0, ?_⟩
        rw [hw, h2]; rfl
      · left
        exact ⟨y :: l0, z, rfl, h2, by rw [hw, h3]; rfl⟩
      · right
        exact ⟨y :: l0, z, rfl, h2, by rw [hw, h3]; rfl⟩
theorem items_len (l : List Y6) : (itemsOf l).length ≤ l.length := by
  induction l with
  | nil => exact Nat.le_refl _
  | cons y r ih =>
    unfold itemsOf
    split
    · simp
    · simp only [List.length_cons]; omega
theorem toks_plain2 (s : List UInt8) (l : List Tk) : (toks6 s l).map plainY = (l.map (·.1)).map fun x => (x.1, x.2.1, x.2.2, (0 : Int), (0 : Int), (0 : Int)) := by
  simp only [toks6, List.map_map]
  rfl
/-- What comes of cutting what was joined. -/
theorem back_scan {l : List Y6} {ws : List (List UInt8)} (h : outsY l = some ws) (hl : (joinB ws).length ≤ 65536) :
    (16384 < l.length ∧ ∃ k, scanS (joinB ws) = .error (23, k)) ∨ ∃ L, scanS (joinB ws) = .ok L ∧ (toks6 (joinB ws) L).map plainY = wantY l := by
  obtain ⟨h1, h2⟩ := scan_items gap_nil (itemsOf l) [] 0 0 ((joinB ws).length + 1) (s := joinB ws) (items_ok h) gap_nil (by rw [List.drop_zero, List.nil_append]; exact items_body h) (Nat.zero_le _) (by omega) (by omega)
  have hle := items_len l
  by_cases q : 0 + (itemsOf l).length ≤ 16384
  · obtain ⟨L, h3, h4⟩ := h1 q
    refine .inr ⟨L, h3, ?_⟩
    rw [toks_plain2, h4, wantY, List.map_append, List.map_map]
    rfl
  · obtain ⟨k, h3⟩ := h2 (by omega)
    exact .inl ⟨by omega, k, h3⟩

end Go.Proofs.YtmpdpjkblcdfkaaDoor
