/- Tokens are written as the document has it. -/
import Derived.Test.YtmpdpjkblcdfkaaGreatDoorZx
import Derived.Test.YtmpdpjkblcdfkaaGreatDoorHd
import Derived.Test.YtmpdpjkblcdfkaaGreatDoorAmW
namespace Go.Proofs.YtmpdpjkblcdfkaaGreatDoor
open Go.AM
set_option maxRecDepth 20000
set_option maxHeartbeats 4000000
set_option linter.unusedSimpArgs false
set_option linter.unusedVariables false
attribute [local congr] andF_cg onF_cg bthen_cg bkeep_cg bcond_cg guardV_cg putF_cg guardF_cg ite_cg stepsF_cg
attribute [local simp] Brun_skip Brun_exit Brun_ret Brun_seq Brun_cond Brun_block Brun_region bthen_normal bthen_ret bthen_exit bblock_normal bblock_ret bblock_exit bkeep_some andF_some onF_some onF_none guardF_none guardF_some guardV_tup putF_some putF_none stepsF_nil stepsF_cons upd_apply ofL_cons ofL_nil bown_normal bown_ret banswer_normal banswer_ret aresults ares List.replicate stepF_call stepF_callD stepF_move stepF_pick stepF_alloc stepF_allocV stepF_box stepF_boxV stepF_build stepF_buildSlice stepF_buildSliceV stepF_load stepF_store stepF_nilCheck stepF_bin stepF_eq stepF_un stepF_conv stepF_strId stepF_toStr stepF_toBytes stepF_fn stepF_mkSlice stepF_slice stepF_strSlice stepF_fieldAddr stepF_field stepF_idxAddr stepF_idxArr stepF_index stepF_strIndex stepF_extract stepF_len0 stepF_len1 stepF_min stepF_max stepF_append stepF_appendF appF_none appF_row stepF_mkMap stepF_mkIface stepF_lookup stepF_mapUpdate stepF_ext aext_idx aext_count aext_same cellsF newF abin_add abin_sub abin_mul abin_quo abin_rem abin_eql abin_neq abin_lss abin_leq abin_gtr abin_geq abin_and abin_or abin_xor abin_shl abin_shr abin_seql abin_sneq aun_not aun_neg aeq_bool aeq_agg eqCells_nil eqCells_int eqCells_bool eqCells_str cellsOf_agg cellsOf_int cellsOf_bool cellsOf_str cellsOf_is cellsOf_ms cellsOf_fn cellsOf_nilp cellsOf_mp cellsOf_mm cellsOf_nilm cellsOf_nili cellsOf_ifc cellsOf_ip cget_one cget_agg ev_t ev_c fillp_nil fillp_cons isSc_int isSc_bool isSc_str isSc_is isSc_ms isSc_fn isSc_mm isSc_mp isSc_ip isSc_nilp isSc_nilm isSc_nili isSc_nilf isSc_ifc splice chunk strip strip.stripL imm imm.immL Areify_int Areify_bool Areify_str Areify_is Areify_nilp Areify_tup Areify_agg AreifyL andF_chi andF_ch onF_chi onF_ch bthen_ch bthen_chi bblock_ch bblock_chi bkeep_ch bkeep_chi bown_ch bown_chi banswer_ch banswer_chi isSome_ch bcond_ch guardV_ch1 guardV_ch0 chF_true chF_false chF_not
attribute [local simp ↓] andF_some andF_chi andF_ch onF_some onF_none onF_chi onF_ch bthen_normal bthen_ret bthen_exit bthen_ch bthen_chi bblock_normal bblock_ret bblock_exit bblock_ch bblock_chi bkeep_some bkeep_ch bkeep_chi bown_normal bown_ret bown_ch bown_chi banswer_normal banswer_ret banswer_ch banswer_chi bcond_ch guardV_ch1 guardV_ch0 guardV_tup guardF_none guardF_some putF_some putF_none stepsF_nil stepsF_cons chF_true chF_false Brun_seq Brun_cond Brun_block Brun_region Brun_skip Brun_ret Brun_exit stepF_call stepF_callD stepF_move stepF_pick stepF_alloc stepF_allocV stepF_box stepF_boxV stepF_build stepF_buildSlice stepF_buildSliceV stepF_load stepF_store stepF_nilCheck stepF_bin stepF_eq stepF_un stepF_conv stepF_strId stepF_toStr stepF_toBytes stepF_fn stepF_mkSlice stepF_slice stepF_strSlice stepF_fieldAddr stepF_field stepF_idxAddr stepF_idxArr stepF_index stepF_strIndex stepF_extract stepF_len0 stepF_len1 stepF_min stepF_max stepF_append stepF_appendF stepF_mkMap stepF_mkIface stepF_lookup stepF_mapUpdate stepF_ext
set_option maxHeartbeats 2000000
theorem joinB_snoc : ∀ (a : List (List UInt8)) (w : List UInt8), a ≠ [] → joinB (a ++ [w]) = joinB a ++ 32 :: w := by
  intro a
  induction a with
  | nil => intro w h; exact absurd rfl h
  | cons x r ih =>
    intro w _
    cases r with
    | nil => rfl
    | cons v r =>
      show x ++ 32 :: joinB (v :: r ++ [w]) = _
      rw [ih w (by simp)]
      simp [joinB]
theorem bys_appF (slot : Nat) (o w : List UInt8) (cap c2 : Cap) (h : Heap) (hw : w ≠ []) : appF slot 1 1 (.is (bys o) cap) (.is (bys w) c2) h =
    if roomy (o.length + w.length) 1 = true then if roomOK cap 1 (bys o) h = true then newF slot .tok (.is (bys (o ++ w)) (.tok slot 1)) (spend cap h) else none else none := by
  rw [appF_rows slot 1 1 (bys o) (ys := bys w) cap c2 h (by
    intro r hr
    simp only [bys, List.mem_map] at hr
    obtain ⟨b, _, rfl⟩ := hr
    exact ⟨rfl, rfl, rfl, rfl⟩) (by simpa [bys] using hw), bys_len, bys_len, bys_cat]
theorem chunk_str (w : List UInt8) : chunk 1 w.length (strip.stripL (ofBytes w)) = bys w := by
  have h : strip.stripL (ofBytes w) = ofBytes w := by
    rw [stripL_map]
    induction w with
    | nil => rfl
    | cons a r ih => simp [ofBytes, strip]
  rw [h]
  exact chunk_bys w
theorem appF_str0 (slot by_ : Nat) (rows : List (List AV)) (cap : Cap) (h : Heap) : appF slot 1 by_ (.is rows cap) (.str []) h = some (.is rows cap, h) := by simp [appF, slen, ssz]
theorem appF_str (slot : Nat) (o w : List UInt8) (cap : Cap) (h : Heap) (hw : w ≠ []) : appF slot 1 1 (.is (bys o) cap) (.str w) h =
    if roomy (o.length + w.length) 1 = true then if roomOK cap 1 (bys o) h = true then newF slot .tok (.is (bys (o ++ w)) (.tok slot 1)) (spend cap h) else none else none := by
  have h5 : ¬ w.length = 0 := fun q => hw (List.eq_nil_of_length_eq_zero q)
  have h6 : (imm.immL (ofBytes w) && (ofBytes w).all isSc) = true := by
    clear hw h5
    induction w with
    | nil => rfl
    | cons a r ih => simpa [ofBytes, imm.immL, imm, isSc] using ih
  simp only [appF, slen, ssz, if_neg h5, scellsF, h6, if_true, chunk_str, bys_len, bys_cat, beq_self_eq_true]
theorem roomy1 {n : Nat} (h : n ≤ 140737488355328) : roomy n 1 = true := by simp only [roomy, decide_eq_true_eq]; omega
theorem rjoin_body (rows : List (List AV)) (c0 : Cap) (k n ln cl of_ : Int) (tx : List UInt8) (ws : List (List UInt8)) (w : List UInt8) (cap : Cap) (t : Heap) (hg : rows[ws.length]? = some [.int .i64 k, .str tx, .int .i64 n, .int .i64 ln, .int .i64 cl, .int .i64 of_]) (hlen : ws.length < rows.length) (hl : rows.length ≤ 1048576)
    (hW : ∀ h, Ccall tab 10 [.agg [.int .i64 k, .str tx, .int .i64 n, .int .i64 ln, .int .i64 cl, .int .i64 of_]] h = some (.tup [.str w, .int .i64 0], h)) (hk : ¬ (k = 0 ∧ (ws.length : Int) < (rows.length : Int) - 1))
    (ho : (joinB ws).length ≤ ws.length * 4194401) (hwl : w.length ≤ 4194400) (hc : CapAt 0 cap 1 (bys (joinB ws)) t) :
    ∃ cap2 t2, CapAt 0 cap2 1 (bys (joinB (ws ++ [w]))) t2 ∧ Brun tab 49 f12l3 (ofL [(0, .is rows c0), (4, .is (bys (joinB ws)) cap), (5, .int .i64 ws.length)]) t = some (.normal, ofL [(0, .is rows c0), (4, .is (bys (joinB (ws ++ [w]))) cap2), (5, .int .i64 (ws.length + 1))], t2) := by
  have e3 : ¬ (rows.length : Int) ≤ ws.length := by omega
  have hww := w64 ws.length (by omega)
  have hr0 := room0 hc
  have hs0 := spend0 hc
  have hsl := spendAt_len 0 cap t
  have w1 : IntKind.i64.wrap ((rows.length : Int) - 1) = (rows.length : Int) - 1 := IntWalk.i64_in _ (by omega)
  have kk : (k = 0 ∧ ¬ (ws.length : Int) < (rows.length : Int) - 1) ∨ ¬ k = 0 := by
    by_cases q : k = 0
    · exact .inl ⟨q, fun r => hk ⟨q, r⟩⟩
    · exact .inr q
  by_cases h0 : ws = []
  · have hp : ¬ 0 < ws.length := by simp [h0]
    generalize ws.length = i at *
    subst h0
    have eb : bys [] = [] := rfl
    have hr1 : ∀ r, roomOK cap 1 [] (t ++ r) = true := hr0
    clear hr0
    by_cases hw0 : w = []
    · subst hw0
      refine ⟨cap, t ++ [.free], hc.app _, ?_⟩
      show Brun tab 49 f12l3 (ofL [(0, .is rows c0), (4, .is (bys []) cap), (5, .int .i64 i)]) t = some (.normal, ofL [(0, .is rows c0), (4, .is (bys []) cap), (5, .int .i64 (i + 1))], t ++ [.free])
      clear hc ho hwl hl hlen hk
      rcases kk with ⟨rfl, kk⟩ | kk
      · repeat (any_goals first | simp (dsimp := false) (maxSteps := 4000000) (maxDischargeDepth := 8) (implicitDefEqProofs := false) [*, -Int.not_le, -Int.not_lt, amLt, f12c, f12m3, f12r0, f12r1, f12r2, f12r3, f12r4, f12r5, f12r6, f12r7, f12r8, f12r9, f12r10, f12r11, f12l3_b, bys_len, app_get, app_get0, app_set, app_set0, appF_str0] | with_reducible refine ch_both (fun _ => ?_) (fun _ => ?_) | with_reducible refine ite_both (fun _ => ?_) (fun _ => ?_) | intro _)
      · repeat (any_goals first | simp (dsimp := false) (maxSteps := 4000000) (maxDischargeDepth := 8) (implicitDefEqProofs := false) [*, -Int.not_le, -Int.not_lt, amLt, f12c, f12m3, f12r0, f12r1, f12r2, f12r3, f12r4, f12r5, f12r6, f12r7, f12r8, f12r9, f12r10, f12r11, f12l3_b, bys_len, app_get, app_get0, app_set, app_set0, appF_str0] | with_reducible refine ch_both (fun _ => ?_) (fun _ => ?_) | with_reducible refine ite_both (fun _ => ?_) (fun _ => ?_) | intro _)
    · have hroom : roomy (([] : List UInt8).length + w.length) 1 = true := roomy1 (by simp; omega)
      have hap := fun slot cap h => appF_str slot [] w cap h hw0
      rw [eb] at hap
      refine ⟨.tok t.length 1, spendAt 0 cap t ++ [.tok], CapAt.new (k := 0) (j := 0) hsl rfl, ?_⟩
      show Brun tab 49 f12l3 (ofL [(0, .is rows c0), (4, .is (bys []) cap), (5, .int .i64 i)]) t = some (.normal, ofL [(0, .is rows c0), (4, .is (bys ([] ++ w)) (.tok t.length 1)), (5, .int .i64 (i + 1))], spendAt 0 cap t ++ [.tok])
      generalize [] ++ w = w2 at *
      simp only [List.length_nil, Nat.zero_add] at hroom hap
      clear hc ho hwl hl hlen hk hw0
      rcases kk with ⟨rfl, kk⟩ | kk
      · repeat (any_goals first | simp (dsimp := false) (maxSteps := 4000000) (maxDischargeDepth := 8) (implicitDefEqProofs := false) [*, -Int.not_le, -Int.not_lt, amLt, f12c, f12m3, f12r0, f12r1, f12r2, f12r3, f12r4, f12r5, f12r6, f12r7, f12r8, f12r9, f12r10, f12r11, f12l3_b, bys_len, app_get, app_get0, app_set, app_set0] | with_reducible refine ch_both (fun _ => ?_) (fun _ => ?_) | with_reducible refine ite_both (fun _ => ?_) (fun _ => ?_) | intro _)
      · repeat (any_goals first | simp (dsimp := false) (maxSteps := 4000000) (maxDischargeDepth := 8) (implicitDefEqProofs := false) [*, -Int.not_le, -Int.not_lt, amLt, f12c, f12m3, f12r0, f12r1, f12r2, f12r3, f12r4, f12r5, f12r6, f12r7, f12r8, f12r9, f12r10, f12r11, f12l3_b, bys_len, app_get, app_get0, app_set, app_set0] | with_reducible refine ch_both (fun _ => ?_) (fun _ => ?_) | with_reducible refine ite_both (fun _ => ?_) (fun _ => ?_) | intro _)
  · have hpos := List.length_pos_iff.2 h0
    have hp : 0 < ws.length := hpos
    have ej : joinB (ws ++ [w]) = joinB ws ++ [32] ++ w := by rw [joinB_snoc ws w h0]; simp
    rw [ej]
    generalize joinB ws = o at *
    have hroom1 : roomy (o.length + 1) 1 = true := roomy1 (by omega)
    have hby := bys_app o 32
    rw [show ((32 : UInt8).toNat : Int) = 32 from rfl] at hby
    have hnew : CapAt 0 (.tok t.length 1) 1 (bys (o ++ [32])) (spendAt 0 cap t ++ [.tok]) := CapAt.new (k := 0) (j := 0) hsl rfl
    have hol : (o ++ [32]).length = o.length + 1 := by simp
    clear ej h0
    by_cases hw0 : w = []
    · subst hw0
      rw [List.append_nil]
      refine ⟨.tok t.length 1, spendAt 0 cap t ++ [.tok] ++ [.free], hnew.app _, ?_⟩
      rw [List.append_assoc]
      generalize o ++ [32] = o2 at *
      generalize ws.length = i at *
      clear hc ho hwl hl hlen hk hnew hpos
      rcases kk with ⟨rfl, kk⟩ | kk
      · repeat (any_goals first | simp (dsimp := false) (maxSteps := 4000000) (maxDischargeDepth := 8) (implicitDefEqProofs := false) [*, -Int.not_le, -Int.not_lt, amLt, f12c, f12m3, f12r0, f12r1, f12r2, f12r3, f12r4, f12r5, f12r6, f12r7, f12r8, f12r9, f12r10, f12r11, f12l3_b, bys_len, app_get, app_get0, app_set, app_set0, appF_str0] | with_reducible refine ch_both (fun _ => ?_) (fun _ => ?_) | with_reducible refine ite_both (fun _ => ?_) (fun _ => ?_) | intro _)
      · repeat (any_goals first | simp (dsimp := false) (maxSteps := 4000000) (maxDischargeDepth := 8) (implicitDefEqProofs := false) [*, -Int.not_le, -Int.not_lt, amLt, f12c, f12m3, f12r0, f12r1, f12r2, f12r3, f12r4, f12r5, f12r6, f12r7, f12r8, f12r9, f12r10, f12r11, f12l3_b, bys_len, app_get, app_get0, app_set, app_set0, appF_str0] | with_reducible refine ch_both (fun _ => ?_) (fun _ => ?_) | with_reducible refine ite_both (fun _ => ?_) (fun _ => ?_) | intro _)
    · have hr1 := room0 hnew
      have hs1 := spend0 hnew
      have hsl1 := spendAt_len 0 (.tok t.length 1) (spendAt 0 cap t ++ [.tok])
      have hap := fun slot cap h => appF_str slot (o ++ [32]) w cap h hw0
      have hroom2 : roomy ((o ++ [32]).length + w.length) 1 = true := roomy1 (by rw [hol]; omega)
      rw [List.length_append, hsl] at hsl1
      generalize spendAt 0 (.tok t.length 1) (spendAt 0 cap t ++ [.tok]) = T2 at *
      simp only [List.append_assoc, List.cons_append, List.nil_append, List.length_cons, List.length_nil] at hr1 hs1 hsl1
      refine ⟨.tok (t.length + 1) 1, T2 ++ [.tok], CapAt.new (k := 0) (j := 0) hsl1 rfl, ?_⟩
      simp only [hol] at hroom2 hap
      generalize o ++ [32] = o2 at *
      generalize o2 ++ w = o3 at *
      generalize ws.length = i at *
      clear hc ho hwl hl hlen hk hnew hpos hw0
      rcases kk with ⟨rfl, kk⟩ | kk
      · repeat (any_goals first | simp (dsimp := false) (maxSteps := 4000000) (maxDischargeDepth := 8) (implicitDefEqProofs := false) [*, -Int.not_le, -Int.not_lt, amLt, f12c, f12m3, f12r0, f12r1, f12r2, f12r3, f12r4, f12r5, f12r6, f12r7, f12r8, f12r9, f12r10, f12r11, f12l3_b, bys_len, app_get, app_get0, app_set, app_set0] | with_reducible refine ch_both (fun _ => ?_) (fun _ => ?_) | with_reducible refine ite_both (fun _ => ?_) (fun _ => ?_) | intro _)
      · repeat (any_goals first | simp (dsimp := false) (maxSteps := 4000000) (maxDischargeDepth := 8) (implicitDefEqProofs := false) [*, -Int.not_le, -Int.not_lt, amLt, f12c, f12m3, f12r0, f12r1, f12r2, f12r3, f12r4, f12r5, f12r6, f12r7, f12r8, f12r9, f12r10, f12r11, f12l3_b, bys_len, app_get, app_get0, app_set, app_set0] | with_reducible refine ch_both (fun _ => ?_) (fun _ => ?_) | with_reducible refine ite_both (fun _ => ?_) (fun _ => ?_) | intro _)
def RJOut (L : List (Nat × AV)) (E : List (Nat × AV)) (ws : List (List UInt8)) (x : Option (Ex × Env × Heap)) : Option (List (List UInt8)) → Prop
  | none => ∃ t', x = some (.ret, ofL [(2, .str []), (3, .int .i64 2)], t')
  | some ws2 => ∃ cap' t', x = some (.exit 0, ofL (L ++ (4, .is (bys (joinB (ws ++ ws2))) cap') :: E), t')
theorem rjoin_loop (l : List Y6) (c0 : Cap) (hl : l.length ≤ 1048576) (hy : ∀ y ∈ l, y.2.1.length ≤ 1048576) : ∀ (r : List Y6) (ws : List (List UInt8)) (cap : Cap) (t : Heap), l.drop ws.length = r → ws.length ≤ l.length → (∀ w ∈ ws, w.length ≤ 4194400) → CapAt 0 cap 1 (bys (joinB ws)) t →
    RJOut [(0, .is (rows6 l) c0)] [(5, .int .i64 l.length), (11, .bool false)] ws (Brun tab 49 (.loop f12l3) (ofL [(0, .is (rows6 l) c0), (4, .is (bys (joinB ws)) cap), (5, .int .i64 ws.length)]) t) (outsY r) := by
  intro r
  induction r with
  | nil =>
    intro ws cap t hr hi hws hc
    have hlen := congrArg List.length hr
    simp only [List.length_drop, List.length_nil] at hlen
    refine ⟨cap, t, ?_⟩
    have hl6 := rows6_len l
    have e3 : ws.length = l.length := by omega
    rw [List.append_nil, Brun_loop, e3]
    clear hr hi hlen hl hy hc e3
    repeat (any_goals first | simp (dsimp := false) (maxSteps := 4000000) (maxDischargeDepth := 8) (implicitDefEqProofs := false) [*, -Int.not_le, -Int.not_lt, amLt, f12c, f12m3, f12r0, f12r1, f12r2, f12r3, f12r4, f12r5, f12r6, f12r7, f12r8, f12r9, f12r10, f12r11, f12l3_b] | with_reducible refine ch_both (fun _ => ?_) (fun _ => ?_) | with_reducible refine ite_both (fun _ => ?_) (fun _ => ?_) | intro _)
  | cons y r ih =>
    intro ws cap t hr hi hws hc
    have hlen := congrArg List.length hr
    simp only [List.length_drop, List.length_cons] at hlen
    have hb : l[ws.length]? = some y := by
      have := congrArg (·[0]?) hr
      simpa using this
    have hmem : y ∈ l := List.mem_of_getElem? hb
    have htl : l.drop (ws.length + 1) = r := by
      have := congrArg List.tail hr
      simpa using this
    have hyt := hy y hmem
    have hg : (rows6 l)[ws.length]? = some (row6 y) := by simp [rows6, hb]
    have hW := fun h => rwrite_ok h y.1 y.2.2.1 y.2.2.2.1 y.2.2.2.2.1 y.2.2.2.2.2 y.2.1 hyt
    clear hb hmem
    obtain ⟨k, tx, n, ln, cl, of_⟩ := y
    dsimp only at hg hW hyt
    have hl6 := rows6_len l
    unfold row6 at hg
    unfold tokV at hW
    rw [Brun_loop]
    unfold outsY
    dsimp only
    have e3 : ¬ (l.length : Int) ≤ ws.length := by omega
    have w1 : IntKind.i64.wrap ((l.length : Int) - 1) = (l.length : Int) - 1 := IntWalk.i64_in _ (by omega)
    cases hO : outS k tx n with
    | none =>
      simp only [hO, outV] at hW
      refine ⟨t, ?_⟩
      generalize bys (joinB ws) = o at *
      generalize ws.length = i at *
      clear ih hr hi hlen hl hy hws hc htl hO hyt
      repeat (any_goals first | simp (dsimp := false) (maxSteps := 4000000) (maxDischargeDepth := 8) (implicitDefEqProofs := false) [*, -Int.not_le, -Int.not_lt, amLt, f12c, f12m3, f12r0, f12r1, f12r2, f12r3, f12r4, f12r5, f12r6, f12r7, f12r8, f12r9, f12r10, f12r11, f12l3_b] | with_reducible refine ch_both (fun _ => ?_) (fun _ => ?_) | with_reducible refine ite_both (fun _ => ?_) (fun _ => ?_) | intro _)
    | some w =>
      simp only [hO, outV] at hW
      dsimp only
      by_cases hk : k = 0 ∧ r ≠ []
      · rw [if_pos hk]
        obtain ⟨hk0, hk1⟩ := hk
        have hlt : (ws.length : Int) < (l.length : Int) - 1 := by
          have := List.length_pos_iff.2 hk1
          omega
        refine ⟨t, ?_⟩
        subst hk0
        generalize bys (joinB ws) = o at *
        generalize ws.length = i at *
        clear ih hr hi hlen hl hy hws hc htl hO hyt hk1
        repeat (any_goals first | simp (dsimp := false) (maxSteps := 4000000) (maxDischargeDepth := 8) (implicitDefEqProofs := false) [*, -Int.not_le, -Int.not_lt, amLt, f12c, f12m3, f12r0, f12r1, f12r2, f12r3, f12r4, f12r5, f12r6, f12r7, f12r8, f12r9, f12r10, f12r11, f12l3_b] | with_reducible refine ch_both (fun _ => ?_) (fun _ => ?_) | with_reducible refine ite_both (fun _ => ?_) (fun _ => ?_) | intro _)
      · rw [if_neg hk]
        have hwl := out_len hyt hO
        have hjl := joinB_len ws hws
        obtain ⟨cap2, t2, hc2, hbd⟩ := rjoin_body (rows6 l) c0 k n ln cl of_ tx ws w cap t hg (by omega) (by omega) hW (by
          rintro ⟨h1, h2⟩
          refine hk ⟨h1, ?_⟩
          rintro rfl
          simp only [List.length_nil] at hlen
          omega) hjl hwl hc
        have ih2 := ih (ws ++ [w]) cap2 t2 (by simpa using htl) (by simp; omega) (by
          intro x hx
          rcases List.mem_append.1 hx with hx | hx
          · exact hws x hx
          · simp only [List.mem_singleton] at hx; subst hx; exact hwl) hc2
        rw [List.length_append, List.length_singleton] at ih2
        push_cast at ih2
        rw [hbd, bthen_normal]
        cases hR : outsY r with
        | none => rw [hR] at ih2; exact ih2
        | some ws2 =>
          rw [hR] at ih2
          obtain ⟨cap', t', h2⟩ := ih2
          rw [List.append_assoc] at h2
          exact ⟨cap', t', h2⟩
theorem rjoin_ok (h : Heap) (l : List Y6) (c0 : Cap) (hl : l.length ≤ 1048576) (hy : ∀ y ∈ l, y.2.1.length ≤ 1048576) : Ccall tab 12 [.is (rows6 l) c0] h = some (outV ((outsY l).map joinB), h) := by
  have lp := rjoin_loop l .no hl hy l [] .nil [] rfl (by simp) (by simp) (CapAt.nil 0 1 [])
  have hl6 := rows6_len l
  refine Ccall_own rfl rfl rfl rfl ?_
  rw [show bys (joinB []) = [] from rfl] at lp
  simp only [List.length_nil, Int.natCast_zero] at lp
  cases hO : outsY l with
  | none =>
    rw [hO] at lp
    obtain ⟨t', lp⟩ := lp
    simp only [Option.map_none, outV]
    clear hl hy hO
    repeat (any_goals first | simp (dsimp := false) (maxSteps := 4000000) (maxDischargeDepth := 8) (implicitDefEqProofs := false) [*, -Int.not_le, -Int.not_lt, amLt, f12c, f12m3, f12r0, f12r1, f12r2, f12r3, f12r4, f12r5, f12r6, f12r7, f12r8, f12r9, f12r10, f12r11, f12l3_b] | with_reducible refine ch_both (fun _ => ?_) (fun _ => ?_) | with_reducible refine ite_both (fun _ => ?_) (fun _ => ?_) | intro _)
  | some ws =>
    rw [hO] at lp
    obtain ⟨cap', t', lp⟩ := lp
    simp only [List.nil_append, List.cons_append] at lp
    have hsc := fun c h => scells_bys (joinB ws) c h
    have hss := fun c => ssz_bys (joinB ws) c
    have hbo := bytesOf_of (joinB ws)
    simp only [Option.map_some, outV]
    generalize joinB ws = o at *
    clear hl hy hO
    repeat (any_goals first | simp (dsimp := false) (maxSteps := 4000000) (maxDischargeDepth := 8) (implicitDefEqProofs := false) [*, -Int.not_le, -Int.not_lt, amLt, f12c, f12m3, f12r0, f12r1, f12r2, f12r3, f12r4, f12r5, f12r6, f12r7, f12r8, f12r9, f12r10, f12r11, f12l3_b] | with_reducible refine ch_both (fun _ => ?_) (fun _ => ?_) | with_reducible refine ite_both (fun _ => ?_) (fun _ => ?_) | intro _)
theorem rows6_ok (l : List Y6) : ∀ r ∈ rows6 l, RowOK 6 r := by
  intro r hr
  obtain ⟨y, _, rfl⟩ := List.mem_map.1 hr
  exact ⟨rfl, rfl, rfl, rfl⟩
/-- Rows of a law's tokens. -/
theorem y6_of (B : Nat) (row : List AV) (h : (Sh.st [(.int .i64), .str, (.int .i64), (.st [(.int .i64), (.int .i64), (.int .i64)])]).Row B row) : ∃ y : Y6, row = row6 y ∧ y.2.1.length ≤ B := by
  simp only [Sh.Row, RowL] at h
  obtain ⟨a1, b1, rfl, ⟨k, _, rfl⟩, a2, b2, rfl, ⟨t, ht, rfl⟩, a3, b3, rfl, ⟨n, _, rfl⟩, a4, b4, rfl, h4, rfl⟩ := h
  obtain ⟨a5, b5, rfl, ⟨x, _, rfl⟩, a6, b6, rfl, ⟨y, _, rfl⟩, a7, b7, rfl, ⟨z, _, rfl⟩, rfl⟩ := h4
  exact ⟨(k, t, n, x, y, z), rfl, ht⟩
theorem y6s_of (B : Nat) : ∀ (rows : List (List AV)), (∀ row ∈ rows, (Sh.st [(.int .i64), .str, (.int .i64), (.st [(.int .i64), (.int .i64), (.int .i64)])]).Row B row) → ∃ l : List Y6, rows = rows6 l ∧ ∀ y ∈ l, y.2.1.length ≤ B := by
  intro rows
  induction rows with
  | nil => intro _; exact ⟨[], rfl, fun y hy => by cases hy⟩
  | cons r t ih =>
    intro h
    obtain ⟨y, rfl, hy⟩ := y6_of B r (h r (by simp))
    obtain ⟨l, rfl, hl⟩ := ih fun q hq => h q (by simp [hq])
    refine ⟨y :: l, rfl, fun z hz => ?_⟩
    rcases List.mem_cons.1 hz with rfl | hz
    · exact hy
    · exact hl z hz
theorem num_ok' (h : Heap) (n : Int) : Ccall tab 13 [.int .i64 n] h = some (.int .i64 n, h) := by
  refine Ccall_own rfl rfl rfl rfl ?_
  repeat (any_goals first | simp (dsimp := false) (maxSteps := 4000000) (maxDischargeDepth := 8) (implicitDefEqProofs := false) [*, -Int.not_le, -Int.not_lt, amLt, f13c, f13r0, f13r1] | with_reducible refine ch_both (fun _ => ?_) (fun _ => ?_) | with_reducible refine ite_both (fun _ => ?_) (fun _ => ?_) | intro _)
theorem writes_ok (h : Heap) (y : Y6) (l : List Y6) (hy : y.2.1.length ≤ 1048576) (hl : l.length ≤ 1048576) (hyl : ∀ y ∈ l, y.2.1.length ≤ 1048576) : Ccall tab 4 [.agg (row6 y), .is (rows6 l) .no] h = some (.bool true, h) := by
  have h1 := fun h => write_ok h y.1 y.2.2.1 y.2.2.2.1 y.2.2.2.2.1 y.2.2.2.2.2 y.2.1 hy
  have h2 := fun h => rwrite_ok h y.1 y.2.2.1 y.2.2.2.1 y.2.2.2.2.1 y.2.2.2.2.2 y.2.1 hy
  have h3 := fun h c => join_ok h l c hl hyl
  have h4 := fun h c => rjoin_ok h l c hl hyl
  have h5 := fun h c1 c2 => same_ok h l c1 c2 (by omega)
  unfold tokV at h1 h2
  unfold row6
  have e1 : ∀ o, ∃ (s : List UInt8) (e : Int), outV o = .tup [.str s, .int .i64 e] := by
    intro o
    cases o with
    | none => exact ⟨_, _, rfl⟩
    | some s => exact ⟨_, _, rfl⟩
  obtain ⟨s1, x1, g1⟩ := e1 (outS y.1 y.2.1 y.2.2.1)
  obtain ⟨s2, x2, g2⟩ := e1 ((outsY l).map joinB)
  rw [g1] at h1 h2
  rw [g2] at h3 h4
  by_cases hl0 : l = []
  · subst hl0
    have hap := appF_none
    refine Ccall_own rfl rfl rfl rfl ?_
    rw [show rows6 [] = [] from rfl] at *
    clear hy hl hyl g1 g2
    repeat (any_goals first | simp (dsimp := false) (maxSteps := 4000000) (maxDischargeDepth := 8) (implicitDefEqProofs := false) [*, -Int.not_le, -Int.not_lt, amLt, f4c, f4r0, f4r1, f4r2, f4r3, f4r4, f4r5, f4r6, heads_ok, num_ok'] | with_reducible refine ch_both (fun _ => ?_) (fun _ => ?_) | with_reducible refine ite_both (fun _ => ?_) (fun _ => ?_) | intro _)
  · have hne : rows6 l ≠ [] := by simpa [rows6] using hl0
    have hap := fun slot cap c2 h => appF_rows slot 6 56 [] cap c2 h (rows6_ok l) hne
    have hroom : roomy (([] : List (List AV)).length + (rows6 l).length) 56 = true := by
      rw [rows6_len]
      exact roomy_small (by simp; omega) (by decide)
    simp only [List.nil_append, List.length_nil, Nat.zero_add] at hap hroom
    refine Ccall_own rfl rfl rfl rfl ?_
    generalize rows6 l = R at *
    clear hy hl hyl g1 g2 hl0
    have sp : spend Cap.full [Blk.free] = [Blk.free] := rfl
    have rk : roomOK Cap.full 6 [] [Blk.free] = true := rfl
    repeat (any_goals first | simp (dsimp := false) (maxSteps := 4000000) (maxDischargeDepth := 8) (implicitDefEqProofs := false) [*, -Int.not_le, -Int.not_lt, amLt, f4c, f4r0, f4r1, f4r2, f4r3, f4r4, f4r5, f4r6, heads_ok, num_ok'] | with_reducible refine ch_both (fun _ => ?_) (fun _ => ?_) | with_reducible refine ite_both (fun _ => ?_) (fun _ => ?_) | intro _)
theorem writes_law : ∀ xs, ArgsL 1048576 f4s xs → ∃ h', Ccall tab 4 xs [] = some (.bool true, h') := by
  intro xs hxs
  unfold f4s at hxs
  simp only [ArgsL, Sh.Arg] at hxs
  obtain ⟨x, r, rfl, ⟨row, rfl, hrow⟩, x2, r2, rfl, hsl, rfl⟩ := hxs
  obtain ⟨y, rfl, hy⟩ := y6_of _ row hrow
  rw [Sh.Row] at hsl
  obtain ⟨rows, h1, hlen, hrows⟩ := hsl
  cases h1
  obtain ⟨l, rfl, hyl⟩ := y6s_of _ rows hrows
  exact ⟨_, writes_ok [] y l hy (by rwa [rows6_len] at hlen) hyl⟩

end Go.Proofs.YtmpdpjkblcdfkaaGreatDoor
