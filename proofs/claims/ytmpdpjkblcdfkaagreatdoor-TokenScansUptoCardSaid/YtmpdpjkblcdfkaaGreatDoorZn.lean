/- A text is cut as the document has it. -/
import Derived.Test.YtmpdpjkblcdfkaaGreatDoorZm
import Derived.Test.YtmpdpjkblcdfkaaGreatDoorHd
import Derived.Test.YtmpdpjkblcdfkaaGreatDoorAmW
namespace Go.Proofs.YtmpdpjkblcdfkaaGreatDoor
open Go.AM
set_option maxRecDepth 20000
set_option maxHeartbeats 4000000
set_option linter.unusedSimpArgs false
set_option linter.unusedVariables false
attribute [local congr] andF_cg onF_cg bthen_cg bkeep_cg bcond_cg guardV_cg putF_cg guardF_cg ite_cg stepsF_cg
attribute [local simp] Brun_skip Brun_exit Brun_ret Brun_seq Brun_cond Brun_block Brun_region bthen_normal bthen_ret bthen_exit bblock_normal bblock_ret bblock_exit bkeep_some andF_some onF_some onF_none guardF_none guardF_some guardV_tup putF_some putF_none stepsF_nil stepsF_cons upd_apply ofL_cons ofL_nil bown_normal bown_ret banswer_normal banswer_ret aresults ares List.replicate stepF_call stepF_callD stepF_move stepF_pick stepF_alloc stepF_allocV stepF_box stepF_boxV stepF_build stepF_buildSlice stepF_buildSliceV stepF_load stepF_store stepF_nilCheck stepF_bin stepF_eq stepF_un stepF_conv stepF_strId stepF_toStr stepF_toBytes stepF_fn stepF_mkSlice stepF_slice stepF_strSlice stepF_fieldAddr stepF_field stepF_idxAddr stepF_idxArr stepF_index stepF_strIndex stepF_extract stepF_len0 stepF_len1 stepF_min stepF_max stepF_append stepF_appendF appF_none appF_row stepF_mkMap stepF_mkIface stepF_lookup stepF_mapUpdate stepF_ext aext_idx aext_count aext_same cellsF newF abin_add abin_sub abin_mul abin_quo abin_rem abin_eql abin_neq abin_lss abin_leq abin_gtr abin_geq abin_and abin_or abin_xor abin_shl abin_shr abin_seql abin_sneq aun_not aun_neg aeq_bool aeq_agg eqCells_nil eqCells_int eqCells_bool eqCells_str cellsOf_agg cellsOf_int cellsOf_bool cellsOf_str cellsOf_is cellsOf_ms cellsOf_fn cellsOf_nilp cellsOf_mp cellsOf_mm cellsOf_nilm cellsOf_nili cellsOf_ifc cellsOf_ip cget_one cget_agg ev_t ev_c fillp_nil fillp_cons isSc_int isSc_bool isSc_str isSc_is isSc_ms isSc_fn isSc_mm isSc_mp isSc_ip isSc_nilp isSc_nilm isSc_nili isSc_nilf isSc_ifc splice chunk strip strip.stripL imm imm.immL Areify_int Areify_bool Areify_str Areify_is Areify_nilp Areify_tup Areify_agg AreifyL andF_chi andF_ch onF_chi onF_ch bthen_ch bthen_chi bblock_ch bblock_chi bkeep_ch bkeep_chi bown_ch bown_chi banswer_ch banswer_chi isSome_ch bcond_ch guardV_ch1 guardV_ch0 chF_true chF_false chF_not
attribute [local simp ↓] andF_some andF_chi andF_ch onF_some onF_none onF_chi onF_ch bthen_normal bthen_ret bthen_exit bthen_ch bthen_chi bblock_normal bblock_ret bblock_exit bblock_ch bblock_chi bkeep_some bkeep_ch bkeep_chi bown_normal bown_ret bown_ch bown_chi banswer_normal banswer_ret banswer_ch banswer_chi bcond_ch guardV_ch1 guardV_ch0 guardV_tup guardF_none guardF_some putF_some putF_none stepsF_nil stepsF_cons chF_true chF_false Brun_seq Brun_cond Brun_block Brun_region Brun_skip Brun_ret Brun_exit stepF_call stepF_callD stepF_move stepF_pick stepF_alloc stepF_allocV stepF_box stepF_boxV stepF_build stepF_buildSlice stepF_buildSliceV stepF_load stepF_store stepF_nilCheck stepF_bin stepF_eq stepF_un stepF_conv stepF_strId stepF_toStr stepF_toBytes stepF_fn stepF_mkSlice stepF_slice stepF_strSlice stepF_fieldAddr stepF_field stepF_idxAddr stepF_idxArr stepF_index stepF_strIndex stepF_extract stepF_len0 stepF_len1 stepF_min stepF_max stepF_append stepF_appendF stepF_mkMap stepF_mkIface stepF_lookup stepF_mapUpdate stepF_ext
set_option maxHeartbeats 2000000
theorem one_kind {s : List UInt8} {k : Int} {t : List UInt8} {v : Int} {m : Nat} (h : oneR s = .ok ((k, t, v), m)) : k ≠ 0 := by
  unfold oneR at h
  split at h
  · cases h
  · split at h
    · split at h
      · cases h
      · cases h; split <;> decide
    · split at h
      · split at h
        · cases h
        · cases h; decide
      · split at h
        · split at h
          · cases h
          · split at h
            · cases h; decide
            · split at h
              · cases h; decide
              · cases h
        · split at h
          · cases h
          · cases h; decide
theorem rscan_loop (s : List UInt8) (hs : s.length ≤ 16777216) : ∀ (f at_ off : Nat) (rows : List (List AV)) (cap : Cap) (t : Heap), off ≤ at_ → at_ ≤ s.length → s.length < at_ + f → rows.length ≤ at_ → CapAt 2 cap 6 rows t →
    SOut s rows (Brun tab 70 (.loop f6l6) (ofL [(0, .str s), (3, .mp 0 0), (4, .is rows cap), (5, .mp 1 0), (6, .int .i64 at_)]) (.cells [.int .i64 0, .int .i64 0, .int .i64 0, .int .i64 0] :: .cells [.int .i64 (spotOf s off).1, .int .i64 (spotOf s off).2, .int .i64 off] :: t)) (scanR s f at_ rows.length) := by
  intro f
  induction f with
  | zero => intro at_ off rows cap t h1 h2 h3; omega
  | succ f ih =>
    intro at_ off rows cap t hoff hat hf hrl hc
    obtain ⟨hn1, hn2⟩ := next_le s hat
    have hsp := fun h => rskip_ok h s hs at_ hat
    have hto := fun h => rmoved_ok h s hs (nextR s at_) off hn1 (by omega)
    have hstep : scanR s (f + 1) at_ rows.length = if badC s at_ = true then .error (25, nextR s at_)
      else if nextR s at_ = s.length then .ok [((0, [], 0), nextR s at_)]
      else match oneR (s.drop (nextR s at_)) with
        | .error e => .error (e, nextR s at_)
        | .ok (x, m) => if rows.length = 16384 then .error (23, nextR s at_) else consR (x, nextR s at_) (scanR s f (nextR s at_ + m) (rows.length + 1)) := rfl
    rw [hstep]
    have hlen : (s.drop (nextR s at_)).length = s.length - nextR s at_ := by simp
    have hk0 : ¬ (nextR s at_ : Int) < 0 := by omega
    rw [Brun_loop]
    by_cases hbad : badC s at_ = true
    · rw [if_pos hbad]
      simp only [if_pos hbad] at hsp
      refine ⟨.cells [.int .i64 (spotOf s off).1, .int .i64 (spotOf s off).2, .int .i64 off] :: t, ?_⟩
      generalize nextR s at_ = k at *
      generalize spotOf s off = sp at *
      generalize spotOf s k = sk at *
      clear ih hs hoff hat hf hrl hc hn1 hn2 hstep hlen hbad
      repeat (any_goals first | simp (dsimp := false) (maxSteps := 4000000) (maxDischargeDepth := 8) (implicitDefEqProofs := false) [*, -Int.not_le, -Int.not_lt, amLt, f6c, f6m6, f6r0, f6r1, f6r2, f6r3, f6r4, f6r5, f6r6, f6r7, f6r8, f6r9, f6q14, f6r10, f6r11, f6r12, f6r13, f6r15, f6r16, f6r17, f6r18, f6r19, f6l6_b, f6r14_u, f6r14_w] | with_reducible refine ch_both (fun _ => ?_) (fun _ => ?_) | with_reducible refine ite_both (fun _ => ?_) (fun _ => ?_) | intro _)
    · rw [if_neg hbad]
      simp only [if_neg hbad] at hsp
      have hr2 := hc.room2
      have hs2 := hc.spend2
      have hsl := spendAt_len 2 cap t
      have hroom : roomy (rows.length + 1) 56 = true := roomy_small (by omega) (by decide)
      by_cases hend : nextR s at_ = s.length
      · rw [if_pos hend]
        have hone := fun h => rone_end h s
        unfold tokV at hone
        have hrow : tokRows s [((0, [], 0), nextR s at_)] = [[.int .i64 0, .str [], .int .i64 0, .int .i64 (spotOf s (nextR s at_)).1, .int .i64 (spotOf s (nextR s at_)).2, .int .i64 (nextR s at_)]] := rfl
        rw [← hend] at hone
        refine ⟨.tok (t.length + 3) 6, .cells [.int .i64 (spotOf s (nextR s at_)).1, .int .i64 (spotOf s (nextR s at_)).2, .int .i64 (nextR s at_)] :: (spendAt 2 cap t ++ [.cells [.int .i64 0, .str [], .int .i64 0, .int .i64 (spotOf s (nextR s at_)).1, .int .i64 (spotOf s (nextR s at_)).2, .int .i64 (nextR s at_)], .tok]), ?_⟩
        rw [hrow]
        generalize nextR s at_ = k at *
        generalize spotOf s off = sp at *
        generalize spotOf s k = sk at *
        clear ih hs hoff hat hf hrl hc hn1 hn2 hstep hlen hbad hrow hend
        repeat (any_goals first | simp (dsimp := false) (maxSteps := 4000000) (maxDischargeDepth := 8) (implicitDefEqProofs := false) [*, -Int.not_le, -Int.not_lt, amLt, f6c, f6m6, f6r0, f6r1, f6r2, f6r3, f6r4, f6r5, f6r6, f6r7, f6r8, f6r9, f6q14, f6r10, f6r11, f6r12, f6r13, f6r15, f6r16, f6r17, f6r18, f6r19, f6l6_b, f6r14_u, f6r14_w, app_get, app_get0, app_set, app_set0] | with_reducible refine ch_both (fun _ => ?_) (fun _ => ?_) | with_reducible refine ite_both (fun _ => ?_) (fun _ => ?_) | intro _)
      · rw [if_neg hend]
        have hlt : nextR s at_ < s.length := by omega
        have hone := fun h => rone_ok h s (nextR s at_) hs hlt
        have hne : s.drop (nextR s at_) ≠ [] := by intro h; rw [h] at hlen; simp at hlen; omega
        cases hO : oneR (s.drop (nextR s at_)) with
        | error e =>
          have he := one_err hO hne
          have hone1 := hone (.cells [.int .i64 0, .int .i64 0, .int .i64 0, .int .i64 0] :: .cells [.int .i64 (spotOf s (nextR s at_)).1, .int .i64 (spotOf s (nextR s at_)).2, .int .i64 (nextR s at_)] :: (t ++ [.free]))
          rw [hO] at hone1
          clear hone
          obtain ⟨kk, hone⟩ := hone1
          unfold tokV at hone
          dsimp only
          have he1 : ¬ (e : Int) = 0 := by omega
          have he2 : ¬ e = 0 := by omega
          refine ⟨.cells [.int .i64 (spotOf s (nextR s at_)).1, .int .i64 (spotOf s (nextR s at_)).2, .int .i64 (nextR s at_)] :: (t ++ [.cells [.int .i64 0, .str [], .int .i64 0, .int .i64 0, .int .i64 0, .int .i64 0]]), ?_⟩
          generalize nextR s at_ = k at *
          generalize spotOf s off = sp at *
          generalize spotOf s k = sk at *
          clear ih hs hoff hat hf hrl hc hn1 hn2 hstep hlen hbad hlt hne hO he
          repeat (any_goals first | simp (dsimp := false) (maxSteps := 4000000) (maxDischargeDepth := 8) (implicitDefEqProofs := false) [*, -Int.not_le, -Int.not_lt, amLt, f6c, f6m6, f6r0, f6r1, f6r2, f6r3, f6r4, f6r5, f6r6, f6r7, f6r8, f6r9, f6q14, f6r10, f6r11, f6r12, f6r13, f6r15, f6r16, f6r17, f6r18, f6r19, f6l6_b, f6r14_u, f6r14_w, app_get, app_get0, app_set, app_set0] | with_reducible refine ch_both (fun _ => ?_) (fun _ => ?_) | with_reducible refine ite_both (fun _ => ?_) (fun _ => ?_) | intro _)
        | ok p =>
          obtain ⟨⟨xk, xt, xv⟩, m⟩ := p
          obtain ⟨hm0, hm⟩ := one_len hO
          have hkd := one_kind hO
          have hone2 : ∀ h, Ccall tab 19 [.str s, .int .i64 (nextR s at_)] h = some (.tup [tokV xk xt xv 0 0 0, .int .i64 (nextR s at_ + m : Nat), .int .i64 0], h) := fun h => by
            have := hone h
            rw [hO] at this
            exact this
          clear hone
          unfold tokV at hone2
          dsimp only
          by_cases hmany : rows.length = 16384
          · rw [if_pos hmany]
            have hmany' : (rows.length : Int) = 16384 := by omega
            refine ⟨.cells [.int .i64 (spotOf s (nextR s at_)).1, .int .i64 (spotOf s (nextR s at_)).2, .int .i64 (nextR s at_)] :: (t ++ [.cells [.int .i64 xk, .str xt, .int .i64 xv, .int .i64 0, .int .i64 0, .int .i64 0]]), ?_⟩
            generalize nextR s at_ + m = u at *
            generalize nextR s at_ = k at *
            generalize spotOf s off = sp at *
            generalize spotOf s k = sk at *
            clear ih hs hoff hat hf hrl hc hn1 hn2 hstep hlen hbad hlt hne hO hm hm0 hmany
            repeat (any_goals first | simp (dsimp := false) (maxSteps := 4000000) (maxDischargeDepth := 8) (implicitDefEqProofs := false) [*, -Int.not_le, -Int.not_lt, amLt, f6c, f6m6, f6r0, f6r1, f6r2, f6r3, f6r4, f6r5, f6r6, f6r7, f6r8, f6r9, f6q14, f6r10, f6r11, f6r12, f6r13, f6r15, f6r16, f6r17, f6r18, f6r19, f6l6_b, f6r14_u, f6r14_w, app_get, app_get0, app_set, app_set0] | with_reducible refine ch_both (fun _ => ?_) (fun _ => ?_) | with_reducible refine ite_both (fun _ => ?_) (fun _ => ?_) | intro _)
          · rw [if_neg hmany]
            have hmany' : ¬ (rows.length : Int) = 16384 := by omega
            have hc2 : CapAt 2 (.tok (t.length + 3) 6) 6 (rows ++ [tokRow s ((xk, xt, xv), nextR s at_)]) (spendAt 2 cap t ++ [.cells [.int .i64 xk, .str xt, .int .i64 xv, .int .i64 (spotOf s (nextR s at_)).1, .int .i64 (spotOf s (nextR s at_)).2, .int .i64 (nextR s at_)], .tok]) := CapAt.new (k := 2) hsl 1 rfl
            have ih2 := ih (nextR s at_ + m) (nextR s at_) _ _ _ (by omega) (by omega) (by omega) (by simp only [List.length_append, List.length_cons, List.length_nil]; omega) hc2
            rw [show (rows ++ [tokRow s ((xk, xt, xv), nextR s at_)]).length = rows.length + 1 by simp] at ih2
            refine SOut.step (Eq.mp (congrArg (fun x => SOut s _ x _) ?_) ih2)
            symm
            have hrow : tokRow s ((xk, xt, xv), nextR s at_) = [.int .i64 xk, .str xt, .int .i64 xv, .int .i64 (spotOf s (nextR s at_)).1, .int .i64 (spotOf s (nextR s at_)).2, .int .i64 (nextR s at_)] := rfl
            rw [hrow]
            generalize nextR s at_ + m = u at *
            generalize nextR s at_ = k at *
            generalize spotOf s off = sp at *
            generalize spotOf s k = sk at *
            clear ih ih2 hs hoff hat hf hrl hc hn1 hn2 hstep hlen hbad hlt hne hO hm hm0 hmany hc2 hrow
            repeat (any_goals first | simp (dsimp := false) (maxSteps := 4000000) (maxDischargeDepth := 8) (implicitDefEqProofs := false) [*, -Int.not_le, -Int.not_lt, amLt, f6c, f6m6, f6r0, f6r1, f6r2, f6r3, f6r4, f6r5, f6r6, f6r7, f6r8, f6r9, f6q14, f6r10, f6r11, f6r12, f6r13, f6r15, f6r16, f6r17, f6r18, f6r19, f6l6_b, f6r14_u, f6r14_w, app_get, app_get0, app_set, app_set0] | with_reducible refine ch_both (fun _ => ?_) (fun _ => ?_) | with_reducible refine ite_both (fun _ => ?_) (fun _ => ?_) | intro _)
theorem rscan_ok (h : Heap) (s : List UInt8) (hs : s.length ≤ 16777216) : Ccall tab 6 [.str s] h = some (scanV s, h) := by
  unfold scanV
  refine Ccall_own rfl rfl rfl rfl ?_
  by_cases hb : 65536 < s.length
  · rw [if_pos hb]
    have hb' : 65536 < (s.length : Int) := by omega
    clear hs hb
    repeat (any_goals first | simp (dsimp := false) (maxSteps := 4000000) (maxDischargeDepth := 8) (implicitDefEqProofs := false) [*, -Int.not_le, -Int.not_lt, amLt, f6c, f6m6, f6r0, f6r1, f6r2, f6r3, f6r4, f6r5, f6r6, f6r7, f6r8, f6r9, f6q14, f6r10, f6r11, f6r12, f6r13, f6r15, f6r16, f6r17, f6r18, f6r19, f6l6_b, f6r14_u, f6r14_w] | with_reducible refine ch_both (fun _ => ?_) (fun _ => ?_) | with_reducible refine ite_both (fun _ => ?_) (fun _ => ?_) | intro _)
  · rw [if_neg hb]
    have hb' : ¬ 65536 < (s.length : Int) := by omega
    have lp := rscan_loop s hs (s.length + 1) 0 0 [] .nil [] (Nat.le_refl _) (Nat.zero_le _) (by omega) (Nat.zero_le _) (CapAt.nil 2 6 [])
    have e0 : spotOf s 0 = (1, 1) := rfl
    rw [e0] at lp
    unfold scanS
    push_cast at lp
    simp only [List.length_nil] at lp
    cases hR : scanR s (s.length + 1) 0 0 with
    | error p =>
      obtain ⟨e, k⟩ := p
      rw [hR] at lp
      obtain ⟨t', lp⟩ := lp
      dsimp only
      unfold faultV
      clear hs hb hR e0
      repeat (any_goals first | simp (dsimp := false) (maxSteps := 4000000) (maxDischargeDepth := 8) (implicitDefEqProofs := false) [*, -Int.not_le, -Int.not_lt, amLt, f6c, f6m6, f6r0, f6r1, f6r2, f6r3, f6r4, f6r5, f6r6, f6r7, f6r8, f6r9, f6q14, f6r10, f6r11, f6r12, f6r13, f6r15, f6r16, f6r17, f6r18, f6r19, f6l6_b, f6r14_u, f6r14_w] | with_reducible refine ch_both (fun _ => ?_) (fun _ => ?_) | with_reducible refine ite_both (fun _ => ?_) (fun _ => ?_) | intro _)
    | ok l =>
      rw [hR] at lp
      obtain ⟨cap', t', lp⟩ := lp
      dsimp only
      rw [List.nil_append] at lp
      clear hs hb hR e0
      repeat (any_goals first | simp (dsimp := false) (maxSteps := 4000000) (maxDischargeDepth := 8) (implicitDefEqProofs := false) [*, -Int.not_le, -Int.not_lt, amLt, f6c, f6m6, f6r0, f6r1, f6r2, f6r3, f6r4, f6r5, f6r6, f6r7, f6r8, f6r9, f6q14, f6r10, f6r11, f6r12, f6r13, f6r15, f6r16, f6r17, f6r18, f6r19, f6l6_b, f6r14_u, f6r14_w] | with_reducible refine ch_both (fun _ => ?_) (fun _ => ?_) | with_reducible refine ite_both (fun _ => ?_) (fun _ => ?_) | intro _)
abbrev Y6 := Int × List UInt8 × Int × Int × Int × Int
def row6 (y : Y6) : List AV := [.int .i64 y.1, .str y.2.1, .int .i64 y.2.2.1, .int .i64 y.2.2.2.1, .int .i64 y.2.2.2.2.1, .int .i64 y.2.2.2.2.2]
def rows6 (l : List Y6) : List (List AV) := l.map row6
theorem rows6_len (l : List Y6) : (rows6 l).length = l.length := by simp [rows6]
theorem same_loop (l : List Y6) (c1 c2 : Cap) (hs : l.length ≤ 16777216) (h : Heap) : ∀ (m i : Nat), i + m = l.length →
    Brun tab 26 (.loop f7l4) (ofL [(0, .is (rows6 l) c1), (1, .is (rows6 l) c2), (5, .int .i64 i)]) h = some (.exit 0, ofL [(0, .is (rows6 l) c1), (1, .is (rows6 l) c2), (5, .int .i64 l.length), (14, .bool false)], h) := by
  intro m
  induction m with
  | zero =>
    intro i hi
    have e3 : (l.length : Int) = i := by omega
    have hl6 := rows6_len l
    rw [Brun_loop]
    clear hi hs
    repeat (any_goals first | simp (dsimp := false) (maxSteps := 4000000) (maxDischargeDepth := 8) (implicitDefEqProofs := false) [*, -Int.not_le, -Int.not_lt, amLt, f7c, f7m4, f7q5, f7r0, f7r1, f7r2, f7r3, f7r4, f7r6, f7r7, f7r8, f7l4_b, f7r5_u, f7r5_w] | with_reducible refine ch_both (fun _ => ?_) (fun _ => ?_) | with_reducible refine ite_both (fun _ => ?_) (fun _ => ?_) | intro _)
  | succ m ih =>
    intro i hi
    have hlt : i < l.length := by omega
    have hg : (rows6 l)[i]? = some (row6 l[i]) := by simp [rows6, hlt]
    generalize l[i] = y at *
    unfold row6 at hg
    have hl6 := rows6_len l
    have e3 : ¬ (l.length : Int) ≤ i := by omega
    have hw := w64 i (by omega)
    have ih2 := ih (i + 1) (by omega)
    push_cast at ih2
    rw [Brun_loop, ← ih2]
    clear hi hs hlt ih ih2
    repeat (any_goals first | simp (dsimp := false) (maxSteps := 4000000) (maxDischargeDepth := 8) (implicitDefEqProofs := false) [*, -Int.not_le, -Int.not_lt, amLt, f7c, f7m4, f7q5, f7r0, f7r1, f7r2, f7r3, f7r4, f7r6, f7r7, f7r8, f7l4_b, f7r5_u, f7r5_w] | with_reducible refine ch_both (fun _ => ?_) (fun _ => ?_) | with_reducible refine ite_both (fun _ => ?_) (fun _ => ?_) | intro _)
theorem same_ok (h : Heap) (l : List Y6) (c1 c2 : Cap) (hs : l.length ≤ 16777216) : Ccall tab 7 [.is (rows6 l) c1, .is (rows6 l) c2] h = some (.bool true, h) := by
  have lp := same_loop l .no .no hs [] l.length 0 (by omega)
  have hl6 := rows6_len l
  refine Ccall_own rfl rfl rfl rfl ?_
  push_cast at lp
  clear hs
  repeat (any_goals first | simp (dsimp := false) (maxSteps := 4000000) (maxDischargeDepth := 8) (implicitDefEqProofs := false) [*, -Int.not_le, -Int.not_lt, amLt, f7c, f7m4, f7q5, f7r0, f7r1, f7r2, f7r3, f7r4, f7r6, f7r7, f7r8, f7l4_b, f7r5_u, f7r5_w] | with_reducible refine ch_both (fun _ => ?_) (fun _ => ?_) | with_reducible refine ite_both (fun _ => ?_) (fun _ => ?_) | intro _)
theorem scan_err {s : List UInt8} : ∀ (f at_ n e k : Nat), scanR s f at_ n = .error (e, k) → at_ ≤ s.length → s.length < at_ + f → e = 20 ∨ e = 21 ∨ e = 22 ∨ e = 23 ∨ e = 25 ∨ e = 26 := by
  intro f
  induction f with
  | zero => intro at_ n e k _ h1 h2; omega
  | succ f ih =>
    intro at_ n e k h h1 h2
    obtain ⟨hn1, hn2⟩ := next_le s h1
    have hst : scanR s (f + 1) at_ n = if badC s at_ = true then .error (25, nextR s at_)
      else if nextR s at_ = s.length then .ok [((0, [], 0), nextR s at_)]
      else match oneR (s.drop (nextR s at_)) with
        | .error e => .error (e, nextR s at_)
        | .ok (x, m) => if n = 16384 then .error (23, nextR s at_) else consR (x, nextR s at_) (scanR s f (nextR s at_ + m) (n + 1)) := rfl
    rw [hst] at h
    by_cases hbad : badC s at_ = true
    · rw [if_pos hbad] at h
      cases h; simp
    · rw [if_neg hbad] at h
      by_cases hse : nextR s at_ = s.length
      · rw [if_pos hse] at h; cases h
      · rw [if_neg hse] at h
        cases hO : oneR (s.drop (nextR s at_)) with
        | error e' =>
          have := one_err hO (by intro h; have := congrArg List.length h; simp only [List.length_drop, List.length_nil] at this; omega)
          rw [hO] at h
          simp only [Except.error.injEq, Prod.mk.injEq] at h
          omega
        | ok p =>
          obtain ⟨x, m⟩ := p
          rw [hO] at h
          dsimp only at h
          by_cases hmany : n = 16384
          · rw [if_pos hmany] at h
            cases h; simp
          · rw [if_neg hmany] at h
            obtain ⟨hm0, hm⟩ := one_len hO
            simp only [List.length_drop] at hm
            cases hS : scanR s f (nextR s at_ + m) (n + 1) with
            | ok l => rw [hS] at h; cases h
            | error p =>
              rw [hS] at h
              simp only [consR, Except.error.injEq] at h
              subst h
              exact ih _ _ _ _ hS (by omega) (by omega)
theorem scan_succ (s : List UInt8) (f at_ n : Nat) : scanR s (f + 1) at_ n = if badC s at_ = true then .error (25, nextR s at_)
      else if nextR s at_ = s.length then .ok [((0, [], 0), nextR s at_)]
      else match oneR (s.drop (nextR s at_)) with
        | .error e => .error (e, nextR s at_)
        | .ok (x, m) => if n = 16384 then .error (23, nextR s at_) else consR (x, nextR s at_) (scanR s f (nextR s at_ + m) (n + 1)) := rfl
def toks6 (s : List UInt8) (l : List Tk) : List Y6 := l.map fun x => (x.1.1, x.1.2.1, x.1.2.2, ((spotOf s x.2).1 : Int), ((spotOf s x.2).2 : Int), (x.2 : Int))
theorem toks_rows (s : List UInt8) (l : List Tk) : tokRows s l = rows6 (toks6 s l) := by simp only [tokRows, rows6, toks6, List.map_map]; rfl
theorem scan_cases (s : List UInt8) (hs : s.length ≤ 16777216) : (∃ e l c k : Int, e ≠ 0 ∧ scanV s = .tup [.is [] .no, .agg [.int .i64 e, .int .i64 l, .int .i64 c, .int .i64 k]]) ∨
    (∃ a, s.length ≤ 65536 ∧ scanS s = .ok a ∧ scanV s = .tup [.is (rows6 (toks6 s a)) .no, .agg [.int .i64 0, .int .i64 0, .int .i64 0, .int .i64 0]]) := by
  unfold scanV
  by_cases hb : 65536 < s.length
  · rw [if_pos hb]
    exact .inl ⟨24, 0, 0, 0, by decide, rfl⟩
  · rw [if_neg hb]
    cases hS : scanS s with
    | ok l => exact .inr ⟨l, by omega, rfl, by rw [← toks_rows]⟩
    | error p =>
      obtain ⟨e, k⟩ := p
      have := scan_err _ _ _ _ _ hS (Nat.zero_le _) (by omega)
      exact .inl ⟨e, _, _, k, by omega, rfl⟩
theorem scan_rows_le {s : List UInt8} : ∀ {f at_ n : Nat} {l : List Tk}, at_ ≤ s.length → scanR s f at_ n = .ok l → l.length ≤ s.length - at_ + 1 := by
  intro f
  induction f with
  | zero => intro at_ n l _ h; cases h
  | succ f ih =>
    intro at_ n l hat h
    obtain ⟨hn1, hn2⟩ := next_le s hat
    rw [scan_succ] at h
    split at h
    · cases h
    · split at h
      · cases h; simp
      · cases hO : oneR (s.drop (nextR s at_)) with
        | error e => rw [hO] at h; cases h
        | ok p =>
          obtain ⟨x, m⟩ := p
          rw [hO] at h
          dsimp only at h
          obtain ⟨hm0, hm⟩ := one_len hO
          simp only [List.length_drop] at hm
          split at h
          · cases h
          · cases hR : scanR s f (nextR s at_ + m) (n + 1) with
            | error e => rw [hR] at h; cases h
            | ok l' =>
              rw [hR] at h
              cases h
              have := ih (by omega) hR
              simp only [List.length_cons]
              omega
theorem scans_ok (h : Heap) (s : List UInt8) (hs : s.length ≤ 1048576) : Ccall tab 3 [.str s] h = some (.bool true, h) := by
  have h1 := fun h => scan_ok h s (by omega)
  have h2 := fun h => rscan_ok h s (by omega)
  rcases scan_cases s (by omega) with ⟨e, l, c, k, he, hv⟩ | ⟨a, hl, hsa, hv⟩
  · simp only [hv] at h1 h2
    have hsame := fun h => same_ok h [] .no .no (by simp)
    rw [show rows6 [] = [] from rfl] at hsame
    refine Ccall_own rfl rfl rfl rfl ?_
    clear hs hv
    repeat (any_goals first | simp (dsimp := false) (maxSteps := 4000000) (maxDischargeDepth := 8) (implicitDefEqProofs := false) [*, -Int.not_le, -Int.not_lt, amLt, f3c, f3r0, f3r1, f3r2, f3r3, heads_ok] | with_reducible refine ch_both (fun _ => ?_) (fun _ => ?_) | with_reducible refine ite_both (fun _ => ?_) (fun _ => ?_) | intro _)
  · simp only [hv] at h1 h2
    have hal := scan_rows_le (Nat.zero_le _) hsa
    have hsame := fun h => same_ok h (toks6 s a) .no .no (by simp only [toks6, List.length_map]; omega)
    generalize rows6 (toks6 s a) = rows at *
    refine Ccall_own rfl rfl rfl rfl ?_
    clear hs hv hl hsa hal
    repeat (any_goals first | simp (dsimp := false) (maxSteps := 4000000) (maxDischargeDepth := 8) (implicitDefEqProofs := false) [*, -Int.not_le, -Int.not_lt, amLt, f3c, f3r0, f3r1, f3r2, f3r3, heads_ok] | with_reducible refine ch_both (fun _ => ?_) (fun _ => ?_) | with_reducible refine ite_both (fun _ => ?_) (fun _ => ?_) | intro _)
theorem scans_law : ∀ xs, ArgsL 1048576 f3s xs → ∃ h', Ccall tab 3 xs [] = some (.bool true, h') := by
  intro xs hxs
  unfold f3s at hxs
  simp only [ArgsL, Sh.Arg, Sh.Row] at hxs
  obtain ⟨x, r, rfl, ⟨s, hl, hs⟩, rfl⟩ := hxs
  cases hs
  exact ⟨_, scans_ok [] s hl⟩

end Go.Proofs.YtmpdpjkblcdfkaaGreatDoor
