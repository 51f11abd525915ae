/- Moves: the law. -/
import Derived.Test.YtfhijkapcdmdnaaMm
import Derived.Test.YtfhijkapcdmdnaaHd
import Derived.Test.YtfhijkapcdmdnaaAmW
namespace Go.Proofs.Ytfhijkapcdmdnaa
open Go.AM
set_option maxRecDepth 20000
set_option maxHeartbeats 4000000
set_option linter.unusedSimpArgs false
set_option linter.unusedVariables false
attribute [local congr] andF_cg onF_cg bthen_cg bkeep_cg bcond_cg guardV_cg putF_cg guardF_cg ite_cg stepsF_cg
attribute [local simp] Brun_skip Brun_exit Brun_ret Brun_seq Brun_cond Brun_block Brun_region bthen_normal bthen_ret bthen_exit bblock_normal bblock_ret bblock_exit bkeep_some andF_some onF_some onF_none guardF_none guardF_some guardV_tup putF_some putF_none stepsF_nil stepsF_cons upd_apply ofL_cons ofL_nil bown_normal bown_ret banswer_normal banswer_ret aresults ares List.replicate stepF_call stepF_callD stepF_move stepF_pick stepF_alloc stepF_allocV stepF_box stepF_boxV stepF_build stepF_buildSlice stepF_buildSliceV stepF_load stepF_store stepF_nilCheck stepF_bin stepF_eq stepF_un stepF_conv stepF_strId strIdV_str strIdV_int stepF_toStr stepF_toBytes stepF_fn stepF_mkSlice stepF_slice stepF_strSlice stepF_fieldAddr stepF_field stepF_idxAddr stepF_idxArr stepF_index stepF_strIndex stepF_extract stepF_len0 stepF_len1 stepF_min stepF_max stepF_append stepF_appendF appF_none appF_row stepF_mkMap stepF_mkIface stepF_lookup stepF_mapUpdate stepF_ext aext_idx aext_count aext_same cellsF newF abin_add abin_sub abin_mul abin_quo abin_rem abin_eql abin_neq abin_lss abin_leq abin_gtr abin_geq abin_and abin_or abin_xor abin_shl abin_shr abin_seql abin_sneq aun_not aun_neg aeq_bool aeq_agg eqCells_nil eqCells_int eqCells_bool eqCells_str cellsOf_agg cellsOf_int cellsOf_bool cellsOf_str cellsOf_is cellsOf_ms cellsOf_fn cellsOf_nilp cellsOf_mp cellsOf_mm cellsOf_nilm cellsOf_nili cellsOf_ifc cellsOf_ip cget_one cget_agg ev_t ev_c fillp_nil fillp_cons isSc_int isSc_bool isSc_str isSc_is isSc_ms isSc_fn isSc_mm isSc_mp isSc_ip isSc_nilp isSc_nilm isSc_nili isSc_nilf isSc_ifc splice chunk strip strip.stripL imm imm.immL Areify_int Areify_bool Areify_str Areify_is Areify_nilp Areify_tup Areify_agg AreifyL andF_chi andF_ch onF_chi onF_ch bthen_ch bthen_chi bblock_ch bblock_chi bkeep_ch bkeep_chi bown_ch bown_chi banswer_ch banswer_chi isSome_ch bcond_ch guardV_ch1 guardV_ch0 chF_true chF_false chF_not
attribute [local simp ↓] andF_some andF_chi andF_ch onF_some onF_none onF_chi onF_ch bthen_normal bthen_ret bthen_exit bthen_ch bthen_chi bblock_normal bblock_ret bblock_exit bblock_ch bblock_chi bkeep_some bkeep_ch bkeep_chi bown_normal bown_ret bown_ch bown_chi banswer_normal banswer_ret banswer_ch banswer_chi bcond_ch guardV_ch1 guardV_ch0 guardV_tup guardF_none guardF_some putF_some putF_none stepsF_nil stepsF_cons chF_true chF_false Brun_seq Brun_cond Brun_block Brun_region Brun_skip Brun_ret Brun_exit stepF_call stepF_callD stepF_move stepF_pick stepF_alloc stepF_allocV stepF_box stepF_boxV stepF_build stepF_buildSlice stepF_buildSliceV stepF_load stepF_store stepF_nilCheck stepF_bin stepF_eq stepF_un stepF_conv stepF_strId stepF_toStr stepF_toBytes stepF_fn stepF_mkSlice stepF_slice stepF_strSlice stepF_fieldAddr stepF_field stepF_idxAddr stepF_idxArr stepF_index stepF_strIndex stepF_extract stepF_len0 stepF_len1 stepF_min stepF_max stepF_append stepF_appendF stepF_mkMap stepF_mkIface stepF_lookup stepF_mapUpdate stepF_ext
set_option maxHeartbeats 4000000
/-! The statement FrameMoves. -/
theorem own_app (l : List Mv) (hl : l.length ≤ 4194304) : ∃ co t0, appF 0 2 16 (.is [] .full) (.is (mvRows l) .no) [.free] = some (.is (mvRows l) co, [t0]) := by
  by_cases h : l = []
  · subst h
    exact ⟨.full, .free, appF_none 0 2 16 [] .full .no [.free]⟩
  · have hne : mvRows l ≠ [] := fun e => h (List.map_eq_nil_iff.1 e)
    have hok : ∀ r ∈ mvRows l, RowOK 2 r := fun r hr => by
      obtain ⟨m, _, rfl⟩ := List.mem_map.1 hr
      exact ⟨rfl, rfl, rfl, rfl⟩
    have := appF_rows 0 2 16 [] .full .no [.free] hok hne
    have hroom : roomy (([] : List (List AV)).length + (mvRows l).length) 16 = true := by
      rw [mvRows_len]; simp only [roomy, decide_eq_true_eq, List.length_nil]; omega
    have rk : roomOK Cap.full 2 [] [Blk.free] = true := rfl
    rw [hroom, rk, if_pos rfl, if_pos rfl] at this
    exact ⟨_, _, this⟩
theorem moves_facts {l : List Mv} {sp : Int} (h : rightS sp l = true) : (∀ i, 0 ≤ i → i ≤ 15 → i ≠ sp → runM id (movesA sp l) i = wF id l i) ∧ InR (movesA sp l) ∧ (movesA sp l).length ≤ (restM l).length + cyc (restM l) ∧ (tos l).Nodup ∧ ∀ m ∈ l, (0 ≤ m.1 ∧ m.1 ≤ 15) ∧ (0 ≤ m.2 ∧ m.2 ≤ 15) := by
  obtain ⟨hI, hIn, hn, hsp, hall⟩ := right_inv h
  obtain ⟨tail, h1, h2, h3, h4⟩ := moves_ok hsp (need (restM l)) (restM l) [] hI hIn (Nat.le_refl _)
  have hM : movesA sp l = tail := by unfold movesA; rw [h1, List.nil_append]
  rw [hM]
  refine ⟨fun i _ _ hs => ?_, h4, h3, hn, fun m hm => ⟨(hall m hm).1, (hall m hm).2.1⟩⟩
  rw [h2 id i hs, wF_src l id i hn fun m _ => rfl]
  unfold aim
  cases src (restM l) i <;> rfl
theorem moves_law (l : List Mv) (sp : Int) (hl : l.length ≤ 1048576) (H : Heap) : Ccall tab 3 [.is (mvRows l) .no, .int .i64 sp] H = some (.bool true, H) := by
  obtain ⟨co, t0, ha⟩ := own_app l (by omega)
  have hm4 := fun h => moves4_ok h l sp co (by omega)
  have hr5 := fun h => right_ok (sp := sp) (l := l) (c0 := .no) h (by omega)
  have hh := heads_ok
  have hml := mvRows_len l
  unfold ansM at hm4
  cases hr : rightS sp l with
  | false =>
    rw [hr] at hm4 hr5
    rw [if_neg (by simp)] at hm4
    obtain ⟨E1, l1⟩ := law_same (l := l) (sp := sp) (c0 := .no) (co := co) (.is [] .no) (.int .i64 2) (by omega) [t0] l.length 0 (by omega)
    simp only [Int.natCast_zero] at l1
    refine Ccall_own rfl rfl rfl rfl ?_
    generalize mvRows l = X at *
    clear hr hl
    repeat (any_goals first | simp (dsimp := false) (maxSteps := 4000000) (maxDischargeDepth := 8) (implicitDefEqProofs := false) [*, -Int.not_le, -Int.not_lt, amLt, f3c, f3m4, f3q5, f3r0, f3r1, f3r2, f3r3, f3r4, f3r6, f3r7, f3r8, f3r9, f3m14, f3m20, f3m26, f3m32, f3q21, f3q22, f3q29, f3q33, f3r10, f3r11, f3r12, f3r13, f3r14, f3r15, f3r16, f3r17, f3r18, f3r19, f3r20, f3r23, f3r24, f3r25, f3r26, f3r27, f3r28, f3r30, f3r31, f3r32, f3r34, f3r35, f3r36, f3l4_b, f3r5_u, f3r5_w, f3l14_b, f3l20_b, f3l26_b, f3l32_b, f3r21_u, f3r21_w, f3r22_u, f3r22_w, f3r29_u, f3r29_w, f3r33_u, f3r33_w] | with_reducible refine ch_both (fun _ => ?_) (fun _ => ?_) | with_reducible refine ite_both (fun _ => ?_) (fun _ => ?_) | intro _)
  | true =>
    rw [hr] at hm4 hr5
    rw [if_pos rfl] at hm4
    obtain ⟨f1, f2, f3, f4, f5⟩ := moves_facts hr
    have hrl : (restM l).length = l.countP (fun m => !self m) := by unfold restM; rw [List.countP_eq_length_filter]
    obtain ⟨n, c1, c2, c3⟩ := cycles_ok (l := l) (c0 := .no) [t0, .cells (arrF id), .cells (arrF id)] (by omega) f5 f4
    have hlen : (movesA sp l).length ≤ 2 * l.length + 16 := by
      have h1 : (restM l).length ≤ l.length := List.length_filter_le ..
      omega
    obtain ⟨E1, l1⟩ := law_same (l := l) (sp := sp) (c0 := .no) (co := co) (.is (mvRows (movesA sp l)) .no) (.int .i64 0) (by omega) [t0] l.length 0 (by omega)
    have l2 := law_fill (sp := sp) (.is (mvRows l) .no) (.is (mvRows (movesA sp l)) .no) t0 16 0 rfl
    have z0 : arrF (fun i => if i < ((0 : Nat) : Int) then i else 0) = [.int .i64 0, .int .i64 0, .int .i64 0, .int .i64 0, .int .i64 0, .int .i64 0, .int .i64 0, .int .i64 0, .int .i64 0, .int .i64 0, .int .i64 0, .int .i64 0, .int .i64 0, .int .i64 0, .int .i64 0, .int .i64 0] := rfl
    rw [z0] at l2
    obtain ⟨E3, l3⟩ := law_want (l := l) (sp := sp) (.is (mvRows (movesA sp l)) .no) .no t0 (arrF id) (by omega) f5 l 0 id n rfl (by omega) (by omega)
    obtain ⟨E4, l4⟩ := law_run (l := movesA sp l) (sp := sp) .no (.int .i64 ((n + l.countP (fun m => !self m) : Nat) : Int)) t0 (arrF (wF id l)) (by omega) f2 (movesA sp l) 0 id [] rfl (by omega)
    obtain ⟨E5, l5⟩ := law_eq (sp := sp) (.is (mvRows (movesA sp l)) .no) (.int .i64 ((n + l.countP (fun m => !self m) : Nat) : Int)) t0 (runM id (movesA sp l)) (wF id l) f1 16 0 [] rfl
    have hml2 := mvRows_len (movesA sp l)
    have hfin : ((movesA sp l).length : Int) ≤ ((n + l.countP (fun m => !self m) : Nat) : Int) := by omega
    simp only [Int.natCast_zero] at l1 l2 l3 l4 l5
    refine Ccall_own rfl rfl rfl rfl ?_
    generalize ((n + l.countP (fun m => !self m) : Nat) : Int) = tot at *
    generalize arrF (runM id (movesA sp l)) = F4 at *
    generalize arrF (wF id l) = F3 at *
    generalize arrF id = F2 at *
    generalize (movesA sp l).length = ml at *
    generalize mvRows (movesA sp l) = MX at *
    generalize mvRows l = X at *
    clear hr hl f1 f2 f3 f4 f5 hrl c2 c3 hlen z0
    repeat (any_goals first | simp (dsimp := false) (maxSteps := 4000000) (maxDischargeDepth := 8) (implicitDefEqProofs := false) [*, -Int.not_le, -Int.not_lt, amLt, f3c, f3m4, f3q5, f3r0, f3r1, f3r2, f3r3, f3r4, f3r6, f3r7, f3r8, f3r9, f3m14, f3m20, f3m26, f3m32, f3q21, f3q22, f3q29, f3q33, f3r10, f3r11, f3r12, f3r13, f3r14, f3r15, f3r16, f3r17, f3r18, f3r19, f3r20, f3r23, f3r24, f3r25, f3r26, f3r27, f3r28, f3r30, f3r31, f3r32, f3r34, f3r35, f3r36, f3l4_b, f3r5_u, f3r5_w, f3l14_b, f3l20_b, f3l26_b, f3l32_b, f3r21_u, f3r21_w, f3r22_u, f3r22_w, f3r29_u, f3r29_w, f3r33_u, f3r33_w] | with_reducible refine ch_both (fun _ => ?_) (fun _ => ?_) | with_reducible refine ite_both (fun _ => ?_) (fun _ => ?_) | intro _)
theorem moves_args : ∀ xs, ArgsL 1048576 f3s xs → ∃ h', Ccall tab 3 xs [] = some (.bool true, h') := by
  intro xs hxs
  obtain ⟨x, _, rfl, h1, y, _, rfl, h2, rfl⟩ := hxs
  simp only [Sh.Arg, Sh.Row, RowL] at h1 h2
  obtain ⟨rows, hx, hl, hr⟩ := h1
  simp only [List.cons.injEq, and_true] at hx
  subst hx
  obtain ⟨n, _, hy⟩ := h2
  simp only [List.cons.injEq, and_true] at hy
  subst hy
  have key : ∀ rows : List (List AV), (∀ q ∈ rows, ∃ a b : Int, q = [.int .i64 a, .int .i64 b]) → ∃ l : List Mv, rows = mvRows l := by
    intro rows
    induction rows with
    | nil => intro _; exact ⟨[], rfl⟩
    | cons r t ih =>
      intro h
      obtain ⟨a, b, rfl⟩ := h r List.mem_cons_self
      obtain ⟨l, rfl⟩ := ih fun q hq => h q (List.mem_cons_of_mem _ hq)
      exact ⟨(a, b) :: l, rfl⟩
  obtain ⟨l, rfl⟩ := key rows fun q hq => by
    obtain ⟨_, _, rfl, ⟨a, _, rfl⟩, _, _, rfl, ⟨b, _, rfl⟩, rfl⟩ := hr q hq
    exact ⟨a, b, rfl⟩
  rw [mvRows_len] at hl
  exact ⟨_, moves_law l n hl []⟩

end Go.Proofs.Ytfhijkapcdmdnaa
