/- Chapter 23: FrameLays answers true over every function. -/
import Derived.Test.YtlmgkbdcpaojlaaVg
import Derived.Test.YtlmgkbdcpaojlaaAmW
namespace Go.Proofs.Ytlmgkbdcpaojlaa
open Go.AM
set_option maxRecDepth 20000
set_option maxHeartbeats 4000000
set_option linter.unusedSimpArgs false
set_option linter.unusedVariables false
attribute [local congr] andF_cg onF_cg bthen_cg bkeep_cg bcond_cg guardV_cg putF_cg guardF_cg ite_cg stepsF_cg
attribute [local simp] Brun_skip Brun_exit Brun_ret Brun_seq Brun_cond Brun_block Brun_region bthen_normal bthen_ret bthen_exit bblock_normal bblock_ret bblock_exit bkeep_some andF_some onF_some onF_none guardF_none guardF_some guardV_tup putF_some putF_none stepsF_nil stepsF_cons upd_apply ofL_cons ofL_nil bown_normal bown_ret banswer_normal banswer_ret aresults ares List.replicate stepF_call stepF_callD stepF_move stepF_pick stepF_alloc stepF_allocV stepF_box stepF_boxV stepF_build stepF_buildSlice stepF_buildSliceV stepF_load stepF_store stepF_nilCheck stepF_bin stepF_eq stepF_un stepF_conv stepF_strId stepF_toStr stepF_toBytes stepF_fn stepF_mkSlice stepF_slice stepF_strSlice stepF_fieldAddr stepF_field stepF_idxAddr stepF_idxArr stepF_index stepF_strIndex stepF_extract stepF_len0 stepF_len1 stepF_min stepF_max stepF_append stepF_appendF appF_none appF_row stepF_mkMap stepF_mkIface stepF_lookup stepF_mapUpdate cellsF newF abin_add abin_sub abin_mul abin_quo abin_rem abin_eql abin_neq abin_lss abin_leq abin_gtr abin_geq abin_and abin_or abin_xor abin_shl abin_shr abin_seql abin_sneq aun_not aun_neg aeq_bool aeq_agg eqCells_nil eqCells_int eqCells_bool eqCells_str cellsOf_agg cellsOf_int cellsOf_bool cellsOf_str cellsOf_is cellsOf_ms cellsOf_fn cellsOf_nilp cellsOf_mp cellsOf_mm cellsOf_nilm cellsOf_nili cellsOf_ifc cellsOf_ip cget_one cget_agg ev_t ev_c fillp_nil fillp_cons isSc_int isSc_bool isSc_str isSc_is isSc_ms isSc_fn isSc_mm isSc_mp isSc_ip isSc_nilp isSc_nilm isSc_nili isSc_nilf isSc_ifc splice chunk strip strip.stripL imm imm.immL Areify_int Areify_bool Areify_str Areify_is Areify_nilp Areify_tup Areify_agg AreifyL andF_chi andF_ch onF_chi onF_ch bthen_ch bthen_chi bblock_ch bblock_chi bkeep_ch bkeep_chi bown_ch bown_chi banswer_ch banswer_chi isSome_ch bcond_ch guardV_ch1 guardV_ch0 chF_true chF_false chF_not
attribute [local simp ↓] andF_some andF_chi andF_ch onF_some onF_none onF_chi onF_ch bthen_normal bthen_ret bthen_exit bthen_ch bthen_chi bblock_normal bblock_ret bblock_exit bblock_ch bblock_chi bkeep_some bkeep_ch bkeep_chi bown_normal bown_ret bown_ch bown_chi banswer_normal banswer_ret banswer_ch banswer_chi bcond_ch guardV_ch1 guardV_ch0 guardV_tup guardF_none guardF_some putF_some putF_none stepsF_nil stepsF_cons chF_true chF_false Brun_seq Brun_cond Brun_block Brun_region Brun_skip Brun_ret Brun_exit stepF_call stepF_callD stepF_move stepF_pick stepF_alloc stepF_allocV stepF_box stepF_boxV stepF_build stepF_buildSlice stepF_buildSliceV stepF_load stepF_store stepF_nilCheck stepF_bin stepF_eq stepF_un stepF_conv stepF_strId stepF_toStr stepF_toBytes stepF_fn stepF_mkSlice stepF_slice stepF_strSlice stepF_fieldAddr stepF_field stepF_idxAddr stepF_idxArr stepF_index stepF_strIndex stepF_extract stepF_len0 stepF_len1 stepF_min stepF_max stepF_append stepF_appendF stepF_mkMap stepF_mkIface stepF_lookup stepF_mapUpdate
theorem heads_ok (h : Heap) : Ccall tab 11 [] h = some (.bool true, h) := by
  refine Ccall_run (w := []) 1000 ?_
  kernel_rfl
theorem lays_ok (h : Heap) (nm : List UInt8) (pr temps : Int) (gv : Bool) (sl : List (Int × Int)) (code : List (List AV)) (hsl : sl.length ≤ 1048576) (hc : ∀ q ∈ code, IsIns q) (hs : code.length ≤ 1048576) :
    Ccall tab 3 [.agg [.str nm, .int .i64 pr, .int .i64 temps, .bool gv, .is (pairs sl) .no, .is code .no]] h = some (.bool true, h) := by
  have h1 := fun h => copy_ok h nm pr temps gv sl code hsl hc hs
  have h2 := fun h => of_ok h nm pr temps gv sl code
  have h3 := fun h => of_ok' h nm pr temps gv sl code
  have h4 := fun h => func_ok h nm pr temps gv sl code hsl hc hs
  have h5 := fun h (l : List Int) a b c (hl : l.length < 4611686018427387904) => frame_same h l a b c hl
  have hlen : ∀ (s : List (Int × Int)) (n : Int) (l : List Int) (k : Int), lay s n = some (l, k) → l.length = s.length := by
    intro s
    induction s with
    | nil => intro n l k h; simp only [lay, Option.some.injEq, Prod.mk.injEq] at h; obtain ⟨rfl, _⟩ := h; rfl
    | cons a r ih =>
      intro n l k h
      simp only [lay] at h
      by_cases hf : fitsB a = true
      · rw [if_pos hf] at h
        cases hq : lay r (upI n a.2 + a.1) with
        | none => rw [hq] at h; cases h
        | some q =>
          obtain ⟨l2, k2⟩ := q
          rw [hq] at h
          simp only [Option.some.injEq, Prod.mk.injEq] at h
          obtain ⟨rfl, _⟩ := h
          have := ih _ _ _ hq
          rw [List.length_cons, List.length_cons, this]
      · rw [if_neg hf] at h; cases h
  have h6 : ofAns temps sl = none ∨ ∃ l a b c, ofAns temps sl = some (l, a, b, c) ∧ l.length < 4611686018427387904 := by
    cases hy : ofAns temps sl with
    | none => exact .inl rfl
    | some r =>
      obtain ⟨l, a, b, c⟩ := r
      refine .inr ⟨l, a, b, c, rfl, ?_⟩
      unfold ofAns at hy
      by_cases q : 256 < sl.length ∨ temps < 0 ∨ 10 < temps
      · rw [if_pos q] at hy; cases hy
      · rw [if_neg q] at hy
        cases hz : lay sl 0 with
        | none => rw [hz] at hy; cases hy
        | some p =>
          obtain ⟨l2, k2⟩ := p
          rw [hz] at hy
          dsimp only at hy
          by_cases q2 : 65536 < upI (upI k2 4 + 4 * temps + 4) 8
          · rw [if_pos q2] at hy; cases hy
          · rw [if_neg q2] at hy
            simp only [Option.some.injEq, Prod.mk.injEq] at hy
            obtain ⟨rfl, _⟩ := hy
            have := hlen _ _ _ _ hz
            omega
  have hh := heads_ok
  clear hsl hc hs hlen
  rcases h6 with h6 | ⟨l, a, b, c, h6, hl⟩
  · rw [h6] at h2 h3
    have h5 := fun h => h5 h [] 0 0 0 (by decide)
    simp only [ints_nil] at h5
    refine Ccall_own rfl rfl rfl rfl ?_
    generalize tab = A at *
    repeat (any_goals first | simp (dsimp := false) (maxSteps := 4000000) (maxDischargeDepth := 8) (implicitDefEqProofs := false) [*, -Int.not_le, -Int.not_lt, amLt, f3c, f3r0, f3r1, f3r2, f3r3, f3r4, ofV, ints] | with_reducible refine ch_both (fun _ => ?_) (fun _ => ?_) | with_reducible refine ite_both (fun _ => ?_) (fun _ => ?_) | intro _)
  · rw [h6] at h2 h3
    have h5 := fun h => h5 h l a b c hl
    clear hl
    refine Ccall_own rfl rfl rfl rfl ?_
    generalize tab = A at *
    repeat (any_goals first | simp (dsimp := false) (maxSteps := 4000000) (maxDischargeDepth := 8) (implicitDefEqProofs := false) [*, -Int.not_le, -Int.not_lt, amLt, f3c, f3r0, f3r1, f3r2, f3r3, f3r4, ofV] | with_reducible refine ch_both (fun _ => ?_) (fun _ => ?_) | with_reducible refine ite_both (fun _ => ?_) (fun _ => ?_) | intro _)
theorem pairs_of : ∀ (rows : List (List AV)), (∀ row ∈ rows, ∃ x y, row = [.int .i64 x, .int .i64 y]) → ∃ sl, rows = pairs sl := by
  intro rows
  induction rows with
  | nil => intro _; exact ⟨[], rfl⟩
  | cons r t ih =>
    intro h
    obtain ⟨x, y, rfl⟩ := h r List.mem_cons_self
    obtain ⟨sl, rfl⟩ := ih (fun q hq => h q (List.mem_cons_of_mem _ hq))
    exact ⟨(x, y) :: sl, rfl⟩
theorem lays_law : ∀ xs, ArgsL 1048576 f3s xs → ∃ h', Ccall tab 3 xs [] = some (.bool true, h') := by
  intro xs hxs
  unfold f3s at hxs
  simp only [ArgsL, Sh.Arg, Sh.Row] at hxs
  obtain ⟨x, r, rfl, ⟨row, rfl, hrow⟩, rfl⟩ := hxs
  simp only [RowL, Sh.Row] at hrow
  obtain ⟨_, _, rfl, ⟨nm, _, rfl⟩, _, _, rfl, ⟨pr, _, rfl⟩, _, _, rfl, ⟨temps, _, rfl⟩, _, _, rfl, ⟨gv, rfl⟩, _, _, rfl, ⟨srows, rfl, hsl, hsr⟩, _, _, rfl, ⟨crows, rfl, hcl, hcr⟩, rfl⟩ := hrow
  obtain ⟨sl, rfl⟩ := pairs_of srows (fun q hq => by
    obtain ⟨_, _, rfl, ⟨a, _, rfl⟩, _, _, rfl, ⟨b, _, rfl⟩, rfl⟩ := hsr q hq
    exact ⟨a, b, rfl⟩)
  have hc : ∀ q ∈ crows, IsIns q := fun q hq => by
    obtain ⟨_, _, rfl, ⟨a0, _, rfl⟩, _, _, rfl, ⟨a1, _, rfl⟩, _, _, rfl, ⟨a2, _, rfl⟩, _, _, rfl, ⟨_, _, rfl, ⟨a3, _, rfl⟩, _, _, rfl, ⟨a4, _, rfl⟩, rfl⟩, _, _, rfl, ⟨_, _, rfl, ⟨a5, _, rfl⟩, _, _, rfl, ⟨a6, _, rfl⟩, rfl⟩, _, _, rfl, ⟨a7, _, rfl⟩, _, _, rfl, ⟨a8, _, rfl⟩, _, _, rfl, ⟨a9, _, rfl⟩, _, _, rfl, ⟨b, rfl⟩, _, _, rfl, ⟨args, rfl, hal, har⟩, rfl⟩ := hcr q hq
    refine ⟨a0, a1, a2, a3, a4, a5, a6, a7, a8, a9, b, args, rfl, fun p hp => ?_, hal⟩
    obtain ⟨_, _, rfl, ⟨x, _, rfl⟩, _, _, rfl, ⟨y, _, rfl⟩, rfl⟩ := har p hp
    exact ⟨x, y, rfl⟩
  rw [pairs_len] at hsl
  exact ⟨_, lays_ok [] nm pr temps gv sl crows hsl hc hcl⟩

end Go.Proofs.Ytlmgkbdcpaojlaa
