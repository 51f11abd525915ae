/- Two texts: where there is nothing to show. -/
import Derived.Test.YtmpdpjkblcdfkaaDoorTv
import Derived.Test.YtmpdpjkblcdfkaaDoorHd
import Derived.Test.YtmpdpjkblcdfkaaDoorAmW
namespace Go.Proofs.YtmpdpjkblcdfkaaDoor
open Go.AM
set_option maxRecDepth 20000
set_option maxHeartbeats 4000000
set_option linter.unusedSimpArgs false
set_option linter.unusedVariables false
attribute [local congr] andF_cg onF_cg bthen_cg bkeep_cg bcond_cg guardV_cg putF_cg guardF_cg ite_cg stepsF_cg
attribute [local simp] Brun_skip Brun_exit Brun_ret Brun_seq Brun_cond Brun_block Brun_region bthen_normal bthen_ret bthen_exit bblock_normal bblock_ret bblock_exit bkeep_some andF_some onF_some onF_none guardF_none guardF_some guardV_tup putF_some putF_none stepsF_nil stepsF_cons upd_apply ofL_cons ofL_nil bown_normal bown_ret banswer_normal banswer_ret aresults ares List.replicate stepF_call stepF_callD stepF_move stepF_pick stepF_alloc stepF_allocV stepF_box stepF_boxV stepF_build stepF_buildSlice stepF_buildSliceV stepF_load stepF_store stepF_nilCheck stepF_bin stepF_eq stepF_un stepF_conv stepF_strId stepF_toStr stepF_toBytes stepF_fn stepF_mkSlice stepF_slice stepF_strSlice stepF_fieldAddr stepF_field stepF_idxAddr stepF_idxArr stepF_index stepF_strIndex stepF_extract stepF_len0 stepF_len1 stepF_min stepF_max stepF_append stepF_appendF appF_none appF_row stepF_mkMap stepF_mkIface stepF_lookup stepF_mapUpdate stepF_ext aext_idx aext_count aext_same cellsF newF abin_add abin_sub abin_mul abin_quo abin_rem abin_eql abin_neq abin_lss abin_leq abin_gtr abin_geq abin_and abin_or abin_xor abin_shl abin_shr abin_seql abin_sneq aun_not aun_neg aeq_bool aeq_agg eqCells_nil eqCells_int eqCells_bool eqCells_str cellsOf_agg cellsOf_int cellsOf_bool cellsOf_str cellsOf_is cellsOf_ms cellsOf_fn cellsOf_nilp cellsOf_mp cellsOf_mm cellsOf_nilm cellsOf_nili cellsOf_ifc cellsOf_ip cget_one cget_agg ev_t ev_c fillp_nil fillp_cons isSc_int isSc_bool isSc_str isSc_is isSc_ms isSc_fn isSc_mm isSc_mp isSc_ip isSc_nilp isSc_nilm isSc_nili isSc_nilf isSc_ifc splice chunk strip strip.stripL imm imm.immL Areify_int Areify_bool Areify_str Areify_is Areify_nilp Areify_tup Areify_agg AreifyL andF_chi andF_ch onF_chi onF_ch bthen_ch bthen_chi bblock_ch bblock_chi bkeep_ch bkeep_chi bown_ch bown_chi banswer_ch banswer_chi isSome_ch bcond_ch guardV_ch1 guardV_ch0 chF_true chF_false chF_not
attribute [local simp ↓] andF_some andF_chi andF_ch onF_some onF_none onF_chi onF_ch bthen_normal bthen_ret bthen_exit bthen_ch bthen_chi bblock_normal bblock_ret bblock_exit bblock_ch bblock_chi bkeep_some bkeep_ch bkeep_chi bown_normal bown_ret bown_ch bown_chi banswer_normal banswer_ret banswer_ch banswer_chi bcond_ch guardV_ch1 guardV_ch0 guardV_tup guardF_none guardF_some putF_some putF_none stepsF_nil stepsF_cons chF_true chF_false Brun_seq Brun_cond Brun_block Brun_region Brun_skip Brun_ret Brun_exit stepF_call stepF_callD stepF_move stepF_pick stepF_alloc stepF_allocV stepF_box stepF_boxV stepF_build stepF_buildSlice stepF_buildSliceV stepF_load stepF_store stepF_nilCheck stepF_bin stepF_eq stepF_un stepF_conv stepF_strId stepF_toStr stepF_toBytes stepF_fn stepF_mkSlice stepF_slice stepF_strSlice stepF_fieldAddr stepF_field stepF_idxAddr stepF_idxArr stepF_index stepF_strIndex stepF_extract stepF_len0 stepF_len1 stepF_min stepF_max stepF_append stepF_appendF stepF_mkMap stepF_mkIface stepF_lookup stepF_mapUpdate stepF_ext
set_option maxHeartbeats 1500000
theorem plain_ok (h : Heap) (l : List Y6) (c0 : Cap) (hs : l.length ≤ 4194304) : ∃ cap x, CapAt h.length cap 6 (rows6 (l.map plainY)) x ∧ Ccall tab 19 [.is (rows6 l) c0] h = some (.is (rows6 (l.map plainY)) cap, h ++ x) := by
  obtain ⟨cap, x, hc, lp⟩ := plain_loop h l c0 hs l.length 0 [] .nil [] (by omega) rfl ⟨rfl, rfl⟩
  simp only [List.drop_zero, List.nil_append] at hc lp
  refine ⟨cap, x, hc, ?_⟩
  rw [show rows6 [] = [] from rfl, List.append_nil] at lp
  push_cast at lp
  clear hs hc
  refine Ccall_over rfl rfl rfl rfl ?_
  repeat (any_goals first | simp (dsimp := false) (maxSteps := 4000000) (maxDischargeDepth := 8) (implicitDefEqProofs := false) [*, -Int.not_le, -Int.not_lt, amLt, f19c, f19m3, f19r0, f19r1, f19r2, f19r3, f19r4, f19r5, f19r6, f19r7, f19r8, f19l3_b] | with_reducible refine ch_both (fun _ => ?_) (fun _ => ?_) | with_reducible refine ite_both (fun _ => ?_) (fun _ => ?_) | intro _)
def toks6 (s : List UInt8) (l : List Tk) : List Y6 := l.map fun x => (x.1.1, x.1.2.1, x.1.2.2, ((spotOf s x.2).1 : Int), ((spotOf s x.2).2 : Int), (x.2 : Int))
theorem toks_rows (s : List UInt8) (l : List Tk) : tokRows s l = rows6 (toks6 s l) := by simp only [tokRows, rows6, toks6, List.map_map]; rfl
theorem scan_cases (s : List UInt8) (hs : s.length ≤ 4194304) : (∃ e l c k : Int, e ≠ 0 ∧ scanV s = .tup [.is [] .no, .agg [.int .i64 e, .int .i64 l, .int .i64 c, .int .i64 k]]) ∨
    (∃ a, s.length ≤ 65536 ∧ scanS s = .ok a ∧ scanV s = .tup [.is (rows6 (toks6 s a)) .no, .agg [.int .i64 0, .int .i64 0, .int .i64 0, .int .i64 0]]) := by
  unfold scanV
  by_cases hb : 65536 < s.length
  · rw [if_pos hb]
    exact .inl ⟨24, 0, 0, 0, by decide, rfl⟩
  · rw [if_neg hb]
    cases hS : scanS s with
    | ok l => exact .inr ⟨l, by omega, rfl, by rw [← toks_rows]⟩
    | error p =>
      obtain ⟨e, k⟩ := p
      have := scan_err _ _ _ _ _ hS (Nat.zero_le _) (by omega)
      exact .inl ⟨e, _, _, k, by omega, rfl⟩
theorem scan_rows_le {s : List UInt8} : ∀ {f at_ n : Nat} {l : List Tk}, at_ ≤ s.length → scanR s f at_ n = .ok l → l.length ≤ s.length - at_ + 1 := by
  intro f
  induction f with
  | zero => intro at_ n l _ h; cases h
  | succ f ih =>
    intro at_ n l hat h
    obtain ⟨hn1, hn2⟩ := next_le s hat
    rw [scan_succ] at h
    split at h
    · cases h
    · split at h
      · cases h; simp
      · cases hO : oneR (s.drop (nextR s at_)) with
        | error e => rw [hO] at h; cases h
        | ok p =>
          obtain ⟨x, m⟩ := p
          rw [hO] at h
          dsimp only at h
          obtain ⟨hm0, hm⟩ := one_len hO
          simp only [List.length_drop] at hm
          split at h
          · cases h
          · cases hR : scanR s f (nextR s at_ + m) (n + 1) with
            | error e => rw [hR] at h; cases h
            | ok l' =>
              rw [hR] at h
              cases h
              have := ih (by omega) hR
              simp only [List.length_cons]
              omega
theorem rows6_ok (l : List Y6) : ∀ r ∈ rows6 l, RowOK 6 r := by
  intro r hr
  obtain ⟨y, _, rfl⟩ := List.mem_map.1 hr
  exact ⟨rfl, rfl, rfl, rfl⟩
theorem rows6_sz (l : List Y6) : rowsz 6 (rows6 l) = true := by simp [rowsz, rows6, row6]
theorem apart_bad1 (h : Heap) (s t : List UInt8) (hs : s.length ≤ 1048576) (ht : t.length ≤ 1048576) (e l c k : Int) (he : e ≠ 0) (hv : scanV s = .tup [.is [] .no, .agg [.int .i64 e, .int .i64 l, .int .i64 c, .int .i64 k]]) : Ccall tab 7 [.str s, .str t] h = some (.bool true, h) := by
  have h1 := fun h => scan_ok h s (by omega)
  have h2 := fun h => scan_ok h t (by omega)
  simp only [hv] at h1
  rcases scan_cases t (by omega) with ⟨e', l', c', k', _, hw⟩ | ⟨b, _, _, hw⟩
  · simp only [hw] at h2
    refine Ccall_own rfl rfl rfl rfl ?_
    clear hs ht hv hw
    repeat (any_goals first | simp (dsimp := false) (maxSteps := 4000000) (maxDischargeDepth := 8) (implicitDefEqProofs := false) [*, -Int.not_le, -Int.not_lt, amLt, f7c, f7r0, f7r1, f7r2, f7r3, f7r4, f7r5, f7r6, f7r7, f7r8, f7r9, heads_ok] | with_reducible refine ch_both (fun _ => ?_) (fun _ => ?_) | with_reducible refine ite_both (fun _ => ?_) (fun _ => ?_) | intro _)
  · simp only [hw] at h2
    generalize rows6 (toks6 t b) = rb at *
    refine Ccall_own rfl rfl rfl rfl ?_
    clear hs ht hv hw
    repeat (any_goals first | simp (dsimp := false) (maxSteps := 4000000) (maxDischargeDepth := 8) (implicitDefEqProofs := false) [*, -Int.not_le, -Int.not_lt, amLt, f7c, f7r0, f7r1, f7r2, f7r3, f7r4, f7r5, f7r6, f7r7, f7r8, f7r9, heads_ok] | with_reducible refine ch_both (fun _ => ?_) (fun _ => ?_) | with_reducible refine ite_both (fun _ => ?_) (fun _ => ?_) | intro _)
theorem apart_bad2 (h : Heap) (s t : List UInt8) (hs : s.length ≤ 1048576) (ht : t.length ≤ 1048576) (a : List (List AV)) (ha : scanV s = .tup [.is a .no, .agg [.int .i64 0, .int .i64 0, .int .i64 0, .int .i64 0]]) (e l c k : Int) (he : e ≠ 0) (hv : scanV t = .tup [.is [] .no, .agg [.int .i64 e, .int .i64 l, .int .i64 c, .int .i64 k]]) : Ccall tab 7 [.str s, .str t] h = some (.bool true, h) := by
  have h1 := fun h => scan_ok h s (by omega)
  have h2 := fun h => scan_ok h t (by omega)
  simp only [ha] at h1
  simp only [hv] at h2
  refine Ccall_own rfl rfl rfl rfl ?_
  clear hs ht hv ha
  repeat (any_goals first | simp (dsimp := false) (maxSteps := 4000000) (maxDischargeDepth := 8) (implicitDefEqProofs := false) [*, -Int.not_le, -Int.not_lt, amLt, f7c, f7r0, f7r1, f7r2, f7r3, f7r4, f7r5, f7r6, f7r7, f7r8, f7r9, heads_ok] | with_reducible refine ch_both (fun _ => ?_) (fun _ => ?_) | with_reducible refine ite_both (fun _ => ?_) (fun _ => ?_) | intro _)
theorem apart_long (h : Heap) (s t : List UInt8) (hs : s.length ≤ 1048576) (ht : t.length ≤ 1048576) (a b : List (List AV)) (hal : a.length ≤ 4194304) (hbl : b.length ≤ 4194304) (ha : scanV s = .tup [.is a .no, .agg [.int .i64 0, .int .i64 0, .int .i64 0, .int .i64 0]]) (hb : scanV t = .tup [.is b .no, .agg [.int .i64 0, .int .i64 0, .int .i64 0, .int .i64 0]])
    (hlong : 60000 < s.length + t.length ∨ 16000 < a.length + b.length) : Ccall tab 7 [.str s, .str t] h = some (.bool true, h) := by
  have h1 := fun h => scan_ok h s (by omega)
  have h2 := fun h => scan_ok h t (by omega)
  simp only [ha] at h1
  simp only [hb] at h2
  have w1 : IntKind.i64.wrap ((s.length : Int) + t.length) = ((s.length + t.length : Nat) : Int) := by rw [IntWalk.i64_in _ (by omega)]; push_cast; rfl
  have w2 : IntKind.i64.wrap ((a.length : Int) + b.length) = ((a.length + b.length : Nat) : Int) := by rw [IntWalk.i64_in _ (by omega)]; push_cast; rfl
  refine Ccall_own rfl rfl rfl rfl ?_
  by_cases q : 60000 < s.length + t.length
  · have q' : 60000 < ((s.length + t.length : Nat) : Int) := by omega
    generalize s.length + t.length = n1 at *
    generalize a.length + b.length = n2 at *
    clear hs ht hal hbl ha hb hlong q
    repeat (any_goals first | simp (dsimp := false) (maxSteps := 4000000) (maxDischargeDepth := 8) (implicitDefEqProofs := false) [*, -Int.not_le, -Int.not_lt, amLt, f7c, f7r0, f7r1, f7r2, f7r3, f7r4, f7r5, f7r6, f7r7, f7r8, f7r9, heads_ok] | with_reducible refine ch_both (fun _ => ?_) (fun _ => ?_) | with_reducible refine ite_both (fun _ => ?_) (fun _ => ?_) | intro _)
  · have q' : ¬ 60000 < ((s.length + t.length : Nat) : Int) := by omega
    have q2 : 16000 < ((a.length + b.length : Nat) : Int) := by omega
    generalize s.length + t.length = n1 at *
    generalize a.length + b.length = n2 at *
    clear hs ht hal hbl ha hb hlong q
    repeat (any_goals first | simp (dsimp := false) (maxSteps := 4000000) (maxDischargeDepth := 8) (implicitDefEqProofs := false) [*, -Int.not_le, -Int.not_lt, amLt, f7c, f7r0, f7r1, f7r2, f7r3, f7r4, f7r5, f7r6, f7r7, f7r8, f7r9, heads_ok] | with_reducible refine ch_both (fun _ => ?_) (fun _ => ?_) | with_reducible refine ite_both (fun _ => ?_) (fun _ => ?_) | intro _)

end Go.Proofs.YtmpdpjkblcdfkaaDoor
