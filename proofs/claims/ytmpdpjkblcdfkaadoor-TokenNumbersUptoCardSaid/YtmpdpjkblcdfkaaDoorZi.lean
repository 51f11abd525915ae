/- Tokens without their spots. -/
import Derived.Test.YtmpdpjkblcdfkaaDoorZh
import Derived.Test.YtmpdpjkblcdfkaaDoorHd
import Derived.Test.YtmpdpjkblcdfkaaDoorAmW
namespace Go.Proofs.YtmpdpjkblcdfkaaDoor
open Go.AM
set_option maxRecDepth 20000
set_option maxHeartbeats 4000000
set_option linter.unusedSimpArgs false
set_option linter.unusedVariables false
attribute [local congr] andF_cg onF_cg bthen_cg bkeep_cg bcond_cg guardV_cg putF_cg guardF_cg ite_cg stepsF_cg
attribute [local simp] Brun_skip Brun_exit Brun_ret Brun_seq Brun_cond Brun_block Brun_region bthen_normal bthen_ret bthen_exit bblock_normal bblock_ret bblock_exit bkeep_some andF_some onF_some onF_none guardF_none guardF_some guardV_tup putF_some putF_none stepsF_nil stepsF_cons upd_apply ofL_cons ofL_nil bown_normal bown_ret banswer_normal banswer_ret aresults ares List.replicate stepF_call stepF_callD stepF_move stepF_pick stepF_alloc stepF_allocV stepF_box stepF_boxV stepF_build stepF_buildSlice stepF_buildSliceV stepF_load stepF_store stepF_nilCheck stepF_bin stepF_eq stepF_un stepF_conv stepF_strId strIdV_str strIdV_int stepF_toStr stepF_toBytes stepF_fn stepF_mkSlice stepF_slice stepF_strSlice stepF_fieldAddr stepF_field stepF_idxAddr stepF_idxArr stepF_index stepF_strIndex stepF_extract stepF_len0 stepF_len1 stepF_min stepF_max stepF_append stepF_appendF appF_none appF_row stepF_mkMap stepF_mkIface stepF_lookup stepF_mapUpdate stepF_ext aext_idx aext_count aext_same cellsF newF abin_add abin_sub abin_mul abin_quo abin_rem abin_eql abin_neq abin_lss abin_leq abin_gtr abin_geq abin_and abin_or abin_xor abin_shl abin_shr abin_seql abin_sneq aun_not aun_neg aeq_bool aeq_agg eqCells_nil eqCells_int eqCells_bool eqCells_str cellsOf_agg cellsOf_int cellsOf_bool cellsOf_str cellsOf_is cellsOf_ms cellsOf_fn cellsOf_nilp cellsOf_mp cellsOf_mm cellsOf_nilm cellsOf_nili cellsOf_ifc cellsOf_ip cget_one cget_agg ev_t ev_c fillp_nil fillp_cons isSc_int isSc_bool isSc_str isSc_is isSc_ms isSc_fn isSc_mm isSc_mp isSc_ip isSc_nilp isSc_nilm isSc_nili isSc_nilf isSc_ifc splice chunk strip strip.stripL imm imm.immL Areify_int Areify_bool Areify_str Areify_is Areify_nilp Areify_tup Areify_agg AreifyL andF_chi andF_ch onF_chi onF_ch bthen_ch bthen_chi bblock_ch bblock_chi bkeep_ch bkeep_chi bown_ch bown_chi banswer_ch banswer_chi isSome_ch bcond_ch guardV_ch1 guardV_ch0 chF_true chF_false chF_not
attribute [local simp ↓] andF_some andF_chi andF_ch onF_some onF_none onF_chi onF_ch bthen_normal bthen_ret bthen_exit bthen_ch bthen_chi bblock_normal bblock_ret bblock_exit bblock_ch bblock_chi bkeep_some bkeep_ch bkeep_chi bown_normal bown_ret bown_ch bown_chi banswer_normal banswer_ret banswer_ch banswer_chi bcond_ch guardV_ch1 guardV_ch0 guardV_tup guardF_none guardF_some putF_some putF_none stepsF_nil stepsF_cons chF_true chF_false Brun_seq Brun_cond Brun_block Brun_region Brun_skip Brun_ret Brun_exit stepF_call stepF_callD stepF_move stepF_pick stepF_alloc stepF_allocV stepF_box stepF_boxV stepF_build stepF_buildSlice stepF_buildSliceV stepF_load stepF_store stepF_nilCheck stepF_bin stepF_eq stepF_un stepF_conv stepF_strId stepF_toStr stepF_toBytes stepF_fn stepF_mkSlice stepF_slice stepF_strSlice stepF_fieldAddr stepF_field stepF_idxAddr stepF_idxArr stepF_index stepF_strIndex stepF_extract stepF_len0 stepF_len1 stepF_min stepF_max stepF_append stepF_appendF stepF_mkMap stepF_mkIface stepF_lookup stepF_mapUpdate stepF_ext
set_option maxHeartbeats 2000000
abbrev Y6 := Int × List UInt8 × Int × Int × Int × Int
def row6 (y : Y6) : List AV := [.int .i64 y.1, .str y.2.1, .int .i64 y.2.2.1, .int .i64 y.2.2.2.1, .int .i64 y.2.2.2.2.1, .int .i64 y.2.2.2.2.2]
def rows6 (l : List Y6) : List (List AV) := l.map row6
theorem rows6_len (l : List Y6) : (rows6 l).length = l.length := by simp [rows6]
def plainY (y : Y6) : Y6 := (y.1, y.2.1, y.2.2.1, 0, 0, 0)
theorem capAt_join {h : Heap} {cap : Cap} {sz : Nat} {rows : List (List AV)} {t : Heap} (hc : CapAt h.length cap sz rows t) : CapAt 0 cap sz rows (h ++ t) := by
  cases cap with
  | tok id s =>
    obtain ⟨h1, j, h2, h3⟩ := hc
    exact ⟨h1, id, rfl, by rw [h2, Nat.add_comm, app_get rfl]; exact h3⟩
  | _ => exact hc
theorem spendAt_join {h : Heap} {cap : Cap} {sz : Nat} {rows : List (List AV)} {t : Heap} (hc : CapAt h.length cap sz rows t) : spendAt 0 cap (h ++ t) = h ++ spendAt h.length cap t := by
  cases cap with
  | tok id s =>
    obtain ⟨h1, j, h2, h3⟩ := hc
    subst h2
    show (h ++ t).set (j + h.length - 0) .dead = h ++ t.set (j + h.length - h.length) .dead
    rw [Nat.sub_zero, Nat.add_sub_cancel, Nat.add_comm, app_set rfl]
  | _ => rfl
theorem plain_body (rows out : List (List AV)) (c0 cap : Cap) (i : Nat) (y : Y6) (t : Heap) (hs : rows.length ≤ 16777216) (hi : rows[i]? = some (row6 y)) (hil : i < rows.length) (hol : out.length ≤ 16777216) (hc : CapAt 0 cap 6 out t) :
    ∃ X, Brun tab 23 f19l3 (ofL [(0, .is rows c0), (3, .is out cap), (4, .int .i64 i)]) t =
      some (.normal, ofL [(0, .is rows c0), (3, .is (out ++ [row6 (plainY y)]) (.tok (t.length + 1) 6)), (4, .int .i64 (i + 1))], spendAt 0 cap t ++ [X, .tok]) := by
  refine ⟨.cells (row6 (plainY y)), ?_⟩
  have e3 : ¬ (rows.length : Int) ≤ i := by omega
  have hw := w64 i (by omega)
  have hr0 := room0 hc
  have hs0 := spend0 hc
  have hsl := spendAt_len 0 cap t
  have hroom : roomy (out.length + 1) 56 = true := roomy_small (by omega) (by decide)
  unfold row6 at hi
  unfold row6 plainY
  clear hs hil hol hc
  repeat (any_goals first | simp (dsimp := false) (maxSteps := 4000000) (maxDischargeDepth := 8) (implicitDefEqProofs := false) [*, -Int.not_le, -Int.not_lt, amLt, f19c, f19m3, f19r0, f19r1, f19r2, f19r3, f19r4, f19r5, f19r6, f19r7, f19r8, f19l3_b, app_get, app_get0, app_set, app_set0] | with_reducible refine ch_both (fun _ => ?_) (fun _ => ?_) | with_reducible refine ite_both (fun _ => ?_) (fun _ => ?_) | intro _)
theorem plain_loop (h : Heap) (l : List Y6) (c0 : Cap) (hs : l.length ≤ 16777216) : ∀ (m i : Nat) (out : List Y6) (cap : Cap) (t : Heap), i + m = l.length → out.length = i → CapAt h.length cap 6 (rows6 out) t →
    ∃ cap' t', CapAt h.length cap' 6 (rows6 (out ++ (l.drop i).map plainY)) t' ∧ Brun tab 23 (.loop f19l3) (ofL [(0, .is (rows6 l) c0), (3, .is (rows6 out) cap), (4, .int .i64 i)]) (h ++ t) =
      some (.exit 0, ofL [(0, .is (rows6 l) c0), (3, .is (rows6 (out ++ (l.drop i).map plainY)) cap'), (4, .int .i64 l.length), (9, .bool false)], h ++ t') := by
  intro m
  induction m with
  | zero =>
    intro i out cap t hi ho hc
    have hd : l.drop i = [] := List.drop_of_length_le (by omega)
    rw [hd, List.map_nil, List.append_nil]
    refine ⟨cap, t, hc, ?_⟩
    have e3 : (l.length : Int) = i := by omega
    have hl6 := rows6_len l
    rw [Brun_loop]
    clear hi ho hc hs hd
    repeat (any_goals first | simp (dsimp := false) (maxSteps := 4000000) (maxDischargeDepth := 8) (implicitDefEqProofs := false) [*, -Int.not_le, -Int.not_lt, amLt, f19c, f19m3, f19r0, f19r1, f19r2, f19r3, f19r4, f19r5, f19r6, f19r7, f19r8, f19l3_b] | with_reducible refine ch_both (fun _ => ?_) (fun _ => ?_) | with_reducible refine ite_both (fun _ => ?_) (fun _ => ?_) | intro _)
  | succ m ih =>
    intro i out cap t hi ho hc
    have hlt : i < l.length := by omega
    have hd : l.drop i = l[i] :: l.drop (i + 1) := List.drop_eq_getElem_cons hlt
    have hg : (rows6 l)[i]? = some (row6 l[i]) := by simp [rows6, hlt]
    rw [hd]
    generalize l[i] = y at *
    obtain ⟨X, hb⟩ := plain_body (rows6 l) (rows6 out) c0 cap i y (h ++ t) (by rw [rows6_len]; exact hs) hg (by rw [rows6_len]; exact hlt) (by rw [rows6_len]; omega) (capAt_join hc)
    rw [spendAt_join hc, List.append_assoc] at hb
    have hro : rows6 out ++ [row6 (plainY y)] = rows6 (out ++ [plainY y]) := by simp [rows6]
    rw [hro] at hb
    have hc2 : CapAt h.length (.tok ((h ++ t).length + 1) 6) 6 (rows6 (out ++ [plainY y])) (spendAt h.length cap t ++ [X, .tok]) := by
      have := CapAt.new (k := h.length) (sz := 6) (rows := rows6 (out ++ [plainY y])) (s := spendAt h.length cap t) (r := [X, .tok]) (n := t.length) (spendAt_len _ _ _) 1 rfl
      rw [show (h ++ t).length + 1 = t.length + 1 + h.length by rw [List.length_append]; omega]
      exact this
    obtain ⟨cap', t', hc3, ih2⟩ := ih (i + 1) (out ++ [plainY y]) _ _ (by omega) (by simp; omega) hc2
    refine ⟨cap', t', ?_, ?_⟩
    · rw [List.append_assoc] at hc3; exact hc3
    · rw [List.append_assoc] at ih2
      push_cast at ih2
      rw [Brun_loop, hb, bthen_normal]
      exact ih2
theorem same_loop (l : List Y6) (c1 c2 : Cap) (hs : l.length ≤ 16777216) (h : Heap) : ∀ (m i : Nat), i + m = l.length →
    Brun tab 26 (.loop f20l4) (ofL [(0, .is (rows6 l) c1), (1, .is (rows6 l) c2), (5, .int .i64 i)]) h = some (.exit 0, ofL [(0, .is (rows6 l) c1), (1, .is (rows6 l) c2), (5, .int .i64 l.length), (14, .bool false)], h) := by
  intro m
  induction m with
  | zero =>
    intro i hi
    have e3 : (l.length : Int) = i := by omega
    have hl6 := rows6_len l
    rw [Brun_loop]
    clear hi hs
    repeat (any_goals first | simp (dsimp := false) (maxSteps := 4000000) (maxDischargeDepth := 8) (implicitDefEqProofs := false) [*, -Int.not_le, -Int.not_lt, amLt, f20c, f20m4, f20q5, f20r0, f20r1, f20r2, f20r3, f20r4, f20r6, f20r7, f20r8, f20l4_b, f20r5_u, f20r5_w] | with_reducible refine ch_both (fun _ => ?_) (fun _ => ?_) | with_reducible refine ite_both (fun _ => ?_) (fun _ => ?_) | intro _)
  | succ m ih =>
    intro i hi
    have hlt : i < l.length := by omega
    have hg : (rows6 l)[i]? = some (row6 l[i]) := by simp [rows6, hlt]
    generalize l[i] = y at *
    unfold row6 at hg
    have hl6 := rows6_len l
    have e3 : ¬ (l.length : Int) ≤ i := by omega
    have hw := w64 i (by omega)
    have ih2 := ih (i + 1) (by omega)
    push_cast at ih2
    rw [Brun_loop, ← ih2]
    clear hi hs hlt ih ih2
    repeat (any_goals first | simp (dsimp := false) (maxSteps := 4000000) (maxDischargeDepth := 8) (implicitDefEqProofs := false) [*, -Int.not_le, -Int.not_lt, amLt, f20c, f20m4, f20q5, f20r0, f20r1, f20r2, f20r3, f20r4, f20r6, f20r7, f20r8, f20l4_b, f20r5_u, f20r5_w] | with_reducible refine ch_both (fun _ => ?_) (fun _ => ?_) | with_reducible refine ite_both (fun _ => ?_) (fun _ => ?_) | intro _)
theorem same_ok (h : Heap) (l : List Y6) (c1 c2 : Cap) (hs : l.length ≤ 16777216) : Ccall tab 20 [.is (rows6 l) c1, .is (rows6 l) c2] h = some (.bool true, h) := by
  have lp := same_loop l .no .no hs [] l.length 0 (by omega)
  have hl6 := rows6_len l
  refine Ccall_own rfl rfl rfl rfl ?_
  push_cast at lp
  clear hs
  repeat (any_goals first | simp (dsimp := false) (maxSteps := 4000000) (maxDischargeDepth := 8) (implicitDefEqProofs := false) [*, -Int.not_le, -Int.not_lt, amLt, f20c, f20m4, f20q5, f20r0, f20r1, f20r2, f20r3, f20r4, f20r6, f20r7, f20r8, f20l4_b, f20r5_u, f20r5_w] | with_reducible refine ch_both (fun _ => ?_) (fun _ => ?_) | with_reducible refine ite_both (fun _ => ?_) (fun _ => ?_) | intro _)
theorem plain_ok (h : Heap) (l : List Y6) (c0 : Cap) (hs : l.length ≤ 16777216) : ∃ cap x, CapAt h.length cap 6 (rows6 (l.map plainY)) x ∧ Ccall tab 19 [.is (rows6 l) c0] h = some (.is (rows6 (l.map plainY)) cap, h ++ x) := by
  obtain ⟨cap, x, hc, lp⟩ := plain_loop h l c0 hs l.length 0 [] .nil [] (by omega) rfl ⟨rfl, rfl⟩
  simp only [List.drop_zero, List.nil_append] at hc lp
  refine ⟨cap, x, hc, ?_⟩
  rw [show rows6 [] = [] from rfl, List.append_nil] at lp
  push_cast at lp
  clear hs hc
  refine Ccall_over rfl rfl rfl rfl ?_
  repeat (any_goals first | simp (dsimp := false) (maxSteps := 4000000) (maxDischargeDepth := 8) (implicitDefEqProofs := false) [*, -Int.not_le, -Int.not_lt, amLt, f19c, f19m3, f19r0, f19r1, f19r2, f19r3, f19r4, f19r5, f19r6, f19r7, f19r8, f19l3_b] | with_reducible refine ch_both (fun _ => ?_) (fun _ => ?_) | with_reducible refine ite_both (fun _ => ?_) (fun _ => ?_) | intro _)
def toks6 (s : List UInt8) (l : List Tk) : List Y6 := l.map fun x => (x.1.1, x.1.2.1, x.1.2.2, ((spotOf s x.2).1 : Int), ((spotOf s x.2).2 : Int), (x.2 : Int))
theorem toks_rows (s : List UInt8) (l : List Tk) : tokRows s l = rows6 (toks6 s l) := by simp only [tokRows, rows6, toks6, List.map_map]; rfl
theorem scan_cases (s : List UInt8) (hs : s.length ≤ 16777216) : (∃ e l c k : Int, e ≠ 0 ∧ scanV s = .tup [.is [] .no, .agg [.int .i64 e, .int .i64 l, .int .i64 c, .int .i64 k]]) ∨
    (∃ a, s.length ≤ 65536 ∧ scanS s = .ok a ∧ scanV s = .tup [.is (rows6 (toks6 s a)) .no, .agg [.int .i64 0, .int .i64 0, .int .i64 0, .int .i64 0]]) := by
  unfold scanV
  by_cases hb : 65536 < s.length
  · rw [if_pos hb]
    exact .inl ⟨24, 0, 0, 0, by decide, rfl⟩
  · rw [if_neg hb]
    cases hS : scanS s with
    | ok l => exact .inr ⟨l, by omega, rfl, by rw [← toks_rows]⟩
    | error p =>
      obtain ⟨e, k⟩ := p
      have := scan_err _ _ _ _ _ hS (Nat.zero_le _) (by omega)
      exact .inl ⟨e, _, _, k, by omega, rfl⟩
theorem scan_rows_le {s : List UInt8} : ∀ {f at_ n : Nat} {l : List Tk}, at_ ≤ s.length → scanR s f at_ n = .ok l → l.length ≤ s.length - at_ + 1 := by
  intro f
  induction f with
  | zero => intro at_ n l _ h; cases h
  | succ f ih =>
    intro at_ n l hat h
    obtain ⟨hn1, hn2⟩ := next_le s hat
    rw [scan_succ] at h
    split at h
    · cases h
    · split at h
      · cases h; simp
      · cases hO : oneR (s.drop (nextR s at_)) with
        | error e => rw [hO] at h; cases h
        | ok p =>
          obtain ⟨x, m⟩ := p
          rw [hO] at h
          dsimp only at h
          obtain ⟨hm0, hm⟩ := one_len hO
          simp only [List.length_drop] at hm
          split at h
          · cases h
          · cases hR : scanR s f (nextR s at_ + m) (n + 1) with
            | error e => rw [hR] at h; cases h
            | ok l' =>
              rw [hR] at h
              cases h
              have := ih (by omega) hR
              simp only [List.length_cons]
              omega
theorem rows6_ok (l : List Y6) : ∀ r ∈ rows6 l, RowOK 6 r := by
  intro r hr
  obtain ⟨y, _, rfl⟩ := List.mem_map.1 hr
  exact ⟨rfl, rfl, rfl, rfl⟩
theorem rows6_sz (l : List Y6) : rowsz 6 (rows6 l) = true := by simp [rowsz, rows6, row6]
theorem apart_bad1 (h : Heap) (s t : List UInt8) (hs : s.length ≤ 1048576) (ht : t.length ≤ 1048576) (e l c k : Int) (he : e ≠ 0) (hv : scanV s = .tup [.is [] .no, .agg [.int .i64 e, .int .i64 l, .int .i64 c, .int .i64 k]]) : Ccall tab 7 [.str s, .str t] h = some (.bool true, h) := by
  have h1 := fun h => scan_ok h s (by omega)
  have h2 := fun h => scan_ok h t (by omega)
  simp only [hv] at h1
  rcases scan_cases t (by omega) with ⟨e', l', c', k', _, hw⟩ | ⟨b, _, _, hw⟩
  · simp only [hw] at h2
    refine Ccall_own rfl rfl rfl rfl ?_
    clear hs ht hv hw
    repeat (any_goals first | simp (dsimp := false) (maxSteps := 4000000) (maxDischargeDepth := 8) (implicitDefEqProofs := false) [*, -Int.not_le, -Int.not_lt, amLt, f7c, f7r0, f7r1, f7r2, f7r3, f7r4, f7r5, f7r6, f7r7, f7r8, f7r9, heads_ok] | with_reducible refine ch_both (fun _ => ?_) (fun _ => ?_) | with_reducible refine ite_both (fun _ => ?_) (fun _ => ?_) | intro _)
  · simp only [hw] at h2
    generalize rows6 (toks6 t b) = rb at *
    refine Ccall_own rfl rfl rfl rfl ?_
    clear hs ht hv hw
    repeat (any_goals first | simp (dsimp := false) (maxSteps := 4000000) (maxDischargeDepth := 8) (implicitDefEqProofs := false) [*, -Int.not_le, -Int.not_lt, amLt, f7c, f7r0, f7r1, f7r2, f7r3, f7r4, f7r5, f7r6, f7r7, f7r8, f7r9, heads_ok] | with_reducible refine ch_both (fun _ => ?_) (fun _ => ?_) | with_reducible refine ite_both (fun _ => ?_) (fun _ => ?_) | intro _)
theorem apart_bad2 (h : Heap) (s t : List UInt8) (hs : s.length ≤ 1048576) (ht : t.length ≤ 1048576) (a : List (List AV)) (ha : scanV s = .tup [.is a .no, .agg [.int .i64 0, .int .i64 0, .int .i64 0, .int .i64 0]]) (e l c k : Int) (he : e ≠ 0) (hv : scanV t = .tup [.is [] .no, .agg [.int .i64 e, .int .i64 l, .int .i64 c, .int .i64 k]]) : Ccall tab 7 [.str s, .str t] h = some (.bool true, h) := by
  have h1 := fun h => scan_ok h s (by omega)
  have h2 := fun h => scan_ok h t (by omega)
  simp only [ha] at h1
  simp only [hv] at h2
  refine Ccall_own rfl rfl rfl rfl ?_
  clear hs ht hv ha
  repeat (any_goals first | simp (dsimp := false) (maxSteps := 4000000) (maxDischargeDepth := 8) (implicitDefEqProofs := false) [*, -Int.not_le, -Int.not_lt, amLt, f7c, f7r0, f7r1, f7r2, f7r3, f7r4, f7r5, f7r6, f7r7, f7r8, f7r9, heads_ok] | with_reducible refine ch_both (fun _ => ?_) (fun _ => ?_) | with_reducible refine ite_both (fun _ => ?_) (fun _ => ?_) | intro _)
theorem apart_long (h : Heap) (s t : List UInt8) (hs : s.length ≤ 1048576) (ht : t.length ≤ 1048576) (a b : List (List AV)) (hal : a.length ≤ 16777216) (hbl : b.length ≤ 16777216) (ha : scanV s = .tup [.is a .no, .agg [.int .i64 0, .int .i64 0, .int .i64 0, .int .i64 0]]) (hb : scanV t = .tup [.is b .no, .agg [.int .i64 0, .int .i64 0, .int .i64 0, .int .i64 0]])
    (hlong : 60000 < s.length + t.length ∨ 16000 < a.length + b.length) : Ccall tab 7 [.str s, .str t] h = some (.bool true, h) := by
  have h1 := fun h => scan_ok h s (by omega)
  have h2 := fun h => scan_ok h t (by omega)
  simp only [ha] at h1
  simp only [hb] at h2
  have w1 : IntKind.i64.wrap ((s.length : Int) + t.length) = ((s.length + t.length : Nat) : Int) := by rw [IntWalk.i64_in _ (by omega)]; push_cast; rfl
  have w2 : IntKind.i64.wrap ((a.length : Int) + b.length) = ((a.length + b.length : Nat) : Int) := by rw [IntWalk.i64_in _ (by omega)]; push_cast; rfl
  refine Ccall_own rfl rfl rfl rfl ?_
  by_cases q : 60000 < s.length + t.length
  · have q' : 60000 < ((s.length + t.length : Nat) : Int) := by omega
    generalize s.length + t.length = n1 at *
    generalize a.length + b.length = n2 at *
    clear hs ht hal hbl ha hb hlong q
    repeat (any_goals first | simp (dsimp := false) (maxSteps := 4000000) (maxDischargeDepth := 8) (implicitDefEqProofs := false) [*, -Int.not_le, -Int.not_lt, amLt, f7c, f7r0, f7r1, f7r2, f7r3, f7r4, f7r5, f7r6, f7r7, f7r8, f7r9, heads_ok] | with_reducible refine ch_both (fun _ => ?_) (fun _ => ?_) | with_reducible refine ite_both (fun _ => ?_) (fun _ => ?_) | intro _)
  · have q' : ¬ 60000 < ((s.length + t.length : Nat) : Int) := by omega
    have q2 : 16000 < ((a.length + b.length : Nat) : Int) := by omega
    generalize s.length + t.length = n1 at *
    generalize a.length + b.length = n2 at *
    clear hs ht hal hbl ha hb hlong q
    repeat (any_goals first | simp (dsimp := false) (maxSteps := 4000000) (maxDischargeDepth := 8) (implicitDefEqProofs := false) [*, -Int.not_le, -Int.not_lt, amLt, f7c, f7r0, f7r1, f7r2, f7r3, f7r4, f7r5, f7r6, f7r7, f7r8, f7r9, heads_ok] | with_reducible refine ch_both (fun _ => ?_) (fun _ => ?_) | with_reducible refine ite_both (fun _ => ?_) (fun _ => ?_) | intro _)

end Go.Proofs.YtmpdpjkblcdfkaaDoor
