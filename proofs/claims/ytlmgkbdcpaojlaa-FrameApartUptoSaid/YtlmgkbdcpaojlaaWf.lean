/- Chapter 23: FrameApart answers true over whatever function comes in. -/
import Derived.Test.YtlmgkbdcpaojlaaWe
namespace Go.Proofs.Ytlmgkbdcpaojlaa
open Go.AM
set_option maxRecDepth 10000
attribute [local congr] RunP_congr
attribute [local simp] stepsF wanted put thenP
  stepF_call stepF_move stepF_pick stepF_alloc stepF_box stepF_build stepF_buildSlice stepF_load stepF_store stepF_nilCheck stepF_bin stepF_eq stepF_un stepF_conv stepF_strId stepF_toStr stepF_toBytes stepF_fn stepF_mkSlice stepF_slice stepF_strSlice stepF_fieldAddr stepF_field stepF_idxAddr stepF_idxArr stepF_strIndex stepF_extract stepF_len0 stepF_len1 stepF_min stepF_max stepF_append
  cellsF newF abin_add abin_sub abin_mul abin_quo abin_rem abin_eql abin_neq abin_lss abin_leq abin_gtr abin_geq abin_and abin_or abin_xor abin_shl abin_shr abin_seql abin_sneq aun_not aun_neg
  cellsOf_agg cellsOf_int cellsOf_bool cellsOf_str cellsOf_nils cellsOf_is cellsOf_ms cellsOf_fn cellsOf_nilp cellsOf_mp cget_one cget_agg ev_t ev_c fillp_nil fillp_cons isSc_int isSc_bool isSc_str isSc_nils isSc_is isSc_ms isSc_fn
  upd_apply ofL_cons ofL_nil nextP blockP answerP aresults ares splice List.replicate Areify_int Areify_bool Areify_str Areify_nils Areify_is Areify_tup Areify_agg AreifyL
theorem pairs_rows {B : Nat} : ∀ (rows : List (List AV)), (∀ row ∈ rows, (Sh.st [.int .i64, .int .i64]).Row B row) → ∃ SL, rows = rows2 SL := by
  intro rows
  induction rows with
  | nil => intro _; exact ⟨[], rfl⟩
  | cons r t ih =>
    intro h
    obtain ⟨SL, rfl⟩ := ih fun row hr => h row (by simp [hr])
    have := h r (by simp)
    simp only [Sh.Row, RowL] at this
    obtain ⟨a, b, rfl, ⟨n, _, rfl⟩, c, d, rfl, ⟨m, _, rfl⟩, rfl⟩ := this
    exact ⟨(n, m) :: SL, rfl⟩
/-- What a function of the program is, as the law is handed it. -/
theorem func_args {B : Nat} {xs : List AV} (h : ArgsL B f4s xs) : ∃ (nm : List UInt8) (pa te : Int) (gi : Bool) (sl co : AV) (SL : List (Int × Int)), xs = [.agg [.str nm, .int .i64 pa, .int .i64 te, .bool gi, sl, co]] ∧
    (sl = .is 2 (rows2 SL) false ∨ (SL = [] ∧ sl = .nils)) ∧ imm.immL xs = true := by
  unfold f4s at h
  simp only [ArgsL, Sh.Arg] at h
  obtain ⟨x, r, rfl, ⟨row, rfl, hrow⟩, rfl⟩ := h
  rw [Sh.Row] at hrow
  rw [RowL] at hrow
  obtain ⟨a1, r1, rfl, h1, hrow⟩ := hrow
  rw [RowL] at hrow
  obtain ⟨a2, r2, rfl, h2, hrow⟩ := hrow
  rw [RowL] at hrow
  obtain ⟨a3, r3, rfl, h3, hrow⟩ := hrow
  rw [RowL] at hrow
  obtain ⟨a4, r4, rfl, h4, hrow⟩ := hrow
  rw [RowL] at hrow
  obtain ⟨a5, r5, rfl, h5, hrow⟩ := hrow
  rw [RowL] at hrow
  obtain ⟨a6, r6, rfl, h6, hrow⟩ := hrow
  rw [RowL] at hrow
  subst hrow
  simp only [Sh.Row] at h1 h2 h3 h4
  rw [Sh.Row.eq_def] at h5 h6
  dsimp only at h5 h6
  obtain ⟨nm, _, rfl⟩ := h1
  obtain ⟨pa, _, rfl⟩ := h2
  obtain ⟨te, _, rfl⟩ := h3
  obtain ⟨gi, rfl⟩ := h4
  have hco : ∃ co, a6 = [co] ∧ imm co = true := by
    rcases h6 with rfl | ⟨rows, rfl, _, _⟩
    · exact ⟨_, rfl, rfl⟩
    · exact ⟨_, rfl, rfl⟩
  obtain ⟨co, rfl, hco⟩ := hco
  rcases h5 with rfl | ⟨rows, rfl, _, hr⟩
  · exact ⟨nm, pa, te, gi, .nils, co, [], rfl, .inr ⟨rfl, rfl⟩, by simp [imm, imm.immL, hco]⟩
  · obtain ⟨SL, rfl⟩ := pairs_rows rows hr
    exact ⟨nm, pa, te, gi, _, co, SL, rfl, .inl rfl, by simp [imm, imm.immL, hco]⟩
theorem same0 (h : Heap) : Acall tab 9 [.agg [.nils, .int .i64 0, .int .i64 0, .int .i64 0], .agg [.nils, .int .i64 0, .int .i64 0, .int .i64 0]] h = some (.bool true, h, []) := by
  refine Acall_iff.2 ⟨100, ?_⟩
  kernel_rfl
theorem apart_law : ∀ xs, ArgsL 1048576 f4s xs → ∃ h' w, Acall tab 4 xs [] = some (.bool true, h', w) := by
  intro xs hxs
  obtain ⟨nm, pa, te, gi, sl, co, SL, rfl, hsl, himm⟩ := func_args hxs
  refine ⟨[], [], Acall_own rfl rfl rfl himm (RunP_seq (RunP_ops ?_))⟩
  simp [f4r0]
  have hof : ∀ h, Acall tab 7 [.agg [.str nm, .int .i64 pa, .int .i64 te, .bool gi, sl, co]] h = some (ofAns SL te, h, []) := fun h => of_ok h _ _ co sl pa te SL hsl himm
  have hA : ofAns SL te = ofBad ∨ ∃ l m, ofGo SL 0 = some (l, m) ∧ SL.length ≤ 256 ∧ (0 ≤ te ∧ te ≤ 10) ∧ sizeOf1 m te ≤ 65536 ∧ ofAns SL te = .tup [.agg [slots1 l, .int .i64 (saveOf m), .int .i64 (backOf m te), .int .i64 (sizeOf1 m te)], .int .i64 0] := by
    unfold ofAns
    split
    · exact .inl rfl
    · rename_i q
      cases hg : ofGo SL 0 with
      | none => exact .inl rfl
      | some y =>
        obtain ⟨l, m⟩ := y
        dsimp only
        split
        · exact .inl rfl
        · exact .inr ⟨l, m, rfl, by omega, by omega, by omega, rfl⟩
  rcases hA with hA | ⟨l, m, hn, hlen, hte, hsz, hA⟩
  · rw [hA] at hof
    refine RunP_seq (RunP_ops ?_)
    simp [f4r1, hof, ofBad]
    refine RunP_seq (RunP_seq (RunP_ops ?_))
    simp [f4r2]
    refine RunP_cond (x := true) (by simp) (fun _ => ?_) (fun hx => by cases hx)
    refine RunP_seq (RunP_ops ?_)
    simp [f4r3, same0, heads_ok]
    refine RunP_ret ?_
    simp
  · rw [hA] at hof
    have hs1 : isSc (slots1 l) = true := by cases l <;> rfl
    refine RunP_seq (RunP_ops ?_)
    simp [f4r1, hof, hs1]
    refine RunP_seq (RunP_seq (RunP_ops ?_))
    simp [f4r2]
    refine RunP_cond (x := false) (by simp) (fun hx => by cases hx) (fun _ => ?_)
    refine RunP_skip ?_
    simp
    have hll : l.length = SL.length := ofGo_length hn
    obtain ⟨b1, b2, b3, b4⟩ := ofGo_bound hn hlen
    obtain ⟨s1, s2, s3⟩ := upI_spec m 4 b1 (by omega) (by omega)
    have hsv : saveOf m = upI m 4 := rfl
    have w1 : IntKind.i64.wrap (4 * te) = 4 * te := wrap64 _ (by omega) (by omega)
    have w2 : IntKind.i64.wrap (saveOf m + 4 * te) = saveOf m + 4 * te := wrap64 _ (by omega) (by omega)
    have hbk : backOf m te = upI (saveOf m + 4 * te) 4 := by unfold backOf; rw [w1, w2]
    obtain ⟨k1, k2, k3⟩ := upI_spec (saveOf m + 4 * te) 4 (by omega) (by omega) (by omega)
    rw [← hbk] at k1 k2 k3
    have w3 : IntKind.i64.wrap (backOf m te + 4) = backOf m te + 4 := wrap64 _ (by omega) (by omega)
    have hszz : sizeOf1 m te = upI (backOf m te + 4) 8 := by unfold sizeOf1; rw [w3]
    obtain ⟨z1, z2, z3⟩ := upI_spec (backOf m te + 4) 8 (by omega) (by omega) (by omega)
    rw [← hszz] at z1 z2 z3
    generalize hSV : saveOf m = sv at *
    generalize hBK : backOf m te = bk at *
    generalize hSZ : sizeOf1 m te = sz at *
    have t8 : sz.tmod 8 = 0 := by rw [Int.tmod_eq_emod_of_nonneg (by omega)]; exact z3
    have t4 : sv.tmod 4 = 0 := by rw [Int.tmod_eq_emod_of_nonneg (by omega)]; omega
    have c1 : ¬ 65536 < sz := by omega
    refine RunP_seq (RunP_seq (RunP_told [.mp 0 0, .mp 1 0, .bool false] [.cells [.str nm, .int .i64 pa, .int .i64 te, .bool gi, sl, co], .cells [slots1 l, .int .i64 sv, .int .i64 bk, .int .i64 sz]] ?_ ?_))
    · cases l with
      | nil =>
        have hSL : SL = [] := List.eq_nil_of_length_eq_zero (by simpa using hll.symm)
        subst hSL
        rcases hsl with rfl | ⟨_, rfl⟩ <;> simp [f4r4, slots1, rows2, t8, c1]
      | cons x r =>
        rcases hsl with rfl | ⟨rfl, rfl⟩
        · simp [f4r4, slots1, rows2, rows1, t8, c1, ← hll]
        · simp at hll
    simp
    refine RunP_cond (x := false) (by simp) (fun hx => by cases hx) (fun _ => ?_)
    refine RunP_skip ?_
    simp
    refine RunP_seq (RunP_ops ?_)
    simp [f4r6]
    have w4 : IntKind.i64.wrap (te + 4) = te + 4 := wrap64 _ (by omega) (by omega)
    refine RunP_seq (RunP_ops ?_)
    simp [f4r7, w4]
    refine RunP_seq (RunP_seq (RunP_ops ?_))
    simp [f4r8]
    refine RunP_block (apart_loop (.str nm) (.int .i64 pa) (.bool gi) co sl te sv bk sz SL l m hn hsl hlen hte [] _ ?_)
    simp
    have w5 : IntKind.i64.wrap (sv + 4 * te) = sv + 4 * te := wrap64 _ (by omega) (by omega)
    have w6 : IntKind.i64.wrap (bk + 4) = bk + 4 := wrap64 _ (by omega) (by omega)
    have w7 : IntKind.i64.wrap (4 * (te + 4 + wordsOf SL)) = 4 * (te + 4 + wordsOf SL) := wrap64 _ (by omega) (by omega)
    have d1 : m ≤ sv := by omega
    have d2 : sv + 4 * te ≤ bk := by omega
    have d3 : bk + 4 ≤ sz := by omega
    have d4 : sz ≤ 4 * (te + 4 + wordsOf SL) := by omega
    refine RunP_seq (RunP_ops ?_)
    simp [f4r15, w1, w5, w6, w7, t4, d1, d2, d3, d4, heads_ok]
    refine RunP_ret ?_
    simp
end Go.Proofs.Ytlmgkbdcpaojlaa
