/- Chapter 23: FrameApart: its loop over the slots. -/
import Derived.Test.YtlmgkbdcpaojlaaWd
namespace Go.Proofs.Ytlmgkbdcpaojlaa
open Go.AM
set_option maxRecDepth 10000
attribute [local congr] RunP_congr
attribute [local simp] stepsF wanted put thenP
  stepF_call stepF_move stepF_pick stepF_alloc stepF_box stepF_build stepF_buildSlice stepF_load stepF_store stepF_nilCheck stepF_bin stepF_eq stepF_un stepF_conv stepF_strId stepF_toStr stepF_toBytes stepF_fn stepF_mkSlice stepF_slice stepF_strSlice stepF_fieldAddr stepF_field stepF_idxAddr stepF_idxArr stepF_strIndex stepF_extract stepF_len0 stepF_len1 stepF_min stepF_max stepF_append
  cellsF newF abin_add abin_sub abin_mul abin_quo abin_rem abin_eql abin_neq abin_lss abin_leq abin_gtr abin_geq abin_and abin_or abin_xor abin_shl abin_shr abin_seql abin_sneq aun_not aun_neg
  cellsOf_agg cellsOf_int cellsOf_bool cellsOf_str cellsOf_nils cellsOf_is cellsOf_ms cellsOf_fn cellsOf_nilp cellsOf_mp cget_one cget_agg ev_t ev_c fillp_nil fillp_cons isSc_int isSc_bool isSc_str isSc_nils isSc_is isSc_ms isSc_fn
  upd_apply ofL_cons ofL_nil nextP blockP answerP aresults ares splice List.replicate Areify_int Areify_bool Areify_str Areify_nils Areify_is Areify_tup Areify_agg AreifyL
theorem ofGo_take : ∀ {L : List (Int × Int)} {n : Int} {l : List Int} {m : Int}, ofGo L n = some (l, m) → ∀ i, ∃ k, ofGo (L.take i) n = some (l.take i, k) := by
  intro L
  induction L with
  | nil => intro n l m h i; simp [ofGo] at h; simp [ofGo, h.1]
  | cons p r ih =>
    obtain ⟨s, a⟩ := p
    intro n l m h i
    simp only [ofGo] at h
    split at h
    · rename_i hf
      simp only [Option.map_eq_some_iff] at h
      obtain ⟨⟨y1, y2⟩, hy, hq⟩ := h
      cases hq
      cases i with
      | zero => exact ⟨n, rfl⟩
      | succ i =>
        obtain ⟨k, hk⟩ := ih hy i
        refine ⟨k, ?_⟩
        simp only [List.take_succ_cons, ofGo, hf, if_true, hk, Option.map_some]
    · cases h
/-- One slot on. -/
theorem ofGo_step {SL : List (Int × Int)} {l : List Int} {m : Int} (h : ofGo SL 0 = some (l, m)) (hlen : SL.length ≤ 256) {i : Nat} (hi : i < SL.length) {n : Int} (hn : ofGo (SL.take i) 0 = some (l.take i, n)) :
    fitsS SL[i].1 SL[i].2 = true ∧ l[i]? = some (upI n SL[i].2) ∧ ofGo (SL.take (i + 1)) 0 = some (l.take (i + 1), upI n SL[i].2 + SL[i].1) ∧ 0 ≤ n ∧ n ≤ 1000000000 := by
  obtain ⟨k, hk⟩ := ofGo_take h (i + 1)
  have hk0 := hk
  have hll : l.length = SL.length := ofGo_length h
  have hb := ofGo_bound hn (by rw [List.length_take]; omega)
  have hti : (SL.take i).length ≤ 256 := by rw [List.length_take]; omega
  rcases hsa : SL[i] with ⟨s, a⟩
  rw [List.take_succ_eq_append_getElem hi, hsa, ofGo_snoc, hn] at hk
  simp only at hk
  split at hk
  · rename_i hf
    simp only [Option.some.injEq, Prod.mk.injEq] at hk
    obtain ⟨h1, h2⟩ := hk
    obtain ⟨f1, f2, f3⟩ := fits_inv hf
    obtain ⟨u1, u2, u3⟩ := upI_spec n a hb.1 (by omega) (by omega)
    rw [wrap64 _ (by omega) (by omega)] at h2
    refine ⟨hf, ?_, by rw [hk0, ← h2], hb.1, by omega⟩
    have : (l.take (i + 1))[i]? = some (upI n a) := by
      rw [← h1, List.getElem?_append_right (by rw [List.length_take]; omega), List.length_take]
      simp [show min i l.length = i by omega]
    rwa [List.getElem?_take_of_lt (by omega)] at this
  · cases hk
theorem apart_loop (nm pa gi co sl : AV) (te sv bk sz : Int) (SL : List (Int × Int)) (l : List Int) (m : Int) (hn : ofGo SL 0 = some (l, m)) (hsl : sl = .is 2 (rows2 SL) false ∨ (SL = [] ∧ sl = .nils)) (hlen : SL.length ≤ 256) (hte : 0 ≤ te ∧ te ≤ 10) (H : Heap) (K : Ex → Env → Heap → Prop)
    (hgood : K (.exit 0) (ofL [(1, .mp 0 0), (3, .mp 1 0), (5, .int .i64 m), (6, .int .i64 (te + 4 + wordsOf SL)), (7, .int .i64 SL.length), (50, .bool false)]) (.cells [nm, pa, .int .i64 te, gi, sl, co] :: .cells [slots1 l, .int .i64 sv, .int .i64 bk, .int .i64 sz] :: H)) :
    RunP tab 145 (.loop f4l9) (ofL [(1, .mp 0 0), (3, .mp 1 0), (5, .int .i64 0), (6, .int .i64 (te + 4)), (7, .int .i64 0)]) (.cells [nm, pa, .int .i64 te, gi, sl, co] :: .cells [slots1 l, .int .i64 sv, .int .i64 bk, .int .i64 sz] :: H) K := by
  have hll : l.length = SL.length := ofGo_length hn
  refine RunP_loop (ι := Nat) (fun i e h => i ≤ SL.length ∧ ∃ n, ofGo (SL.take i) 0 = some (l.take i, n) ∧ e = ofL [(1, .mp 0 0), (3, .mp 1 0), (5, .int .i64 n), (6, .int .i64 (te + 4 + wordsOf (SL.take i))), (7, .int .i64 i)] ∧
    h = .cells [nm, pa, .int .i64 te, gi, sl, co] :: .cells [slots1 l, .int .i64 sv, .int .i64 bk, .int .i64 sz] :: H) (fun i => SL.length - i) ?_ (i := 0) ⟨Nat.zero_le _, 0, rfl, by simp [wordsOf], rfl⟩
  rintro i e h ⟨hi, n, ho, rfl, rfl⟩
  refine RunP_seq (RunP_seq (RunP_told [.mp 0 0, .mp 1 0, .int .i64 n, .int .i64 (te + 4 + wordsOf (SL.take i)), .int .i64 i, .bool (decide (i < SL.length))] (.cells [nm, pa, .int .i64 te, gi, sl, co] :: .cells [slots1 l, .int .i64 sv, .int .i64 bk, .int .i64 sz] :: H) ?_ ?_))
  · rcases hsl with rfl | ⟨rfl, rfl⟩ <;> simp [f4r9, rows2_length]
  simp
  refine RunP_cond (x := decide (i < SL.length)) (by simp) (fun hlt => ?_) (fun hge => ?_)
  · have hlt : i < SL.length := by simpa using hlt
    refine RunP_skip ?_
    simp
    rcases hsl with rfl | ⟨rfl, rfl⟩
    · obtain ⟨g1, g2, g3, g4, g5⟩ := ofGo_step hn hlen hlt ho
      rcases hsa : SL[i] with ⟨s, a⟩
      rw [hsa] at g1 g2 g3
      simp only at g1 g2 g3
      obtain ⟨f1, f2, f3⟩ := fits_inv g1
      obtain ⟨u1, u2, u3⟩ := upI_spec n a g4 (by omega) (by omega)
      obtain ⟨b1, b2, b3, b4⟩ := ofGo_bound ho (by rw [List.length_take]; omega)
      have hti : (SL.take i).length ≤ 256 := by rw [List.length_take]; omega
      have hrow : (rows2 SL)[i]? = some [.int .i64 s, .int .i64 a] := by simp [rows2, hlt, hsa]
      have hrow1 : (rows1 l)[i]? = some [.int .i64 (upI n a)] := by simp [rows1, g2]
      have hs1 : slots1 l = .is 1 (rows1 l) false := by
        cases l with
        | nil => simp at hll; omega
        | cons x r => rfl
      have c1 : ¬ upI n a < n := by omega
      have c2 : ¬ a < 1 := by omega
      have c3 : a ≠ 0 := by omega
      have c4 : (upI n a).tmod a = 0 := by
        rw [Int.tmod_eq_emod_of_nonneg (by omega)]; exact u3
      rw [hs1]
      refine RunP_seq (RunP_block (RunP_seq (RunP_seq (RunP_any ?_))))
      simp [f4r10, asteps, astep, stepRun, aop, HC.run, HC.rds, HC.wrs, HC.ofOpt, Blk.isFree, drawOK, freeOf, Rec.indep, disj, apart, AOper.looks, AOp.tmps, AO.tmps, pTmps, Nat.testBit, hrow, hrow1, c1, c2, c3, c4]
      have w1 : IntKind.i64.wrap (upI n a + s) = upI n a + s := wrap64 _ (by omega) (by omega)
      have w2 : IntKind.i64.wrap (s + 3) = s + 3 := wrap64 _ (by omega) (by omega)
      have w3 : (s + 3).tdiv 4 = (s + 3) / 4 := Int.tdiv_eq_ediv_of_nonneg (by omega)
      have w4 : IntKind.i64.wrap ((s + 3) / 4) = (s + 3) / 4 := wrap64 _ (by omega) (by omega)
      have w5 : IntKind.i64.wrap (te + 4 + wordsOf (SL.take i) + (s + 3) / 4) = te + 4 + wordsOf (SL.take i) + (s + 3) / 4 := wrap64 _ (by omega) (by omega)
      have w6 : IntKind.i64.wrap ((i : Int) + 1) = ((i + 1 : Nat) : Int) := by rw [wrap64 _ (by omega) (by omega)]; simp
      have w7 : wordsOf (SL.take (i + 1)) = wordsOf (SL.take i) + (s + 3) / 4 := by
        rw [List.take_succ_eq_append_getElem hlt, hsa, wordsOf_snoc, w3]
      refine RunP_cond (x := false) (by simp) (fun hx => by cases hx) (fun _ => ?_)
      refine RunP_skip ?_
      simp
      refine RunP_seq (RunP_any ?_)
      simp [f4r12, asteps, astep, stepRun, aop, HC.run, HC.rds, HC.wrs, HC.ofOpt, Blk.isFree, drawOK, freeOf, Rec.indep, disj, apart, AOper.looks, AOp.tmps, AO.tmps, pTmps, Nat.testBit, hrow, hrow1, w1]
      refine RunP_ops ?_
      simp [f4r13, hrow, w2, w3, w4, w5]
      refine RunP_ops ?_
      simp [f4r14, w6]
      exact ⟨i + 1, by omega, by omega, _, g3, by rw [w7]; simp [Int.add_assoc]⟩
    · exact absurd hlt (Nat.not_lt_zero _)
  · have : i = SL.length := by
      have : ¬ i < SL.length := by simpa using hge
      omega
    subst this
    refine RunP_exit ?_
    simp
    rw [List.take_length] at ho
    rw [hn] at ho
    simp only [Option.some.injEq, Prod.mk.injEq] at ho
    rw [← ho.2]
    simpa using hgood
end Go.Proofs.Ytlmgkbdcpaojlaa
