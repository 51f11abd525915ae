/- Chapter 23: what frame.Of answers. -/
import Derived.Test.YtlmgkbdcpaojlaaWb
namespace Go.Proofs.Ytlmgkbdcpaojlaa
open Go.AM
set_option maxRecDepth 10000
attribute [local congr] RunP_congr
attribute [local simp] stepsF wanted put thenP
  stepF_call stepF_move stepF_pick stepF_alloc stepF_box stepF_build stepF_buildSlice stepF_load stepF_store stepF_nilCheck stepF_bin stepF_eq stepF_un stepF_conv stepF_strId stepF_toStr stepF_toBytes stepF_fn stepF_mkSlice stepF_slice stepF_strSlice stepF_fieldAddr stepF_field stepF_idxAddr stepF_idxArr stepF_strIndex stepF_extract stepF_len0 stepF_len1 stepF_min stepF_max stepF_append
  cellsF newF abin_add abin_sub abin_mul abin_quo abin_rem abin_eql abin_neq abin_lss abin_leq abin_gtr abin_geq abin_and abin_or abin_xor abin_shl abin_shr abin_seql abin_sneq aun_not aun_neg
  cellsOf_agg cellsOf_int cellsOf_bool cellsOf_str cellsOf_nils cellsOf_is cellsOf_ms cellsOf_fn cellsOf_nilp cellsOf_mp cget_one cget_agg ev_t ev_c fillp_nil fillp_cons isSc_int isSc_bool isSc_str isSc_nils isSc_is isSc_ms isSc_fn
  upd_apply ofL_cons ofL_nil nextP blockP answerP aresults ares splice List.replicate Areify_int Areify_bool Areify_str Areify_nils Areify_is Areify_tup Areify_agg AreifyL
def slots1 : List Int → AV
  | [] => .nils
  | l => .is 1 (rows1 l) false
def ofBad : AV := .tup [.agg [.nils, .int .i64 0, .int .i64 0, .int .i64 0], .int .i64 250]
def saveOf (n : Int) : Int := upI n 4
def backOf (n te : Int) : Int := upI (IntKind.i64.wrap (saveOf n + IntKind.i64.wrap (4 * te))) 4
def sizeOf1 (n te : Int) : Int := upI (IntKind.i64.wrap (backOf n te + 4)) 8
/-- What frame.Of answers. -/
def ofAns (SL : List (Int × Int)) (te : Int) : AV :=
  if 256 < SL.length ∨ te < 0 ∨ 10 < te then ofBad else match ofGo SL 0 with
    | none => ofBad
    | some (l, n) => if 65536 < sizeOf1 n te then ofBad else .tup [.agg [slots1 l, .int .i64 (saveOf n), .int .i64 (backOf n te), .int .i64 (sizeOf1 n te)], .int .i64 0]
theorem chunk1 : ∀ (l : List Int), chunk 1 l.length (l.map fun n => AV.int .i64 n) = rows1 l := by
  intro l
  induction l with
  | nil => rfl
  | cons x r ih => simp only [List.length_cons, List.map_cons, chunk, rows1, List.take_succ_cons, List.take_zero, List.drop_succ_cons, List.drop_zero]; rw [ih]; rfl
theorem reify1 (h : Heap) : ∀ (l : List Int), AreifyL h (l.map fun n => AV.int .i64 n) = some (l.map fun n => AV.int .i64 n) := by
  intro l
  induction l with
  | nil => rfl
  | cons x r ih => simp only [List.map_cons, AreifyL, Areify_int, ih]
theorem own1_reify {o : Nat} {H : Heap} {v : AV} {l : List Int} (hv : Own1 o H v l) (h : Heap) (hh : ∀ i b, H[i]? = some b → h[i + o]? = some b) : Areify h v = some (slots1 l) := by
  rcases hv with ⟨rfl, rfl⟩ | ⟨hl, id, rfl, hid⟩
  · exact Areify_nils
  · have := Areify_ms (h := h) (id := id + o) (off := 0) (len := l.length) (sz := 1) (cap := l.length) (ex := false) (hh _ _ hid) (by simp) (l := l.map fun n => .int .i64 n) (by
      have : ((l.map fun n => AV.int .i64 n).drop 0).take (l.length * 1) = l.map fun n => .int .i64 n := by rw [List.drop_zero, List.take_of_length_le (by simp)]
      rw [this]; exact reify1 h l)
    rw [this, chunk1]
    cases l with
    | nil => exact (hl rfl).elim
    | cons x r => rfl
theorem rows2_length (l : List (Int × Int)) : (rows2 l).length = l.length := by simp [rows2]
theorem of_ok (h : Heap) (nm gi co sl : AV) (pa te : Int) (SL : List (Int × Int)) (hsl : sl = .is 2 (rows2 SL) false ∨ (SL = [] ∧ sl = .nils)) (himm : imm.immL [.agg [nm, .int .i64 pa, .int .i64 te, gi, sl, co]] = true) :
    Acall tab 7 [.agg [nm, .int .i64 pa, .int .i64 te, gi, sl, co]] h = some (ofAns SL te, h, []) := by
  refine Acall_own rfl rfl rfl himm (RunP_seq (RunP_ops ?_))
  simp [f7r0]
  refine RunP_seq (RunP_seq (RunP_told [.mp 0 0, .mp 1 0, .bool (decide (256 < SL.length) || decide (te < 0) || decide (10 < te))] [.cells [nm, .int .i64 pa, .int .i64 te, gi, sl, co], .cells [.nils, .int .i64 0, .int .i64 0, .int .i64 0]] ?_ ?_))
  · have h256 : ((256 : Int) < SL.length) ↔ 256 < SL.length := by omega
    rcases hsl with rfl | ⟨rfl, rfl⟩
    · by_cases h1 : 256 < SL.length <;> by_cases h2 : te < 0 <;> by_cases h3 : 10 < te <;> simp [f7r1, rows2_length, h256, h1, h2, h3]
    · by_cases h2 : te < 0 <;> by_cases h3 : 10 < te <;> simp [f7r1, h2, h3]
  · simp
    have t4 : ∀ (n size : Int) (b0 b1 b2 : Blk) (H : Heap), Acall tab 15 [.int .i64 size, .int .i64 4, .mp 3 0] (b0 :: b1 :: b2 :: .cells [.int .i64 n] :: H) =
      some (.int .i64 (upI n 4), b0 :: b1 :: b2 :: .cells [.int .i64 (IntKind.i64.wrap (upI n 4 + size))] :: H, [3]) := fun n size b0 b1 b2 H => take_steps n size 4 (by decide) b0 b1 b2 H
    have u8 : ∀ (h : Heap) (n : Int), Acall tab 16 [.int .i64 n, .int .i64 8] h = some (.int .i64 (upI n 8), h, []) := fun h n => up_ok h n 8 (by decide)
    refine RunP_cond (x := decide (256 < SL.length) || decide (te < 0) || decide (10 < te)) (by simp) (fun hx => ?_) (fun hx => ?_)
    · have hbad : ofAns SL te = ofBad := by
        unfold ofAns
        rw [if_pos]
        simpa [or_assoc] using hx
      refine RunP_seq (RunP_ops ?_)
      simp [f7r2]
      refine RunP_ret ?_
      simp [hbad, ofBad]
    · have hgo : ¬ (256 < SL.length ∨ te < 0 ∨ 10 < te) := by
        simp at hx
        omega
      refine RunP_skip ?_
      simp
      refine RunP_seq (RunP_ops ?_)
      simp [f7r3]
      refine RunP_seq (RunP_ops ?_)
      simp [f7r4]
      refine RunP_seq (RunP_ops ?_)
      simp [f7r5]
      refine RunP_seq (RunP_seq (RunP_told [.mp 0 0, .mp 1 0, .mp 2 0, .mp 3 0, .fn 15 [.mp 3 0], sl, .int .i64 SL.length, .int .i64 0]
        [.cells [nm, .int .i64 pa, .int .i64 te, gi, sl, co], .cells [.nils, .int .i64 0, .int .i64 0, .int .i64 0], .cells [.nils, .int .i64 0, .int .i64 0, .int .i64 0], .cells [.int .i64 0]] ?_ ?_))
      · rcases hsl with rfl | ⟨rfl, rfl⟩ <;> simp [f7r6, rows2_length]
      · simp
        refine RunP_block (of_loop nm (.int .i64 pa) (.int .i64 te) gi co sl SL hsl (by omega) _ ?_ ?_)
        · intro hn H
          have hbad : ofAns SL te = ofBad := by
            unfold ofAns
            rw [if_neg hgo, hn]
          simp [hbad, ofBad]
        · intro l n v H hn hv
          have hans : ofAns SL te = if 65536 < sizeOf1 n te then ofBad else .tup [.agg [slots1 l, .int .i64 (saveOf n), .int .i64 (backOf n te), .int .i64 (sizeOf1 n te)], .int .i64 0] := by
            unfold ofAns
            rw [if_neg hgo, hn]
          simp
          refine RunP_seq (RunP_ops ?_)
          simp [f7r13, t4]
          refine RunP_seq (RunP_ops ?_)
          simp [f7r14, t4]
          refine RunP_seq (RunP_seq (RunP_ops ?_))
          simp [f7r15, u8]
          refine RunP_seq (RunP_ops ?_)
          simp [f7r16]
          have hsc : isSc v = true := by
            rcases hv with ⟨_, rfl⟩ | ⟨_, id, rfl, _⟩ <;> rfl
          have hre : ∀ b0 b1 b2 b3 : Blk, Areify (b0 :: b1 :: b2 :: b3 :: H) v = some (slots1 l) := fun b0 b1 b2 b3 => own1_reify hv _ (fun i b hb => by simpa using hb)
          refine RunP_cond (x := decide (65536 < sizeOf1 n te)) (by simp; rfl) (fun hx => ?_) (fun hx => ?_)
          · rw [if_pos (by simpa using hx)] at hans
            refine RunP_seq (RunP_ops ?_)
            simp [f7r17]
            refine RunP_ret ?_
            simp [hans, ofBad]
          · rw [if_neg (by simpa using hx)] at hans
            refine RunP_skip ?_
            simp
            refine RunP_seq (RunP_ops ?_)
            simp [f7r18, hsc]
            refine RunP_ret ?_
            simp [hans, hre, sizeOf1, backOf, saveOf]
end Go.Proofs.Ytlmgkbdcpaojlaa
