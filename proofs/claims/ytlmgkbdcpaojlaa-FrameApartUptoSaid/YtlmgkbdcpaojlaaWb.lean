/- Chapter 23: what frame.Of answers. -/
import Derived.Test.YtlmgkbdcpaojlaaWa
namespace Go.Proofs.Ytlmgkbdcpaojlaa
open Go.AM
set_option maxRecDepth 10000
attribute [local congr] RunP_congr
attribute [local simp] stepsF wanted put thenP
  stepF_call stepF_move stepF_pick stepF_alloc stepF_box stepF_build stepF_buildSlice stepF_load stepF_store stepF_nilCheck stepF_bin stepF_eq stepF_un stepF_conv stepF_strId stepF_toStr stepF_toBytes stepF_fn stepF_mkSlice stepF_slice stepF_strSlice stepF_fieldAddr stepF_field stepF_idxAddr stepF_idxArr stepF_strIndex stepF_extract stepF_len0 stepF_len1 stepF_min stepF_max stepF_append
  cellsF newF abin_add abin_sub abin_mul abin_quo abin_rem abin_eql abin_neq abin_lss abin_leq abin_gtr abin_geq abin_and abin_or abin_xor abin_shl abin_shr abin_seql abin_sneq aun_not aun_neg
  cellsOf_agg cellsOf_int cellsOf_bool cellsOf_str cellsOf_nils cellsOf_is cellsOf_ms cellsOf_fn cellsOf_nilp cellsOf_mp cget_one cget_agg ev_t ev_c fillp_nil fillp_cons isSc_int isSc_bool isSc_str isSc_nils isSc_is isSc_ms isSc_fn
  upd_apply ofL_cons ofL_nil nextP blockP answerP aresults ares splice List.replicate Areify_int Areify_bool Areify_str Areify_nils Areify_is Areify_tup Areify_agg AreifyL
def fitsS (s a : Int) : Bool := decide (1 ≤ s) && decide (s ≤ 16384) && (decide (a = 1) || decide (a = 2) || decide (a = 4))
/-- The slots' places, and where they end. -/
def ofGo : List (Int × Int) → Int → Option (List Int × Int)
  | [], n => some ([], n)
  | (s, a) :: r, n => if fitsS s a then (ofGo r (IntKind.i64.wrap (upI n a + s))).map fun x => (upI n a :: x.1, x.2) else none
theorem ofGo_snoc (s a : Int) : ∀ (l : List (Int × Int)) (n : Int), ofGo (l ++ [(s, a)]) n = match ofGo l n with
    | some (x, m) => if fitsS s a then some (x ++ [upI m a], IntKind.i64.wrap (upI m a + s)) else none
    | none => none := by
  intro l
  induction l with
  | nil => intro n; simp only [List.nil_append, ofGo]; split <;> simp
  | cons p r ih =>
    obtain ⟨s', a'⟩ := p
    intro n
    simp only [List.cons_append, ofGo]
    split
    · rw [ih]
      cases ofGo r (IntKind.i64.wrap (upI n a' + s')) with
      | none => rfl
      | some y => simp only [Option.map_some]; split <;> simp
    · rfl
theorem ofGo_length : ∀ {l : List (Int × Int)} {n : Int} {x : List Int} {m : Int}, ofGo l n = some (x, m) → x.length = l.length := by
  intro l
  induction l with
  | nil => intro n x m h; simp [ofGo] at h; simp [h.1]
  | cons p r ih =>
    obtain ⟨s, a⟩ := p
    intro n x m h
    simp only [ofGo] at h
    split at h
    · simp only [Option.map_eq_some_iff] at h
      obtain ⟨y, hy, hq⟩ := h
      obtain ⟨y1, y2⟩ := y
      have := ih hy
      cases hq
      simp [this]
    · cases h
theorem ofGo_none {l r : List (Int × Int)} : ∀ {n : Int}, ofGo l n = none → ofGo (l ++ r) n = none := by
  induction l with
  | nil => intro n h; simp [ofGo] at h
  | cons p t ih =>
    obtain ⟨s, a⟩ := p
    intro n h
    simp only [List.cons_append, ofGo] at h ⊢
    split
    · rename_i q
      rw [if_pos q] at h
      cases hq : ofGo t (IntKind.i64.wrap (upI n a + s)) with
      | none => rw [ih hq]; rfl
      | some y => rw [hq] at h; simp at h
    · rfl
theorem wrap64 (x : Int) (h1 : -9223372036854775808 ≤ x) (h2 : x ≤ 9223372036854775807) : IntKind.i64.wrap x = x := by
  simp [IntKind.wrap, IntKind.min, IntKind.max, IntKind.signed, IntKind.bits]
  omega
def rows2 (l : List (Int × Int)) : List (List AV) := l.map fun p => [.int .i64 p.1, .int .i64 p.2]
def rows1 (l : List Int) : List (List AV) := l.map fun n => [.int .i64 n]
/-- A slice of the run's own, or none. -/
def Own1 (o : Nat) (H : Heap) (v : AV) (l : List Int) : Prop :=
  (l = [] ∧ v = .nils) ∨ (l ≠ [] ∧ ∃ id, v = .ms (id + o) 0 l.length 1 l.length false ∧ H[id]? = some (.cells (l.map fun n => .int .i64 n)))

theorem RunP_any {A : Tab} {nt : Nat} {ops : List AOper} {keep : List Nat} {n : Nat} {e : Env} {h : Heap} {K : Ex → Env → Heap → Prop}
    (hp : match asteps (Acall A) (isPure A) nt h.length ops e (h ++ List.replicate n .free) with
      | some (e', h', rs) => drawOK 0 (ops.zip rs) = true ∧ K .normal (ofL (keep.map fun k => (k, e' k))) h'
      | none => False) : RunP A nt (.region true ops keep n) e h K := by
  split at hp
  · rename_i e' h' rs hs
    exact RunP_drawn hs hp.1 hp.2
  · exact hp.elim

theorem of_loop (nm pa te gi co sl : AV) (SL : List (Int × Int)) (hsl : sl = .is 2 (rows2 SL) false ∨ (SL = [] ∧ sl = .nils)) (hlen : SL.length ≤ 256) (K : Ex → Env → Heap → Prop)
    (hbad : ofGo SL 0 = none → ∀ H, K .ret (ofL [(2, .mp 1 0), (3, .int .i64 250)]) (.cells [nm, pa, te, gi, sl, co] :: .cells [.nils, .int .i64 0, .int .i64 0, .int .i64 0] :: H))
    (hgood : ∀ l n v H, ofGo SL 0 = some (l, n) → Own1 4 H v l → K (.exit 0) (ofL [(1, .mp 0 0), (2, .mp 1 0), (4, .mp 2 0), (5, .mp 3 0), (6, .fn 15 [.mp 3 0]), (26, sl), (27, .int .i64 SL.length), (28, .int .i64 SL.length), (29, .bool false)])
      (.cells [nm, pa, te, gi, sl, co] :: .cells [.nils, .int .i64 0, .int .i64 0, .int .i64 0] :: .cells [v, .int .i64 0, .int .i64 0, .int .i64 0] :: .cells [.int .i64 n] :: H)) :
    RunP tab 65 (.loop f7l7) (ofL [(1, .mp 0 0), (2, .mp 1 0), (4, .mp 2 0), (5, .mp 3 0), (6, .fn 15 [.mp 3 0]), (26, sl), (27, .int .i64 SL.length), (28, .int .i64 0)])
      [.cells [nm, pa, te, gi, sl, co], .cells [.nils, .int .i64 0, .int .i64 0, .int .i64 0], .cells [.nils, .int .i64 0, .int .i64 0, .int .i64 0], .cells [.int .i64 0]] K := by
  refine RunP_loop (ι := Nat) (fun i e h => i ≤ SL.length ∧ ∃ l n v H, ofGo (SL.take i) 0 = some (l, n) ∧ Own1 4 H v l ∧ e = ofL [(1, .mp 0 0), (2, .mp 1 0), (4, .mp 2 0), (5, .mp 3 0), (6, .fn 15 [.mp 3 0]), (26, sl), (27, .int .i64 SL.length), (28, .int .i64 i)] ∧
    h = .cells [nm, pa, te, gi, sl, co] :: .cells [.nils, .int .i64 0, .int .i64 0, .int .i64 0] :: .cells [v, .int .i64 0, .int .i64 0, .int .i64 0] :: .cells [.int .i64 n] :: H) (fun i => SL.length - i) ?_ (i := 0) ⟨Nat.zero_le _, [], 0, .nils, [], rfl, .inl ⟨rfl, rfl⟩, rfl, rfl⟩
  rintro i e h ⟨hi, l, n, v, H, ho, hv, rfl, rfl⟩
  refine RunP_seq (RunP_ops ?_)
  simp [f7r7]
  refine RunP_seq (RunP_cond (x := decide ((i : Int) < SL.length)) (by simp) (fun hlt => ?_) (fun hge => ?_))
  · refine RunP_skip ?_
    simp
    have hlt : i < SL.length := by simpa using hlt
    rcases hsl with rfl | ⟨rfl, rfl⟩
    · rcases hsa : SL[i] with ⟨s, a⟩
      have hrow : (rows2 SL)[i]? = some [.int .i64 s, .int .i64 a] := by simp [rows2, hlt, hsa]
      refine RunP_seq (RunP_block (RunP_seq (RunP_ops ?_)))
      simp [f7r8, hrow]
      refine RunP_seq (RunP_seq (RunP_ops ?_))
      simp [f7r9, fits_ok]
      refine RunP_cond (x := !fitsS s a) (by simp [fitsS]) (fun hx => ?_) (fun hx => ?_)
      · refine RunP_seq (RunP_ops ?_)
        simp [f7r10]
        refine RunP_ret ?_
        simp
        have hfit : fitsS s a = false := by simpa using hx
        have h1 : ofGo (SL.take (i + 1)) 0 = none := by
          rw [List.take_succ_eq_append_getElem hlt, hsa, ofGo_snoc, ho]
          simp [hfit]
        refine hbad ?_ _
        have := ofGo_none (r := SL.drop (i + 1)) h1
        rwa [List.take_append_drop] at this
      · refine RunP_skip ?_
        simp
        have hfit : fitsS s a = true := by simpa using hx
        have ha : a ≠ 0 := by
          intro q; subst q; simp [fitsS] at hfit
        refine RunP_any ?_
        have hnext : ofGo (SL.take (i + 1)) 0 = some (l ++ [upI n a], IntKind.i64.wrap (upI n a + s)) := by
          rw [List.take_succ_eq_append_getElem hlt, hsa, ofGo_snoc, ho]
          simp [hfit]
        have hw : IntKind.i64.wrap ((i : Int) + 1) = ((i + 1 : Nat) : Int) := by
          rw [wrap64 _ (by omega) (by omega)]; simp
        rcases hv with ⟨rfl, rfl⟩ | ⟨hl, id, rfl, hid⟩
        · simp [f7r11, asteps, astep, stepRun, aop, HC.run, HC.rds, HC.wrs, HC.ofOpt, Blk.isFree, take_steps _ _ _ ha, isPure, tab, f15, slen, ssz, scells, roomy, drawOK, freeOf, Rec.indep, disj, apart, AOper.looks, AOp.tmps, AO.tmps, pTmps, Nat.testBit]
          refine RunP_ops ?_
          simp [f7r12]
          exact ⟨i + 1, by omega, by omega, _, _, hnext, .ms (H.length + 6) 0 1 1 1 false, H ++ [.cells [.int .i64 s, .int .i64 a], .cells [.int .i64 (upI n a)], .cells [.int .i64 (upI n a)]],
            .inr ⟨by simp, H.length + 2, by simp, by simp⟩, by simp [hw], by simp, rfl, rfl⟩
        · have hli : l.length = i := by rw [ofGo_length ho, List.length_take]; omega
          have hsz : ¬ 140737488355328 < (l.length + 1) * 8 := by omega
          have hlt2 : id < H.length := set_lt hid
          have hid2 : ∀ r : Heap, (H ++ r)[id]? = some (.cells (l.map fun n => .int .i64 n)) := fun r => by rw [List.getElem?_append_left hlt2]; exact hid
          have hset : ∀ (r : Heap) (b : Blk), (H ++ r).set id b = H.set id b ++ r := fun r b => by rw [List.set_append_left _ _ hlt2]
          have hno : ¬ l.length + 1 ≤ l.length := by omega
          have htake : (l.map fun n => AV.int .i64 n).take l.length = l.map fun n => .int .i64 n := by rw [List.take_of_length_le (by simp)]
          have hne : ∀ k, ¬ H.length + k = id := fun k => by omega
          have hne2 : ∀ k, ¬ id = H.length + k := fun k => by omega
          simp [f7r11, asteps, astep, stepRun, aop, HC.run, HC.rds, HC.wrs, HC.ofOpt, Blk.isFree, take_steps _ _ _ ha, isPure, tab, f15, slen, ssz, scells, roomy, drawOK, freeOf, Rec.indep, disj, apart, AOper.looks, AOp.tmps, AO.tmps, pTmps, Nat.testBit, hsz, hid2, hset, hno, htake]
          refine RunP_ops ?_
          simp [f7r12]
          exact ⟨i + 1, by omega, by omega, _, _, hnext, .ms (H.length + 6) 0 (l.length + 1) 1 (l.length + 1) false, H.set id .dead ++ [.cells [.int .i64 s, .int .i64 a], .cells [.int .i64 (upI n a)], .cells ((l.map fun n => .int .i64 n) ++ [.int .i64 (upI n a)])],
            .inr ⟨by simp, H.length + 2, by simp, by rw [List.getElem?_append_right (by simp)]; simp⟩, by simp [hw], by simp, rfl, rfl⟩
    · exact absurd hlt (Nat.not_lt_zero _)
  · have : i = SL.length := by
      have : ¬ i < SL.length := by simpa using hge
      omega
    subst this
    refine RunP_exit ?_
    simp
    rw [List.take_length] at ho
    have := hgood l n v H ho hv
    simpa using this
end Go.Proofs.Ytlmgkbdcpaojlaa
