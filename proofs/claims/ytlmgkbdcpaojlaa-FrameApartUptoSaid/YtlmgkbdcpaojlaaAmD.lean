/- The abstract machine: what an operation answers is what the model's operation answers. First part: words. -/
import Derived.Test.YtlmgkbdcpaojlaaAmB
import Derived.Test.YtlmgkbdcpaojlaaAmC
import Derived.Laws.IdiomCopy
import Derived.Laws.Entries
namespace Go.AM

/-- The variables stand for the real ones. -/
def ER (w : World) (phi : Phi) (im : Nat → Prop) (env : Env) (t : Array Value) : Prop := ∀ n, VR w phi im (env n) (t.getD n Go.undef)

/-- What an operation comes to. -/
def Good (P : Program) (o : Oper) (a : Act) (w : World) (phi : Phi) (im : Nat → Prop) (v : AV) (h' : Heap) : Prop :=
  ∃ n rv w' phi', (execOp a.eval o).run P w = .ok n w' ∧ (n = .value rv ∨ (n = .skip ∧ rv = Go.undef)) ∧ VR w' phi' im v rv ∧ SR w' phi' im h' ∧ Post w phi im w' phi' im

theorem Good.here {P : Program} {o : Oper} {a : Act} {w : World} {phi : Phi} {im : Nat → Prop} {v : AV} {h : Heap} {rv : Value} (s : SR w phi im h)
    (e : (execOp a.eval o).run P w = .ok (.value rv) w) (r : VR w phi im v rv) : Good P o a w phi im v h :=
  ⟨_, rv, w, phi, e, .inl rfl, r, s, Post.refl _ _ _⟩

theorem compS_ok {w : World} {im : Nat → Prop} {v : Value} {x : AV} (h : compS v = some x) : IR w im x v := by
  unfold compS at h
  split at h <;> cases h
  · exact .int _ _
  · exact .bool _
  · rename_i s
    have : s = ⟨s.data.toList.toArray⟩ := by cases s; simp
    rw [this]
    simpa using IR.str (w := w) (im := im) s.data.toList
  · exact .nilp
  · exact .nils
  · exact .nilm
  · exact .nilf
  · exact .nili

theorem compL_ok {w : World} {im : Nat → Prop} : ∀ {l : List Value} {m : List AV}, compL l = some m → m.length = l.length ∧ ∀ (i : Nat) x, m[i]? = some x → ∃ v, l[i]? = some v ∧ IR w im x v := by
  intro l
  induction l with
  | nil => intro m h; cases h; exact ⟨rfl, fun i x hx => by simp at hx⟩
  | cons v r ih =>
    intro m h
    simp only [compL] at h
    split at h
    · rename_i x l' h1 h2
      cases h
      obtain ⟨hl, hr⟩ := ih h2
      refine ⟨by simp [hl], fun i y hy => ?_⟩
      cases i with
      | zero => simp at hy; subst hy; exact ⟨v, rfl, compS_ok h1⟩
      | succ i => simp at hy; obtain ⟨u, hu, hv⟩ := hr i y hy; exact ⟨u, by simpa using hu, hv⟩
    · cases h

theorem compV_ok {w : World} {im : Nat → Prop} {v : Value} {x : AV} (h : compV v = some x) : IR w im x v := by
  unfold compV at h
  split at h
  · rename_i cs
    simp only [Option.map_eq_some_iff] at h
    obtain ⟨m, hm, rfl⟩ := h
    obtain ⟨hl, hr⟩ := compL_ok (w := w) (im := im) hm
    refine .agg m cs (by simp [hl]) fun i y hy => ?_
    obtain ⟨u, hu, hv⟩ := hr i y hy
    have : cs.getD i Go.undef = u := by simp [Array.getD_eq_getD_getElem?, ← Array.getElem?_toList, hu]
    rw [this]; exact hv
  · exact compS_ok h

theorem compO_ok {w : World} {phi : Phi} {im : Nat → Prop} {env : Env} {a : Act} (e : ER w phi im env a.tmps) {o : Operand} {x : AO} (h : compO o = some x) : VR w phi im (ev env x) (a.eval o) := by
  cases o with
  | tmp t => cases h; exact e t
  | const v =>
    simp only [compO, Option.map_eq_some_iff] at h
    obtain ⟨y, hy, rfl⟩ := h
    exact .imm (compV_ok hy)
  | global g => cases h
  | func f => cases h; exact .imm (.fn f [] #[] rfl fun i x hx => by simp at hx)

/-! ### What a value's being related tells of its shape -/

theorem VR.int_inv {w : World} {phi : Phi} {im : Nat → Prop} {k : IntKind} {n : Int} {v : Value} (h : VR w phi im (.int k n) v) : v = .int k n := by
  cases h with | imm h => cases h; rfl
theorem VR.bool_inv {w : World} {phi : Phi} {im : Nat → Prop} {b : Bool} {v : Value} (h : VR w phi im (.bool b) v) : v = .bool b := by
  cases h with | imm h => cases h; rfl
theorem VR.str_inv {w : World} {phi : Phi} {im : Nat → Prop} {s : List UInt8} {v : Value} (h : VR w phi im (.str s) v) : v = .string ⟨s.toArray⟩ := by
  cases h with | imm h => cases h; rfl
theorem VR.nilp_inv {w : World} {phi : Phi} {im : Nat → Prop} {v : Value} (h : VR w phi im .nilp v) : v = .pointer none := by
  cases h with | imm h => cases h; rfl
theorem VR.nils_inv {w : World} {phi : Phi} {im : Nat → Prop} {v : Value} (h : VR w phi im .nils v) : v = .slice none 0 0 := by
  cases h with | imm h => cases h; rfl
theorem VR.nilm_inv {w : World} {phi : Phi} {im : Nat → Prop} {v : Value} (h : VR w phi im .nilm v) : v = .map none := by
  cases h with | imm h => cases h; rfl
theorem VR.nilf_inv {w : World} {phi : Phi} {im : Nat → Prop} {v : Value} (h : VR w phi im .nilf v) : v = .nilFunc := by
  cases h with | imm h => cases h; rfl
theorem VR.mp_inv {w : World} {phi : Phi} {im : Nat → Prop} {id off : Nat} {v : Value} (h : VR w phi im (.mp id off) v) : ∃ b sh, phi id = some (b, sh) ∧ v = .pointer (some ⟨b, sh + off, none⟩) := by
  cases h with
  | imm h => cases h
  | mp _ _ b sh h => exact ⟨b, sh, h, rfl⟩
theorem VR.mm_inv {w : World} {phi : Phi} {im : Nat → Prop} {id : Nat} {v : Value} (h : VR w phi im (.mm id) v) : ∃ b, phi id = some (b, 0) ∧ v = .map (some b) := by
  cases h with
  | imm h => cases h
  | mm _ b h => exact ⟨b, h, rfl⟩
theorem VR.ip_inv {w : World} {phi : Phi} {im : Nat → Prop} {row : List AV} {off : Nat} {v : Value} (h : VR w phi im (.ip row off) v) : IR w im (.ip row off) v := by
  cases h with | imm h => exact h
theorem VR.is_inv {w : World} {phi : Phi} {im : Nat → Prop} {sz : Nat} {rows : List (List AV)} {f : Bool} {v : Value} (h : VR w phi im (.is sz rows f) v) : IR w im (.is sz rows f) v := by
  cases h with | imm h => exact h
theorem VR.agg_inv {w : World} {phi : Phi} {im : Nat → Prop} {cs : List AV} {v : Value} (h : VR w phi im (.agg cs) v) :
    ∃ vs : Array Value, v = .agg vs ∧ vs.size = cs.length ∧ ∀ (i : Nat) x, cs[i]? = some x → VR w phi im x (vs.getD i Go.undef) := by
  cases h with
  | imm h => cases h with | agg _ vs hn hr => exact ⟨vs, rfl, hn, fun i x hx => .imm (hr i x hx)⟩
  | agg _ vs hn hr => exact ⟨vs, rfl, hn, hr⟩
theorem VR.tup_inv {w : World} {phi : Phi} {im : Nat → Prop} {cs : List AV} {v : Value} (h : VR w phi im (.tup cs) v) :
    ∃ vs : Array Value, v = .tuple vs ∧ vs.size = cs.length ∧ ∀ (i : Nat) x, cs[i]? = some x → VR w phi im x (vs.getD i Go.undef) := by
  cases h with
  | imm h => cases h with | tup _ vs hn hr => exact ⟨vs, rfl, hn, fun i x hx => .imm (hr i x hx)⟩
  | tup _ vs hn hr => exact ⟨vs, rfl, hn, hr⟩
theorem VR.fn_inv {w : World} {phi : Phi} {im : Nat → Prop} {f : Nat} {cs : List AV} {v : Value} (h : VR w phi im (.fn f cs) v) :
    ∃ vs : Array Value, v = .func (.func f) #[] vs ∧ vs.size = cs.length ∧ ∀ (i : Nat) x, cs[i]? = some x → VR w phi im x (vs.getD i Go.undef) := by
  cases h with
  | imm h => cases h with | fn _ _ vs hn hr => exact ⟨vs, rfl, hn, fun i x hx => .imm (hr i x hx)⟩
  | fn _ _ vs hn hr => exact ⟨vs, rfl, hn, hr⟩
theorem VR.ms_inv {w : World} {phi : Phi} {im : Nat → Prop} {id off len sz cap : Nat} {ex : Bool} {v : Value} (h : VR w phi im (.ms id off len sz cap ex) v) :
    ∃ b sh o rcap e n, v = .slice (some ⟨b, o, none⟩) len rcap ∧ phi id = some (b, sh) ∧ (0 < rcap → o = sh + off) ∧ w.shape? b = some (e, n) ∧ o + rcap * sz ≤ n ∧ cap ≤ rcap ∧ (ex = true → rcap = cap) ∧ len ≤ cap := by
  cases h with
  | imm h => cases h
  | ms _ _ _ _ _ _ b sh o rcap e n h ho hs hn hc hx hl => exact ⟨b, sh, o, rcap, e, n, rfl, h, ho, hs, hn, hc, hx, hl⟩

theorem VR.int {w : World} {phi : Phi} {im : Nat → Prop} (k : IntKind) (n : Int) : VR w phi im (.int k n) (.int k n) := .imm (.int k n)
theorem VR.bool {w : World} {phi : Phi} {im : Nat → Prop} (b : Bool) : VR w phi im (.bool b) (.bool b) := .imm (.bool b)
theorem VR.str {w : World} {phi : Phi} {im : Nat → Prop} (s : List UInt8) : VR w phi im (.str s) (.string ⟨s.toArray⟩) := .imm (.str s)
theorem VR.undef {w : World} {phi : Phi} {im : Nat → Prop} (v : Value) : VR w phi im .undef v := .imm (.undef v)

/-- A value's cells. -/
theorem cellsOf_ok {w : World} {phi : Phi} {im : Nat → Prop} {x : AV} {v : Value} (h : VR w phi im x v) {cs : List AV} (hc : cellsOf x = some cs) :
    v.cells.size = cs.length ∧ ∀ (i : Nat) y, cs[i]? = some y → VR w phi im y (v.cells.getD i Go.undef) := by
  have one : cs = [x] → (v.cells = #[v]) → v.cells.size = cs.length ∧ ∀ (i : Nat) y, cs[i]? = some y → VR w phi im y (v.cells.getD i Go.undef) := by
    rintro rfl e
    rw [e]
    refine ⟨rfl, fun i y hy => ?_⟩
    cases i with
    | zero => simp at hy; subst hy; simpa using h
    | succ i => simp at hy
  cases x with
  | undef => cases hc
  | tup _ => cases hc
  | agg l =>
    cases hc
    obtain ⟨vs, rfl, hn, hr⟩ := h.agg_inv
    exact ⟨hn, hr⟩
  | int k n => cases hc; exact one rfl (by rw [h.int_inv]; rfl)
  | bool b => cases hc; exact one rfl (by rw [h.bool_inv]; rfl)
  | str s => cases hc; exact one rfl (by rw [h.str_inv]; rfl)
  | nilp => cases hc; exact one rfl (by rw [h.nilp_inv]; rfl)
  | ip row off => cases hc; exact one rfl (by cases h.ip_inv; rfl)
  | mp id off => cases hc; exact one rfl (by obtain ⟨b, sh, _, rfl⟩ := h.mp_inv; rfl)
  | nils => cases hc; exact one rfl (by rw [h.nils_inv]; rfl)
  | is sz rows f => cases hc; exact one rfl (by cases h.is_inv; rfl)
  | ms id off len sz cap ex => cases hc; exact one rfl (by obtain ⟨b, sh, o, rcap, e, n, rfl, _⟩ := h.ms_inv; rfl)
  | fn f caps => cases hc; exact one rfl (by obtain ⟨vs, rfl, _⟩ := h.fn_inv; rfl)
  | nilf => cases hc; exact one rfl (by rw [h.nilf_inv]; rfl)
  | nilm => cases hc; exact one rfl (by rw [h.nilm_inv]; rfl)
  | mm id => cases hc; exact one rfl (by obtain ⟨b, _, rfl⟩ := h.mm_inv; rfl)
  | nili => cases hc; exact one rfl (by cases h with | imm h => cases h; rfl)
  | ifc t y => cases hc; exact one rfl (by cases h with | imm h => (cases h; rfl) | ifc _ _ _ _ => rfl)

theorem isSc_ok {w : World} {phi : Phi} {im : Nat → Prop} {x : AV} {v : Value} (h : VR w phi im x v) (hs : isSc x = true) : v.oneCell' = true := by
  cases x with
  | undef => cases hs
  | tup _ => cases hs
  | agg l => cases hs
  | int k n => rw [h.int_inv]; rfl
  | bool b => rw [h.bool_inv]; rfl
  | str s => rw [h.str_inv]; rfl
  | nilp => rw [h.nilp_inv]; rfl
  | ip row off => cases h.ip_inv; rfl
  | mp id off => obtain ⟨b, sh, _, rfl⟩ := h.mp_inv; rfl
  | nils => rw [h.nils_inv]; rfl
  | is sz rows f => cases h.is_inv; rfl
  | ms id off len sz cap ex => obtain ⟨b, sh, o, rcap, e, n, rfl, _⟩ := h.ms_inv; rfl
  | fn f caps => obtain ⟨vs, rfl, _⟩ := h.fn_inv; rfl
  | nilf => rw [h.nilf_inv]; rfl
  | nilm => rw [h.nilm_inv]; rfl
  | mm id => obtain ⟨b, _, rfl⟩ := h.mm_inv; rfl
  | nili => cases h with | imm h => cases h; rfl
  | ifc t y => cases h with | imm h => (cases h; rfl) | ifc _ _ _ _ => rfl

/-! ### Types -/

theorem tsize_ok {P : Program} {t : TypeId} {n : Nat} (h : tsize P t = some n) (w : World) : (sizeOf t).run P w = .ok n w := by
  simp only [tsize, Option.map_eq_some_iff] at h
  obtain ⟨i, hi, rfl⟩ := h
  simp [sizeOf, typeInfo, hi]

theorem und_ok {P : Program} {t : TypeId} {d : TypeDesc} (h : P.underlying t = some d) (w : World) : (underlying t).run P w = .ok d w := by
  simp [underlying, h]

theorem tagg_ok {P : Program} {t : TypeId} {b : Bool} (h : tagg P t = some b) (w : World) : (isAgg t).run P w = .ok b w := by
  simp only [tagg, Option.map_eq_some_iff] at h
  obtain ⟨d, hd, rfl⟩ := h
  simp only [isAgg, Sem.run_bind, und_ok hd, Result.andThen_ok]
  cases d <;> rfl

theorem zcells_ok {P : Program} {t : TypeId} {l : List AV} (h : zcells P t = some l) : ∃ z : Value, (∀ w, (zeroValue t).run P w = .ok z w) ∧ z.cells.size = l.length ∧
    ∀ (w : World) (im : Nat → Prop) (i : Nat) x, l[i]? = some x → IR w im x (z.cells.getD i Go.undef) := by
  unfold zcells at h
  split at h
  · rename_i i hi
    split at h
    · rename_i z hz
      refine ⟨z, fun w => by simp [zeroValue, typeInfo, hi, hz], by simpa using (compL_ok (w := default) (im := fun _ => True) h).1.symm, fun w im j x hx => ?_⟩
      obtain ⟨u, hu, hv⟩ := (compL_ok (w := w) (im := im) h).2 j x hx
      have : z.cells.getD j Go.undef = u := by simp [Array.getD_eq_getD_getElem?, ← Array.getElem?_toList, hu]
      rw [this]; exact hv
    · cases h
  · cases h

/-- The cells of a place, read. -/
theorem cget_ok {P : Program} {w : World} {phi : Phi} {im : Nat → Prop} {t : TypeId} {g : Bool} {size : Nat} (hg : tagg P t = some g) (hs : tsize P t = some size) {cs : List AV} {off b o : Nat}
    (hc : ∀ (j : Nat) x, cs[j]? = some x → ∃ u, w.cell? ⟨b, o + j, none⟩ = some u ∧ VR w phi im x u) {v : AV} (hv : cget g size off cs = some v) :
    ∃ rv, (loadVar t ⟨b, o + off, none⟩).run P w = .ok rv w ∧ VR w phi im v rv := by
  have hadd : ∀ j, (⟨b, o + off, none⟩ : Addr).add j = ⟨b, o + off + j, none⟩ := fun j => by unfold Addr.add; split <;> simp_all
  unfold cget at hv
  cases g with
  | true =>
    simp only [if_true] at hv
    split at hv
    · rename_i hle
      cases hv
      have hex : ∀ j, j < size → ∃ u, w.cell? ⟨b, o + off + j, none⟩ = some u ∧ ∀ x, ((cs.drop off).take size)[j]? = some x → VR w phi im x u := by
        intro j hj
        have hlt : off + j < cs.length := by omega
        obtain ⟨u, hu, hr⟩ := hc (off + j) _ (List.getElem?_eq_getElem hlt)
        refine ⟨u, by rw [Nat.add_assoc]; exact hu, fun x hx => ?_⟩
        rw [List.getElem?_take_of_lt hj, List.getElem?_drop, List.getElem?_eq_getElem hlt] at hx
        cases hx; exact hr
      let f : Nat → Value := fun j => (w.cell? ⟨b, o + off + j, none⟩).getD Go.undef
      have hf : ∀ j, j < size → w.cell? ⟨b, o + off + j, none⟩ = some (f j) := fun j hj => by
        obtain ⟨u, hu, _⟩ := hex j hj
        simp [f, hu]
      refine ⟨.agg ((List.range size).map f).toArray, ?_, .agg _ _ (by simp; omega) fun i x hx => ?_⟩
      · simp only [loadVar, Sem.run_bind, tagg_ok hg, Result.andThen_ok, if_true, tsize_ok hs, run_loadCells w _ size f (fun j hj => by rw [hadd]; exact hf j hj)]
        rfl
      · have hi : i < size := by
          rcases Nat.lt_or_ge i size with q | q
          · exact q
          · rw [List.getElem?_eq_none (by simp; omega)] at hx; cases hx
        obtain ⟨u, hu, hr⟩ := hex i hi
        have : ((List.range size).map f).toArray.getD i Go.undef = u := by simp [Array.getD_eq_getD_getElem?, hi, f, hu]
        rw [this]; exact hr x hx
    · cases hv
  | false =>
    simp only [Bool.false_eq_true, if_false] at hv
    obtain ⟨u, hu, hr⟩ := hc off v hv
    exact ⟨u, by simp [loadVar, tagg_ok hg, hu], hr⟩

/-- The cells of a block of the run's own. -/
theorem SR.cell {w : World} {phi : Phi} {im : Nat → Prop} {h : Heap} (s : SR w phi im h) {id : Nat} {cs : List AV} (hi : h[id]? = some (.cells cs)) {b sh : Nat} (hp : phi id = some (b, sh)) (j : Nat) (x : AV) (hj : cs[j]? = some x) :
    ∃ u, w.cell? ⟨b, sh + j, none⟩ = some u ∧ VR w phi im x u := by
  obtain ⟨b', sh', c, e, fz, h1, h2, h3, h4, h5⟩ := s.cells id cs hi
  rw [hp] at h1
  cases h1
  have hlt := set_lt hj
  refine ⟨c.getD (sh + j) Go.undef, ?_, h4 j x hj⟩
  have hl : sh + j < c.size := by omega
  simp only [World.cell?, h2]
  simp [Array.getD_eq_getD_getElem?, hl]

end Go.AM
