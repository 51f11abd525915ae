/- The abstract machine: how its values and its memory stand to the real ones. -/
import Derived.Test.YtlmgkbdcpaojlaaAmA
import Derived.Below
namespace Go.AM

/-- A value that leads to immutable blocks alone ('im' holds of them). -/
inductive IR (w : World) (im : Nat → Prop) : AV → Value → Prop
  | undef (v : Value) : IR w im .undef v
  | int (k : IntKind) (n : Int) : IR w im (.int k n) (.int k n)
  | bool (b : Bool) : IR w im (.bool b) (.bool b)
  | str (s : List UInt8) : IR w im (.str s) (.string ⟨s.toArray⟩)
  | nilp : IR w im .nilp (.pointer none)
  | ip (row : List AV) (off b o : Nat) (vs : Nat → Value) (hb : im b) (ho : off ≤ o)
      (hc : ∀ j x, row[j]? = some x → w.cell? ⟨b, o - off + j, none⟩ = some (vs j))
      (hr : ∀ j x, row[j]? = some x → IR w im x (vs j)) : IR w im (.ip row off) (.pointer (some ⟨b, o, none⟩))
  | nils : IR w im .nils (.slice none 0 0)
  | is (sz : Nat) (rows : List (List AV)) (full : Bool) (ad : Addr) (b o cap : Nat) (vs : Nat → Nat → Value) (hb : 0 < cap → ad = ⟨b, o, none⟩ ∧ im b)
      (hz : ∀ row ∈ rows, row.length = sz) (hl : rows.length ≤ cap) (hf : full = true → cap = rows.length)
      (hc : ∀ i row j x, rows[i]? = some row → row[j]? = some x → w.cell? ⟨b, o + i * sz + j, none⟩ = some (vs i j))
      (hr : ∀ i row j x, rows[i]? = some row → row[j]? = some x → IR w im x (vs i j)) : IR w im (.is sz rows full) (.slice (some ad) rows.length cap)
  | fn (f : Nat) (caps : List AV) (vs : Array Value) (hn : vs.size = caps.length) (hr : ∀ (i : Nat) x, caps[i]? = some x → IR w im x (vs.getD i Go.undef)) : IR w im (.fn f caps) (.func (.func f) #[] vs)
  | nilf : IR w im .nilf .nilFunc
  | nilm : IR w im .nilm (.map none)
  | nili : IR w im .nili .nilIface
  | ifc (t : Nat) (x : AV) (v : Value) (hr : IR w im x v) : IR w im (.ifc t x) (.iface t v)
  | agg (cs : List AV) (vs : Array Value) (hn : vs.size = cs.length) (hr : ∀ (i : Nat) x, cs[i]? = some x → IR w im x (vs.getD i Go.undef)) : IR w im (.agg cs) (.agg vs)
  | tup (cs : List AV) (vs : Array Value) (hn : vs.size = cs.length) (hr : ∀ (i : Nat) x, cs[i]? = some x → IR w im x (vs.getD i Go.undef)) : IR w im (.tup cs) (.tuple vs)

abbrev Phi := Nat → Option (Nat × Nat)

/-- A value of the run: 'phi' tells where the run's own blocks lie. -/
inductive VR (w : World) (phi : Phi) (im : Nat → Prop) : AV → Value → Prop
  | imm {x : AV} {v : Value} (h : IR w im x v) : VR w phi im x v
  | mp (id off b sh : Nat) (h : phi id = some (b, sh)) : VR w phi im (.mp id off) (.pointer (some ⟨b, sh + off, none⟩))
  | ms (id off len sz cap : Nat) (ex : Bool) (b sh o rcap : Nat) (e : TypeId) (n : Nat) (h : phi id = some (b, sh)) (ho : 0 < rcap → o = sh + off)
      (hs : w.shape? b = some (e, n)) (hn : o + rcap * sz ≤ n) (hc : cap ≤ rcap) (hx : ex = true → rcap = cap) (hl : len ≤ cap) :
      VR w phi im (.ms id off len sz cap ex) (.slice (some ⟨b, o, none⟩) len rcap)
  | mm (id b : Nat) (h : phi id = some (b, 0)) : VR w phi im (.mm id) (.map (some b))
  | fn (f : Nat) (caps : List AV) (vs : Array Value) (hn : vs.size = caps.length) (hr : ∀ (i : Nat) x, caps[i]? = some x → VR w phi im x (vs.getD i Go.undef)) : VR w phi im (.fn f caps) (.func (.func f) #[] vs)
  | ifc (t : Nat) (x : AV) (v : Value) (hr : VR w phi im x v) : VR w phi im (.ifc t x) (.iface t v)
  | agg (cs : List AV) (vs : Array Value) (hn : vs.size = cs.length) (hr : ∀ (i : Nat) x, cs[i]? = some x → VR w phi im x (vs.getD i Go.undef)) : VR w phi im (.agg cs) (.agg vs)
  | tup (cs : List AV) (vs : Array Value) (hn : vs.size = cs.length) (hr : ∀ (i : Nat) x, cs[i]? = some x → VR w phi im x (vs.getD i Go.undef)) : VR w phi im (.tup cs) (.tuple vs)

theorem IR.mono {w w' : World} {im im' : Nat → Prop} (hh : ∀ b, im b → w'.heap[b]? = w.heap[b]?) (hi : ∀ b, im b → im' b) {x : AV} {v : Value} (h : IR w im x v) : IR w' im' x v := by
  have cell : ∀ b o, im b → w'.cell? ⟨b, o, none⟩ = w.cell? ⟨b, o, none⟩ := fun b o hb => by simp [World.cell?, hh b hb]
  induction h with
  | undef v => exact .undef v
  | int k n => exact .int k n
  | bool b => exact .bool b
  | str s => exact .str s
  | nilp => exact .nilp
  | ip row off b o vs hb ho hc hr ih => exact .ip row off b o vs (hi b hb) ho (fun j x hj => by rw [cell b _ hb]; exact hc j x hj) ih
  | nils => exact .nils
  | is sz rows full ad b o cap vs hb hz hl hf hc hr ih => exact .is sz rows full ad b o cap vs (fun h => ⟨(hb h).1, hi b (hb h).2⟩) hz hl hf (fun i row j x h1 h2 => by rw [cell b _ (hb (by have := (List.getElem?_eq_some_iff.1 h1).1; omega)).2]; exact hc i row j x h1 h2) ih
  | fn f caps vs hn hr ih => exact .fn f caps vs hn ih
  | nilf => exact .nilf
  | nilm => exact .nilm
  | nili => exact .nili
  | ifc t x v hr ih => exact .ifc t x v ih
  | agg cs vs hn hr ih => exact .agg cs vs hn ih
  | tup cs vs hn hr ih => exact .tup cs vs hn ih

theorem VR.mono {w w' : World} {phi phi' : Phi} {im im' : Nat → Prop} (hh : ∀ b, im b → w'.heap[b]? = w.heap[b]?) (hs : ∀ b s, w.shape? b = some s → w'.shape? b = some s)
    (hp : ∀ id p, phi id = some p → phi' id = some p) (hi : ∀ b, im b → im' b) {x : AV} {v : Value} (h : VR w phi im x v) : VR w' phi' im' x v := by
  induction h with
  | imm h => exact .imm (h.mono hh hi)
  | mp id off b sh h => exact .mp id off b sh (hp _ _ h)
  | ms id off len sz cap ex b sh o rcap e n h ho hs' hn hc hx hl => exact .ms id off len sz cap ex b sh o rcap e n (hp _ _ h) ho (hs _ _ hs') hn hc hx hl
  | mm id b h => exact .mm id b (hp _ _ h)
  | fn f caps vs hn hr ih => exact .fn f caps vs hn ih
  | ifc t x v hr ih => exact .ifc t x v ih
  | agg cs vs hn hr ih => exact .agg cs vs hn ih
  | tup cs vs hn hr ih => exact .tup cs vs hn ih

def img (phi : Phi) (b : Nat) : Prop := ∃ id p, phi id = some p ∧ p.1 = b

def live (h : Heap) (i : Nat) : Prop := ∃ b, h[i]? = some b ∧ ((∃ cs, b = .cells cs) ∨ ∃ es c, b = .map es c)

/-- The machine's memory stands for the real one. -/
structure SR (w : World) (phi : Phi) (im : Nat → Prop) (h : Heap) : Prop where
  dom : ∀ id p, phi id = some p → ∃ b, h[id]? = some b ∧ b.isFree = false
  lt : ∀ id p, phi id = some p → p.1 < w.heap.size
  imlt : ∀ b, im b → b < w.heap.size
  disj : ∀ b, img phi b → ¬ im b
  cells : ∀ (id : Nat) cs, h[id]? = some (.cells cs) → ∃ b sh c e fz, phi id = some (b, sh) ∧ w.heap[b]? = some (.cells c e fz) ∧ sh + cs.length ≤ c.size ∧
    (∀ (j : Nat) x, cs[j]? = some x → VR w phi im x (c.getD (sh + j) Go.undef)) ∧ (∀ j, j < c.size → ¬ (fz.1 ≤ j ∧ j < fz.2))
  map : ∀ (id : Nat) es ck, h[id]? = some (.map es ck) → ∃ b res, phi id = some (b, 0) ∧ w.heap[b]? = some (.map res ck) ∧ res.size = es.length ∧
    (∀ (j : Nat) k v t, es[j]? = some (k, v, t) → ∃ e, res[j]? = some e ∧ VR w phi im k e.key ∧ VR w phi im v e.val ∧ e.born = t)
  inj : ∀ i j p q, live h i → live h j → phi i = some p → phi j = some q → p.1 = q.1 → i = j

/-- From one state to a later one. -/
structure Post (w : World) (phi : Phi) (im : Nat → Prop) (w' : World) (phi' : Phi) (im' : Nat → Prop) : Prop where
  os : w'.os = w.os
  tape : w'.tape = w.tape
  output : w'.output = w.output
  size : w.heap.size ≤ w'.heap.size
  keep : ∀ b, b < w.heap.size → ¬ img phi b → w'.heap[b]? = w.heap[b]?
  shape : ∀ b s, w.shape? b = some s → w'.shape? b = some s
  ext : ∀ id p, phi id = some p → phi' id = some p
  new : ∀ b, img phi' b → img phi b ∨ w.heap.size ≤ b
  imext : ∀ b, im b → im' b
  imnew : ∀ b, im' b → im b ∨ w.heap.size ≤ b

theorem Post.refl (w : World) (phi : Phi) (im : Nat → Prop) : Post w phi im w phi im :=
  ⟨rfl, rfl, rfl, Nat.le_refl _, fun _ _ _ => rfl, fun _ _ h => h, fun _ _ h => h, fun _ h => .inl h, fun _ h => h, fun _ h => .inl h⟩

theorem Post.trans {w w1 w2 : World} {phi phi1 phi2 : Phi} {im im1 im2 : Nat → Prop} (a : Post w phi im w1 phi1 im1) (b : Post w1 phi1 im1 w2 phi2 im2) : Post w phi im w2 phi2 im2 where
  os := b.os.trans a.os
  tape := b.tape.trans a.tape
  output := b.output.trans a.output
  size := Nat.le_trans a.size b.size
  keep k hk hn := (b.keep k (Nat.lt_of_lt_of_le hk a.size) fun hi => (a.new k hi).elim hn (fun h => absurd hk (Nat.not_lt.2 h))).trans (a.keep k hk hn)
  shape k s h := b.shape k s (a.shape k s h)
  ext id p h := b.ext id p (a.ext id p h)
  new k h := (b.new k h).elim (a.new k) (fun h => .inr (Nat.le_trans a.size h))
  imext k h := b.imext k (a.imext k h)
  imnew k h := (b.imnew k h).elim (a.imnew k) (fun h => .inr (Nat.le_trans a.size h))

/-- A draw turns nothing. -/
theorem Post.drew (w : World) (phi : Phi) (im : Nat → Prop) (n : Nat) : Post w phi im { w with drawn := n } phi im :=
  ⟨rfl, rfl, rfl, Nat.le_refl _, fun _ _ _ => rfl, fun _ _ h => h, fun _ _ h => h, fun _ h => .inl h, fun _ h => h, fun _ h => .inl h⟩

theorem IR.heap {w w' : World} {im : Nat → Prop} (h : w'.heap = w.heap) {x : AV} {v : Value} (r : IR w im x v) : IR w' im x v := r.mono (fun b _ => by rw [h]) fun _ h => h
theorem VR.heap {w w' : World} {phi : Phi} {im : Nat → Prop} (h : w'.heap = w.heap) {x : AV} {v : Value} (r : VR w phi im x v) : VR w' phi im x v :=
  r.mono (fun b _ => by rw [h]) (fun b s hs => by simpa [World.shape?, h] using hs) (fun _ _ h => h) fun _ h => h

theorem SR.heap {w w' : World} {phi : Phi} {im : Nat → Prop} {h : Heap} (e : w'.heap = w.heap) (s : SR w phi im h) : SR w' phi im h where
  dom := s.dom
  lt id p hp := by rw [e]; exact s.lt id p hp
  imlt b hb := by rw [e]; exact s.imlt b hb
  disj := s.disj
  cells id cs hc := by
    obtain ⟨b, sh, c, el, fz, h1, h2, h3, h4, h5⟩ := s.cells id cs hc
    exact ⟨b, sh, c, el, fz, h1, by rw [e]; exact h2, h3, fun j x hj => (h4 j x hj).heap e, h5⟩
  map id es ck hm := by
    obtain ⟨b, res, h1, h2, h3, h4⟩ := s.map id es ck hm
    refine ⟨b, res, h1, by rw [e]; exact h2, h3, fun j k v t hj => ?_⟩
    obtain ⟨x, g1, g2, g3, g4⟩ := h4 j k v t hj
    exact ⟨x, g1, g2.heap e, g3.heap e, g4⟩
  inj := s.inj

/-- Values told of the earlier state hold of the later one. -/
theorem SR.mono {w w' : World} {phi phi' : Phi} {im im' : Nat → Prop} {h : Heap} (s : SR w phi im h) (p : Post w phi im w' phi' im') {x : AV} {v : Value} (r : VR w phi im x v) : VR w' phi' im' x v :=
  r.mono (fun b hb => p.keep b (s.imlt b hb) fun hi => s.disj b hi hb) p.shape p.ext p.imext

theorem SR.imono {w w' : World} {phi phi' : Phi} {im im' : Nat → Prop} {h : Heap} (s : SR w phi im h) (p : Post w phi im w' phi' im') {x : AV} {v : Value} (r : IR w im x v) : IR w' im' x v :=
  r.mono (fun b hb => p.keep b (s.imlt b hb) fun hi => s.disj b hi hb) p.imext

theorem live_set {h : Heap} {id : Nat} {b : Blk} {i : Nat} (hl : live (h.set id b) i) : i = id ∨ live h i := by
  obtain ⟨c, hc, hk⟩ := hl
  rw [List.getElem?_set] at hc
  by_cases e : id = i
  · exact .inl e.symm
  · rw [if_neg e] at hc
    exact .inr ⟨c, hc, hk⟩

/-- A new block. -/
theorem SR.new {w : World} {phi : Phi} {im : Nat → Prop} {h : Heap} (s : SR w phi im h) {slot : Nat} {b0 : Blk} (hs : h[slot]? = some b0) (hf : b0.isFree = true)
    {w' : World} {c : Array Value} {e : TypeId} {fz : Nat × Nat} (hw : w'.heap = w.heap.push (.cells c e fz)) (h1 : w'.os = w.os) (h2 : w'.tape = w.tape) (h3 : w'.output = w.output)
    {cs : List AV} (hl : cs.length ≤ c.size) (hv : ∀ (j : Nat) x, cs[j]? = some x → VR w phi im x (c.getD j Go.undef)) (hz : ∀ j, j < c.size → ¬ (fz.1 ≤ j ∧ j < fz.2)) :
    SR w' (fun i => if i = slot then some (w.heap.size, 0) else phi i) im (h.set slot (.cells cs)) ∧
    Post w phi im w' (fun i => if i = slot then some (w.heap.size, 0) else phi i) im := by
  have hno : phi slot = none := by
    cases hp : phi slot with
    | none => rfl
    | some p =>
      obtain ⟨b, hb, hb'⟩ := s.dom slot p hp
      rw [hs] at hb
      cases hb
      rw [hf] at hb'
      exact absurd hb' (by simp)
  have hlt : slot < h.length := by
    rcases Nat.lt_or_ge slot h.length with g | g
    · exact g
    · rw [List.getElem?_eq_none g] at hs; cases hs
  have hpost : Post w phi im w' (fun i => if i = slot then some (w.heap.size, 0) else phi i) im := by
    refine ⟨h1, h2, h3, by rw [hw]; simp, ?_, ?_, ?_, ?_, fun _ h => h, fun _ h => .inl h⟩
    · intro b hb _
      rw [hw, Array.getElem?_push, if_neg (by omega)]
    · intro b t ht
      have hb : b < w.heap.size := by
        rcases Nat.lt_or_ge b w.heap.size with g | g
        · exact g
        · simp [World.shape?, Array.getElem?_eq_none g] at ht
      simpa [World.shape?, hw, Array.getElem?_push, if_neg (show ¬ b = w.heap.size by omega)] using ht
    · intro id p hp
      have hne : id ≠ slot := fun q => by rw [q, hno] at hp; cases hp
      simp only [if_neg hne]; exact hp
    · rintro b ⟨id, p, hp, rfl⟩
      by_cases q : id = slot
      · simp only [if_pos q, Option.some.injEq] at hp
        exact .inr (by rw [← hp]; exact Nat.le_refl _)
      · simp only [if_neg q] at hp
        exact .inl ⟨id, p, hp, rfl⟩
  refine ⟨⟨?_, ?_, ?_, ?_, ?_, ?_, ?_⟩, hpost⟩
  · intro id p hp
    by_cases q : id = slot
    · exact ⟨.cells cs, by rw [q, List.getElem?_set_self hlt], rfl⟩
    · simp only [if_neg q] at hp
      obtain ⟨b, hb, hb'⟩ := s.dom id p hp
      exact ⟨b, by rw [List.getElem?_set_ne (Ne.symm q)]; exact hb, hb'⟩
  · intro id p hp
    rw [hw, Array.size_push]
    by_cases q : id = slot
    · simp only [if_pos q, Option.some.injEq] at hp
      rw [← hp]; exact Nat.lt_succ_self _
    · simp only [if_neg q] at hp
      exact Nat.lt_succ_of_lt (s.lt id p hp)
  · intro b hb
    rw [hw, Array.size_push]
    exact Nat.lt_succ_of_lt (s.imlt b hb)
  · rintro b ⟨id, p, hp, rfl⟩ hb
    by_cases q : id = slot
    · simp only [if_pos q, Option.some.injEq] at hp
      rw [← hp] at hb
      exact absurd (s.imlt _ hb) (Nat.lt_irrefl _)
    · simp only [if_neg q] at hp
      exact s.disj _ ⟨id, p, hp, rfl⟩ hb
  · intro id cs' hc
    by_cases q : id = slot
    · subst q
      rw [List.getElem?_set_self hlt] at hc
      cases hc
      exact ⟨w.heap.size, 0, c, e, fz, by simp, by rw [hw]; simp, by omega, fun j x hj => by rw [Nat.zero_add]; exact s.mono hpost (hv j x hj), hz⟩
    · rw [List.getElem?_set_ne (Ne.symm q)] at hc
      obtain ⟨b, sh, c', e', fz', g1, g2, g3, g4, g5⟩ := s.cells id cs' hc
      exact ⟨b, sh, c', e', fz', by simp only [if_neg q]; exact g1, by rw [hw, Array.getElem?_push, if_neg (by have := s.lt id _ g1; simp at this; omega)]; exact g2, g3, fun j x hj => s.mono hpost (g4 j x hj), g5⟩
  · intro id es ck hc
    by_cases q : id = slot
    · subst q
      rw [List.getElem?_set_self hlt] at hc
      cases hc
    · rw [List.getElem?_set_ne (Ne.symm q)] at hc
      obtain ⟨b, res, g1, g2, g3, g4⟩ := s.map id es ck hc
      refine ⟨b, res, by simp only [if_neg q]; exact g1, by rw [hw, Array.getElem?_push, if_neg (by have := s.lt id _ g1; simp at this; omega)]; exact g2, g3, fun j k v t hj => ?_⟩
      obtain ⟨x, x1, x2, x3, x4⟩ := g4 j k v t hj
      exact ⟨x, x1, s.mono hpost x2, s.mono hpost x3, x4⟩
  · intro i j p q li lj hp hq he
    by_cases gi : i = slot
    · by_cases gj : j = slot
      · rw [gi, gj]
      · simp only [if_pos gi, Option.some.injEq] at hp
        simp only [if_neg gj] at hq
        have := s.lt j q hq
        rw [← he, ← hp] at this
        exact absurd this (Nat.lt_irrefl _)
    · by_cases gj : j = slot
      · simp only [if_neg gi] at hp
        simp only [if_pos gj, Option.some.injEq] at hq
        have := s.lt i p hp
        rw [he, ← hq] at this
        exact absurd this (Nat.lt_irrefl _)
      · simp only [if_neg gi] at hp
        simp only [if_neg gj] at hq
        exact s.inj i j p q ((live_set li).resolve_left gi) ((live_set lj).resolve_left gj) hp hq he

theorem shape_lt {w : World} {b : Nat} {t : TypeId × Nat} (h : w.shape? b = some t) : b < w.heap.size := by
  rcases Nat.lt_or_ge b w.heap.size with g | g
  · exact g
  · simp [World.shape?, Array.getElem?_eq_none g] at h

/-- One block of cells is written; all else stays. -/
structure Wrote (w w' : World) (b : Nat) (c : Array Value) (e : TypeId) (fz : Nat × Nat) (c' : Array Value) : Prop where
  os : w'.os = w.os
  tape : w'.tape = w.tape
  output : w'.output = w.output
  size : w'.heap.size = w.heap.size
  was : w.heap[b]? = some (.cells c e fz)
  now : w'.heap[b]? = some (.cells c' e fz)
  other : ∀ k, k ≠ b → w'.heap[k]? = w.heap[k]?
  len : c'.size = c.size

theorem Wrote.shape {w w' : World} {b : Nat} {c : Array Value} {e : TypeId} {fz : Nat × Nat} {c' : Array Value} (h : Wrote w w' b c e fz c') (k : Nat) (t : TypeId × Nat) (ht : w.shape? k = some t) : w'.shape? k = some t := by
  by_cases q : k = b
  · subst q
    simp only [World.shape?, h.was, Option.some.injEq] at ht
    simp only [World.shape?, h.now, h.len]
    rw [← ht]
  · simpa [World.shape?, h.other k q] using ht

theorem Wrote.post {w w' : World} {b : Nat} {c : Array Value} {e : TypeId} {fz : Nat × Nat} {c' : Array Value} (h : Wrote w w' b c e fz c') {phi : Phi} (im : Nat → Prop) (hb : img phi b) : Post w phi im w' phi im :=
  ⟨h.os, h.tape, h.output, by rw [h.size]; exact Nat.le_refl _, fun k _ hn => h.other k fun q => hn (q ▸ hb), h.shape, fun _ _ h => h, fun _ h => .inl h, fun _ h => h, fun _ h => .inl h⟩

theorem set_lt {α : Type} {h : List α} {id : Nat} {b : α} (hs : h[id]? = some b) : id < h.length := by
  rcases Nat.lt_or_ge id h.length with g | g
  · exact g
  · rw [List.getElem?_eq_none g] at hs; cases hs

/-- A block of the run's own is written. -/
theorem SR.write {w : World} {phi : Phi} {im : Nat → Prop} {h : Heap} (s : SR w phi im h) {id : Nat} {cs0 : List AV} (hi : h[id]? = some (.cells cs0)) {b sh : Nat} (hp : phi id = some (b, sh))
    {w' : World} {c : Array Value} {e : TypeId} {fz : Nat × Nat} {c' : Array Value} (hw : Wrote w w' b c e fz c') (hz : ∀ j, j < c.size → ¬ (fz.1 ≤ j ∧ j < fz.2))
    {cs : List AV} (hl : sh + cs.length ≤ c'.size) (hv : ∀ (j : Nat) x, cs[j]? = some x → VR w phi im x (c'.getD (sh + j) Go.undef)) :
    SR w' phi im (h.set id (.cells cs)) ∧ Post w phi im w' phi im := by
  have hpost := hw.post im ⟨id, _, hp, rfl⟩
  have hlt := set_lt hi
  have hlive : live h id := ⟨_, hi, .inl ⟨_, rfl⟩⟩
  have other : ∀ i p, i ≠ id → live h i → phi i = some p → p.1 ≠ b := fun i p hne hl hq he => hne (s.inj i id p (b, sh) hl hlive hq hp he)
  refine ⟨⟨?_, ?_, ?_, s.disj, ?_, ?_, ?_⟩, hpost⟩
  · intro i p hq
    by_cases q : i = id
    · exact ⟨.cells cs, by rw [q, List.getElem?_set_self hlt], rfl⟩
    · obtain ⟨b, hb, hb'⟩ := s.dom i p hq
      exact ⟨b, by rw [List.getElem?_set_ne (Ne.symm q)]; exact hb, hb'⟩
  · intro i p hq; rw [hw.size]; exact s.lt i p hq
  · intro b hb; rw [hw.size]; exact s.imlt b hb
  · intro i cs' hc
    by_cases q : i = id
    · subst q
      rw [List.getElem?_set_self hlt] at hc
      cases hc
      exact ⟨b, sh, c', e, fz, hp, hw.now, hl, fun j x hj => s.mono hpost (hv j x hj), fun j hj => hz j (by rw [← hw.len]; exact hj)⟩
    · rw [List.getElem?_set_ne (Ne.symm q)] at hc
      obtain ⟨b2, sh2, c2, e2, fz2, g1, g2, g3, g4, g5⟩ := s.cells i cs' hc
      have hne := other i _ q ⟨_, hc, .inl ⟨_, rfl⟩⟩ g1
      exact ⟨b2, sh2, c2, e2, fz2, g1, by rw [hw.other b2 hne]; exact g2, g3, fun j x hj => s.mono hpost (g4 j x hj), g5⟩
  · intro i es ck hc
    by_cases q : i = id
    · subst q
      rw [List.getElem?_set_self hlt] at hc
      cases hc
    · rw [List.getElem?_set_ne (Ne.symm q)] at hc
      obtain ⟨b2, res, g1, g2, g3, g4⟩ := s.map i es ck hc
      have hne := other i _ q ⟨_, hc, .inr ⟨_, _, rfl⟩⟩ g1
      refine ⟨b2, res, g1, by rw [hw.other b2 hne]; exact g2, g3, fun j k v t hj => ?_⟩
      obtain ⟨x, x1, x2, x3, x4⟩ := g4 j k v t hj
      exact ⟨x, x1, s.mono hpost x2, s.mono hpost x3, x4⟩
  · intro i j p q li lj hp' hq' he
    refine s.inj i j p q ?_ ?_ hp' hq' he
    · rcases live_set li with rfl | g
      · exact hlive
      · exact g
    · rcases live_set lj with rfl | g
      · exact hlive
      · exact g

/-- A block is given up. -/
theorem SR.kill {w : World} {phi : Phi} {im : Nat → Prop} {h : Heap} (s : SR w phi im h) {id : Nat} {b0 : Blk} (hi : h[id]? = some b0) : SR w phi im (h.set id .dead) where
  dom i p hq := by
    by_cases q : i = id
    · exact ⟨.dead, by rw [q, List.getElem?_set_self (set_lt hi)], rfl⟩
    · obtain ⟨b, hb, hb'⟩ := s.dom i p hq
      exact ⟨b, by rw [List.getElem?_set_ne (Ne.symm q)]; exact hb, hb'⟩
  lt := s.lt
  imlt := s.imlt
  disj := s.disj
  cells i cs hc := by
    by_cases q : i = id
    · rw [q, List.getElem?_set_self (set_lt hi)] at hc; cases hc
    · rw [List.getElem?_set_ne (Ne.symm q)] at hc; exact s.cells i cs hc
  map i es ck hc := by
    by_cases q : i = id
    · rw [q, List.getElem?_set_self (set_lt hi)] at hc; cases hc
    · rw [List.getElem?_set_ne (Ne.symm q)] at hc; exact s.map i es ck hc
  inj i j p q li lj := by
    have dead : ∀ k, live (h.set id .dead) k → live h k := by
      rintro k ⟨b, hb, hk⟩
      by_cases q : k = id
      · rw [q, List.getElem?_set_self (set_lt hi)] at hb
        cases hb
        rcases hk with ⟨_, g⟩ | ⟨_, _, g⟩ <;> cases g
      · rw [List.getElem?_set_ne (Ne.symm q)] at hb
        exact ⟨b, hb, hk⟩
    exact s.inj i j p q (dead i li) (dead j lj)

theorem not_live_dead {h : Heap} {id : Nat} {b0 : Blk} (hi : h[id]? = some b0) : ¬ live (h.set id .dead) id := by
  rintro ⟨b, hb, hk⟩
  rw [List.getElem?_set_self (set_lt hi)] at hb
  cases hb
  rcases hk with ⟨_, g⟩ | ⟨_, _, g⟩ <;> cases g

/-- A slot takes over a block that no living one has. -/
theorem SR.adopt {w : World} {phi : Phi} {im : Nat → Prop} {h : Heap} (s : SR w phi im h) {slot : Nat} {b0 : Blk} (hs : h[slot]? = some b0) (hf : b0.isFree = true)
    {b : Nat} (hb : img phi b) (hn : ∀ i p, live h i → phi i = some p → p.1 ≠ b) {w' : World} {c : Array Value} {e : TypeId} {fz : Nat × Nat} {c' : Array Value} (hw : Wrote w w' b c e fz c')
    (hz : ∀ j, j < c.size → ¬ (fz.1 ≤ j ∧ j < fz.2)) {sh : Nat} {cs : List AV} (hl : sh + cs.length ≤ c'.size) (hv : ∀ (j : Nat) x, cs[j]? = some x → VR w phi im x (c'.getD (sh + j) Go.undef)) :
    SR w' (fun i => if i = slot then some (b, sh) else phi i) im (h.set slot (.cells cs)) ∧
    Post w phi im w' (fun i => if i = slot then some (b, sh) else phi i) im := by
  have hno : phi slot = none := by
    cases hp : phi slot with
    | none => rfl
    | some p =>
      obtain ⟨b, hb, hb'⟩ := s.dom slot p hp
      rw [hs] at hb
      cases hb
      rw [hf] at hb'
      exact absurd hb' (by simp)
  have hlt := set_lt hs
  have hblt : b < w.heap.size := by
    obtain ⟨id, p, hp, rfl⟩ := hb
    exact s.lt id p hp
  have himg : ∀ k, img (fun i => if i = slot then some (b, sh) else phi i) k → img phi k := by
    rintro k ⟨id, p, hp, rfl⟩
    by_cases q : id = slot
    · simp only [if_pos q, Option.some.injEq] at hp
      rw [← hp]; exact hb
    · simp only [if_neg q] at hp
      exact ⟨id, p, hp, rfl⟩
  have hpost : Post w phi im w' (fun i => if i = slot then some (b, sh) else phi i) im := by
    have p0 := hw.post im hb
    refine ⟨hw.os, hw.tape, hw.output, p0.size, p0.keep, p0.shape, ?_, fun k hk => .inl (himg k hk), fun _ h => h, fun _ h => .inl h⟩
    intro id p hp
    have hne : id ≠ slot := fun q => by rw [q, hno] at hp; cases hp
    simp only [if_neg hne]; exact hp
  refine ⟨⟨?_, ?_, ?_, fun k hk => s.disj k (himg k hk), ?_, ?_, ?_⟩, hpost⟩
  · intro id p hp
    by_cases q : id = slot
    · exact ⟨.cells cs, by rw [q, List.getElem?_set_self hlt], rfl⟩
    · simp only [if_neg q] at hp
      obtain ⟨b, hb, hb'⟩ := s.dom id p hp
      exact ⟨b, by rw [List.getElem?_set_ne (Ne.symm q)]; exact hb, hb'⟩
  · intro id p hp
    rw [hw.size]
    by_cases q : id = slot
    · simp only [if_pos q, Option.some.injEq] at hp
      rw [← hp]; exact hblt
    · simp only [if_neg q] at hp
      exact s.lt id p hp
  · intro k hk; rw [hw.size]; exact s.imlt k hk
  · intro id cs' hc
    by_cases q : id = slot
    · subst q
      rw [List.getElem?_set_self hlt] at hc
      cases hc
      exact ⟨b, sh, c', e, fz, by simp, hw.now, hl, fun j x hj => s.mono hpost (hv j x hj), fun j hj => hz j (by rw [← hw.len]; exact hj)⟩
    · rw [List.getElem?_set_ne (Ne.symm q)] at hc
      obtain ⟨b2, sh2, c2, e2, fz2, g1, g2, g3, g4, g5⟩ := s.cells id cs' hc
      exact ⟨b2, sh2, c2, e2, fz2, by simp only [if_neg q]; exact g1, by rw [hw.other b2 (hn id _ ⟨_, hc, .inl ⟨_, rfl⟩⟩ g1)]; exact g2, g3, fun j x hj => s.mono hpost (g4 j x hj), g5⟩
  · intro id es ck hc
    by_cases q : id = slot
    · subst q
      rw [List.getElem?_set_self hlt] at hc
      cases hc
    · rw [List.getElem?_set_ne (Ne.symm q)] at hc
      obtain ⟨b2, res, g1, g2, g3, g4⟩ := s.map id es ck hc
      refine ⟨b2, res, by simp only [if_neg q]; exact g1, by rw [hw.other b2 (hn id _ ⟨_, hc, .inr ⟨_, _, rfl⟩⟩ g1)]; exact g2, g3, fun j k v t hj => ?_⟩
      obtain ⟨x, x1, x2, x3, x4⟩ := g4 j k v t hj
      exact ⟨x, x1, s.mono hpost x2, s.mono hpost x3, x4⟩
  · intro i j p q li lj hp hq he
    by_cases gi : i = slot
    · by_cases gj : j = slot
      · rw [gi, gj]
      · simp only [if_pos gi, Option.some.injEq] at hp
        simp only [if_neg gj] at hq
        exact absurd (by rw [← he, ← hp]) (hn j q ((live_set lj).resolve_left gj) hq)
    · by_cases gj : j = slot
      · simp only [if_neg gi] at hp
        simp only [if_pos gj, Option.some.injEq] at hq
        exact absurd (by rw [he, ← hq]) (hn i p ((live_set li).resolve_left gi) hp)
      · simp only [if_neg gi] at hp
        simp only [if_neg gj] at hq
        exact s.inj i j p q ((live_set li).resolve_left gi) ((live_set lj).resolve_left gj) hp hq he

end Go.AM
