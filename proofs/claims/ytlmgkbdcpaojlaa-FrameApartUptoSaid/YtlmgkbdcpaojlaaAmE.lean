/- The abstract machine: what an operation answers is what the model's operation answers. Second part: operations on memory that is built, read and written. -/
import Derived.Test.YtlmgkbdcpaojlaaAmD
namespace Go.AM

theorem run_new {slot : Nat} {b : Blk} {k : HC} {h : Heap} {r : AV × Heap} (hr : (HC.new b k).run slot h = some r) : ∃ b0, h[slot]? = some b0 ∧ b0.isFree = true ∧ k.run slot (h.set slot b) = some r := by
  simp only [HC.run] at hr
  split at hr
  · rename_i b0 h0
    split at hr
    · rename_i hf; exact ⟨b0, h0, hf, hr⟩
    · cases hr
  · cases hr

theorem run_rd {slot id : Nat} {k : Blk → HC} {h : Heap} {r : AV × Heap} (hr : (HC.rd id k).run slot h = some r) : ∃ b, h[id]? = some b ∧ b.isFree = false ∧ (k b).run slot h = some r := by
  simp only [HC.run] at hr
  split at hr
  · rename_i b h0
    split at hr
    · cases hr
    · rename_i hf; exact ⟨b, h0, by simpa using hf, hr⟩
  · cases hr

theorem run_wr {slot id : Nat} {b : Blk} {k : HC} {h : Heap} {r : AV × Heap} (hr : (HC.wr id b k).run slot h = some r) : ∃ b0, h[id]? = some b0 ∧ b0.isFree = false ∧ k.run slot (h.set id b) = some r := by
  simp only [HC.run] at hr
  split at hr
  · rename_i b0 h0
    split at hr
    · cases hr
    · rename_i hf; exact ⟨b0, h0, by simpa using hf, hr⟩
  · cases hr

theorem run_done {slot : Nat} {v : AV} {h : Heap} {r : AV × Heap} (hr : (HC.done v).run slot h = some r) : r = (v, h) := by
  simp only [HC.run, Option.some.injEq] at hr; exact hr.symm

theorem run_ofOpt {slot : Nat} {x : Option AV} {h : Heap} {r : AV × Heap} (hr : (HC.ofOpt x).run slot h = some r) : ∃ v, x = some v ∧ r = (v, h) := by
  cases x with
  | none => simp [HC.ofOpt, HC.run] at hr
  | some v => exact ⟨v, rfl, run_done hr⟩

section
variable {P : Program} {o : Oper} {a : Act} {w : World} {phi : Phi} {im : Nat → Prop} {h : Heap} {env : Env} {slot : Nat} {v : AV} {h' : Heap}

/-- An operation that makes a block, and answers what leads to it. -/
theorem Good.new (s : SR w phi im h) {b0 : Blk} (hs : h[slot]? = some b0) (hf : b0.isFree = true) {w' : World} {c : Array Value} {e : TypeId} {fz : Nat × Nat} {rv : Value}
    (er : (execOp a.eval o).run P w = .ok (.value rv) w') (hw : w'.heap = w.heap.push (.cells c e fz)) (h1 : w'.os = w.os) (h2 : w'.tape = w.tape) (h3 : w'.output = w.output)
    {cs : List AV} (hl : cs.length ≤ c.size) (hv : ∀ (j : Nat) x, cs[j]? = some x → VR w phi im x (c.getD j Go.undef)) (hz : ∀ j, j < c.size → ¬ (fz.1 ≤ j ∧ j < fz.2))
    (hr : VR w' (fun i => if i = slot then some (w.heap.size, 0) else phi i) im v rv) : Good P o a w phi im v (h.set slot (.cells cs)) := by
  obtain ⟨s', p'⟩ := s.new hs hf hw h1 h2 h3 hl hv hz
  exact ⟨_, rv, w', _, er, .inl rfl, hr, s', p'⟩

theorem good_move {x : Operand} {y : AO} (ho : o.op = .move x ∨ o.op = .assign x) (hx : compO x = some y) (e : ER w phi im env a.tmps) (s : SR w phi im h) : Good P o a w phi im (ev env y) h := by
  refine .here s ?_ (compO_ok e hx)
  rcases ho with ho | ho <;> simp [execOp, ho]

theorem good_pick {x y z : Operand} {c p q : AO} (ho : o.op = .pick x y z) (hx : compO x = some c) (hy : compO y = some p) (hz : compO z = some q) (e : ER w phi im env a.tmps) (s : SR w phi im h)
    (hr : (aop slot env (.pick c p q)).run slot h = some (v, h')) : Good P o a w phi im v h' := by
  have hc := compO_ok e hx
  simp only [aop] at hr
  split at hr
  · rename_i t ht
    rw [ht] at hc
    have := hc.bool_inv
    cases run_done hr
    refine .here s (rv := if t then a.eval y else a.eval z) ?_ ?_
    · simp only [execOp, ho, this, asBool, Sem.run_bind, Sem.run_pure, Result.andThen_ok]
    · cases t
      · exact compO_ok e hz
      · exact compO_ok e hy
  · cases hr

theorem good_alloc {t : TypeId} {z : List AV} (ho : o.op = .alloc t) (hz : zcells P t = some z) (s : SR w phi im h)
    (hr : (aop slot env (.alloc z)).run slot h = some (v, h')) : Good P o a w phi im v h' := by
  obtain ⟨b0, hs, hf, hk⟩ := run_new hr
  cases run_done hk
  obtain ⟨zv, hrun, hsz, hval⟩ := zcells_ok hz
  refine Good.new s hs hf (w' := { w with heap := w.heap.push (.cells zv.cells t) }) (c := zv.cells) (e := t) (fz := (0, 0)) (rv := .pointer (some ⟨w.heap.size, 0, none⟩)) ?_ rfl rfl rfl rfl
    (by omega) (fun j x hj => .imm (hval w im j x hj)) (fun j _ => by simp) (.mp slot 0 _ 0 (by simp))
  simp [execOp, ho, Instr.alloc, hrun, newVar, newRow]

theorem good_box {t : TypeId} {x : Operand} {y : AO} (ho : o.op = .box t x) (hx : compO x = some y) (e : ER w phi im env a.tmps) (s : SR w phi im h)
    (hr : (aop slot env (.box y)).run slot h = some (v, h')) : Good P o a w phi im v h' := by
  simp only [aop] at hr
  split at hr
  · rename_i cs hcs
    obtain ⟨b0, hs, hf, hk⟩ := run_new hr
    cases run_done hk
    obtain ⟨hl, hv⟩ := cellsOf_ok (compO_ok e hx) hcs
    refine Good.new s hs hf (w' := { w with heap := w.heap.push (.cells (a.eval x).cells t) }) (c := (a.eval x).cells) (e := t) (fz := (0, 0)) (rv := .pointer (some ⟨w.heap.size, 0, none⟩)) ?_ rfl rfl rfl rfl
      (by omega) hv (fun j _ => by simp) (.mp slot 0 _ 0 (by simp))
    simp [execOp, ho, Instr.box, newVar, newRow]
  · cases hr

/-! ### Parts laid into cells -/

theorem splice_length {cs xs : List AV} {off : Nat} (h : off + xs.length ≤ cs.length) : (splice cs off xs).length = cs.length := by
  simp [splice]; omega

theorem splice_get {cs xs : List AV} {off : Nat} (h : off + xs.length ≤ cs.length) (i : Nat) :
    (splice cs off xs)[i]? = if i < off then cs[i]? else if i < off + xs.length then xs[i - off]? else cs[i]? := by
  have ht : (cs.take off).length = off := by simp; omega
  unfold splice
  rw [List.append_assoc]
  by_cases h1 : i < off
  · rw [if_pos h1, List.getElem?_append_left (by rw [ht]; exact h1), List.getElem?_take_of_lt h1]
  · rw [if_neg h1, List.getElem?_append_right (by rw [ht]; omega), ht]
    by_cases h2 : i < off + xs.length
    · rw [if_pos h2, List.getElem?_append_left (by omega)]
    · rw [if_neg h2, List.getElem?_append_right (by omega), List.getElem?_drop]
      congr 1; omega

theorem setAll (off : Nat) : ∀ (l : List Value) (k : Nat) (cells : Array Value), off + k + l.length ≤ cells.size →
    ((l.zipIdx k).foldl (fun cs (p : Value × Nat) => cs.setIfInBounds (off + p.2) p.1) cells).size = cells.size ∧
    ∀ i, ((l.zipIdx k).foldl (fun cs (p : Value × Nat) => cs.setIfInBounds (off + p.2) p.1) cells).getD i Go.undef =
      if i < off + k then cells.getD i Go.undef else if i < off + k + l.length then l.getD (i - (off + k)) Go.undef else cells.getD i Go.undef := by
  intro l
  induction l with
  | nil => intro k cells _; refine ⟨rfl, fun i => ?_⟩; simp only [List.zipIdx_nil, List.foldl_nil, List.length_nil, Nat.add_zero]; split <;> (try split) <;> first | rfl | omega
  | cons x r ih =>
    intro k cells hle
    simp only [List.length_cons] at hle
    simp only [List.zipIdx_cons, List.foldl_cons]
    obtain ⟨h1, h2⟩ := ih (k + 1) (cells.setIfInBounds (off + k) x) (by simp; omega)
    refine ⟨by rw [h1]; simp, fun i => ?_⟩
    rw [h2 i]
    have hlt : off + k < cells.size := by omega
    by_cases c1 : i < off + k
    · rw [if_pos (by omega), if_pos c1]
      simp [Array.getD_eq_getD_getElem?, show ¬ off + k = i by omega]
    · rw [if_neg c1]
      by_cases c2 : i = off + k
      · subst c2
        rw [if_pos (by omega), if_pos (by simp)]
        simp [Array.getD_eq_getD_getElem?, hlt]
      · rw [if_neg (by omega)]
        by_cases c3 : i < off + k + (r.length + 1)
        · rw [if_pos (by omega), if_pos (by simp; omega)]
          rw [show i - (off + k) = (i - (off + (k + 1))) + 1 by omega]
          simp
        · rw [if_neg (by omega), if_neg (by simp; omega)]
          simp [Array.getD_eq_getD_getElem?, show ¬ off + k = i by omega]

/-- Parts, as the model has them, against the machine's. -/
inductive Parts (w : World) (phi : Phi) (im : Nat → Prop) (env : Env) (place : Nat → Option (Nat × Nat)) : List (Nat × Value) → List (Nat × Nat × AO) → Prop
  | nil : Parts w phi im env place [] []
  | cons {i : Nat} {u : Value} {off size : Nat} {x : AO} {r : List (Nat × Value)} {l : List (Nat × Nat × AO)} (hp : place i = some (off, size)) (hv : VR w phi im (ev env x) u)
      (hr : Parts w phi im env place r l) : Parts w phi im env place ((i, u) :: r) ((off, size, x) :: l)

theorem fillp_ok {place : Nat → Option (Nat × Nat)} : ∀ {r : List (Nat × Value)} {l : List (Nat × Nat × AO)}, Parts w phi im env place r l → ∀ {cs cs' : List AV} {c : Array Value},
    c.size = cs.length → (∀ (j : Nat) x, cs[j]? = some x → VR w phi im x (c.getD j Go.undef)) → fillp env cs l = some cs' →
    ∃ c', Instr.fill place c r = some c' ∧ c'.size = cs'.length ∧ cs'.length = cs.length ∧ ∀ (j : Nat) x, cs'[j]? = some x → VR w phi im x (c'.getD j Go.undef) := by
  intro r l hp
  induction hp with
  | nil => intro cs cs' c hn hv hf; cases hf; exact ⟨c, rfl, hn, rfl, hv⟩
  | @cons i u off size x r l hpl hu hr ih =>
    intro cs cs' c hn hv hf
    simp only [fillp] at hf
    split at hf
    · cases hf
    · rename_i xs hxs
      split at hf
      · rename_i hle
        obtain ⟨hsz, hle⟩ := hle
        obtain ⟨hl, hc⟩ := cellsOf_ok hu hxs
        obtain ⟨g1, g2⟩ := setAll off u.cells.toList 0 c (by simp; omega)
        have hsl := splice_length (cs := cs) (xs := xs) (off := off) (by omega)
        obtain ⟨c', h1, h2, h3, h4⟩ := ih (cs := splice cs off xs) (cs' := cs') (c := (u.cells.toList.zipIdx).foldl (fun cs (p : Value × Nat) => cs.setIfInBounds (off + p.2) p.1) c) (by rw [g1, hn, hsl]) (fun j y hj => by
          rw [g2 j]
          rw [splice_get (by omega)] at hj
          by_cases c1 : j < off
          · rw [if_pos (by omega)]; rw [if_pos c1] at hj; exact hv j y hj
          · rw [if_neg (by omega)]; rw [if_neg c1] at hj
            by_cases c2 : j < off + xs.length
            · rw [if_pos c2] at hj
              rw [if_pos (by simp; omega)]
              have := hc _ _ hj
              simpa [Array.getD_eq_getD_getElem?] using this
            · rw [if_neg c2] at hj
              rw [if_neg (by simp; omega)]
              exact hv j y hj) hf
        refine ⟨c', ?_, h2, by rw [h3, hsl], h4⟩
        simp only [Instr.fill, hpl]
        rw [if_neg (by simp; omega)]
        rw [← h1]
        congr 1
        rw [← Array.foldl_toList, Array.toList_zipIdx]
      · cases hf

theorem compEP_ok {sz : Nat} (e : ER w phi im env a.tmps) : ∀ {l : List (Nat × Operand)} {m : List (Nat × Nat × AO)}, compEP sz l = some m →
    Parts w phi im env (fun i => some (i * sz, sz)) (l.map fun p => (p.1, a.eval p.2)) m := by
  intro l
  induction l with
  | nil => intro m h; cases h; exact .nil
  | cons p r ih =>
    intro m h
    obtain ⟨i, x⟩ := p
    simp only [compEP] at h
    split at h
    · rename_i y l' h1 h2
      cases h
      exact .cons rfl (compO_ok e h1) (ih h2)
    · cases h

theorem compFP_ok {fs : Array Field} {pl : Array (Nat × Nat)} (hpl : ∀ (i : Nat) f sz, fs[i]? = some f → tsize P f.type = some sz → pl[i]? = some (f.offset, sz)) (e : ER w phi im env a.tmps) :
    ∀ {l : List (Nat × Operand)} {m : List (Nat × Nat × AO)}, compFP P fs l = some m → Parts w phi im env (fun i => pl[i]?) (l.map fun p => (p.1, a.eval p.2)) m := by
  intro l
  induction l with
  | nil => intro m h; cases h; exact .nil
  | cons p r ih =>
    intro m h
    obtain ⟨i, x⟩ := p
    simp only [compFP] at h
    split at h
    · rename_i f hf
      split at h
      · rename_i sz y l' h1 h2 h3
        cases h
        exact .cons (hpl i f sz hf h1) (compO_ok e h2) (ih h3)
      · cases h
    · cases h

theorem run_mapM_list {α β : Type} (g : α → Sem β) (k : α → β) : ∀ (l : List α), (∀ x ∈ l, (g x).run P w = .ok (k x) w) → (l.mapM g).run P w = .ok (l.map k) w := by
  intro l
  induction l with
  | nil => intro _; simp
  | cons x r ih =>
    intro hx
    simp only [List.mapM_cons, Sem.run_bind, hx x (by simp), Result.andThen_ok, ih (fun y hy => hx y (by simp [hy])), Sem.run_pure, List.map_cons]

theorem run_mapM_array {α β : Type} (g : α → Sem β) (k : α → β) (l : Array α) (hx : ∀ x ∈ l, (g x).run P w = .ok (k x) w) : (l.mapM g).run P w = .ok (l.map k) w := by
  rw [Array.mapM_eq_mapM_toList, Sem.run_map, run_mapM_list g k l.toList (fun x hxl => hx x (Array.mem_toList_iff.1 hxl)), Result.andThen_ok]
  congr 1
  apply Array.ext'
  simp

theorem map_parts (l : Array (Nat × Operand)) : (l.map fun (i, x) => (i, a.eval x)).toList = l.toList.map fun p => (p.1, a.eval p.2) := by
  simp

theorem good_build {t : TypeId} {parts : Array (Nat × Operand)} {ao : AOp} (ho : o.op = .build t parts) (hc : compOp P (.build t parts) = some ao) (e : ER w phi im env a.tmps) (s : SR w phi im h)
    (hr : (aop slot env ao).run slot h = some (v, h')) : Good P o a w phi im v h' := by
  simp only [compOp] at hc
  split at hc
  · rename_i z fs hz hu
    split at hc
    · rename_i hall
      simp only [Option.map_eq_some_iff] at hc
      obtain ⟨m, hm, rfl⟩ := hc
      simp only [aop] at hr
      split at hr
      · rename_i cs hcs
        cases run_done hr
        obtain ⟨zv, hrun, hsz, hval⟩ := zcells_ok hz
        have hpl : (fs.mapM fun f => do pure (f.offset, ← sizeOf f.type) : Sem (Array (Nat × Nat))).run P w = .ok (fs.map fun f => (f.offset, (tsize P f.type).getD 0)) w := by
          refine run_mapM_array _ _ fs fun f hf => ?_
          have : (P.info? f.type).isSome = true := by
            rw [Array.all_eq_true_iff_forall_mem] at hall
            exact hall f hf
          obtain ⟨i, hi⟩ := Option.isSome_iff_exists.1 this
          simp [sizeOf, typeInfo, hi, tsize]
        have hp := compFP_ok (P := P) (fs := fs) (pl := fs.map fun f => (f.offset, (tsize P f.type).getD 0)) (fun i f sz hf hs => by simp [hf, hs]) e hm
        obtain ⟨c', h1, h2, h3, h4⟩ := fillp_ok hp hsz (fun j x hj => VR.imm (hval w im j x hj)) hcs
        refine .here s (rv := .agg c') ?_ (.agg _ _ h2 h4)
        simp only [execOp, ho, Instr.build, Sem.run_bind, hrun, Result.andThen_ok, und_ok hu, hpl, map_parts, h1, Sem.run_pure]
      · cases hr
    · cases hc
  · rename_i z n el hz hu
    split at hc
    · rename_i sz hs
      simp only [Option.map_eq_some_iff] at hc
      obtain ⟨m, hm, rfl⟩ := hc
      simp only [aop] at hr
      split at hr
      · rename_i cs hcs
        cases run_done hr
        obtain ⟨zv, hrun, hsz, hval⟩ := zcells_ok hz
        obtain ⟨c', h1, h2, h3, h4⟩ := fillp_ok (compEP_ok e hm) hsz (fun j x hj => VR.imm (hval w im j x hj)) hcs
        refine .here s (rv := .agg c') ?_ (.agg _ _ h2 h4)
        simp only [execOp, ho, Instr.build, Sem.run_bind, hrun, Result.andThen_ok, und_ok hu, tsize_ok hs, map_parts, h1, Sem.run_pure]
      · cases hr
    · cases hc
  · cases hc

/-! ### Repeated zeros -/

theorem repeat_length (n : Nat) (z : List AV) : (repeatCells n z).length = n * z.length := by
  simp [repeatCells]

theorem repeat_get (z : List AV) : ∀ (n i : Nat), i < n * z.length → (repeatCells n z)[i]? = z[i % z.length]? := by
  intro n
  induction n with
  | zero => intro i h; simp at h
  | succ n ih =>
    intro i h
    have e : repeatCells (n + 1) z = z ++ repeatCells n z := by simp [repeatCells, List.replicate_succ]
    rw [e]
    by_cases hi : i < z.length
    · rw [List.getElem?_append_left hi, Nat.mod_eq_of_lt hi]
    · rw [List.getElem?_append_right (by omega), ih (i - z.length) (by rw [Nat.succ_mul] at h; omega), ← Nat.mod_eq_sub_mod (by omega)]

theorem zero_array (z : Array Value) (n i : Nat) (hi : i < n) (hz : 0 < z.size) : ((Array.range n).map (z[· % z.size]!)).getD i Go.undef = z.getD (i % z.size) Go.undef := by
  have : i % z.size < z.size := Nat.mod_lt _ hz
  simp [Array.getD_eq_getD_getElem?, hi, this, getElem!_pos]

theorem zeros_ok {t : TypeId} {z : List AV} (hz : zcells P t = some z) (n : Nat) (c : Array Value) (hc : ∀ zv : Value, (∀ w, (zeroValue t).run P w = .ok zv w) → n * z.length ≠ 0 → c = (Array.range (n * z.length)).map (zv.cells[· % zv.cells.size]!))
    (j : Nat) (x : AV) (hj : (repeatCells n z)[j]? = some x) : VR w phi im x (c.getD j Go.undef) := by
  obtain ⟨zv, hrun, hsz, hval⟩ := zcells_ok hz
  have hlt : j < n * z.length := by
    rcases Nat.lt_or_ge j (n * z.length) with g | g
    · exact g
    · rw [List.getElem?_eq_none (by rw [repeat_length]; exact g)] at hj; cases hj
  rw [repeat_get z n j hlt] at hj
  have hzp : 0 < z.length := by
    rcases Nat.eq_zero_or_pos z.length with g | g
    · rw [g] at hlt; simp at hlt
    · exact g
  rw [hc zv hrun (by omega), zero_array _ _ _ hlt (by omega), hsz]
  exact .imm (hval w im _ x hj)

theorem good_buildSlice {t : TypeId} {len : Nat} {parts : Array (Nat × Operand)} {ao : AOp} (ho : o.op = .buildSlice t len parts) (hc : compOp P (.buildSlice t len parts) = some ao) (e : ER w phi im env a.tmps) (s : SR w phi im h)
    (hr : (aop slot env ao).run slot h = some (v, h')) : Good P o a w phi im v h' := by
  simp only [compOp] at hc
  split at hc
  · rename_i el hu
    split at hc
    · rename_i sz z hs hz
      split at hc
      · rename_i hcond
        obtain ⟨h1, h2, h3⟩ := hcond
        simp only [Option.map_eq_some_iff] at hc
        obtain ⟨m, hm, rfl⟩ := hc
        simp only [aop] at hr
        split at hr
        · rename_i cs hcs
          obtain ⟨b0, hsl, hf, hk⟩ := run_new hr
          cases run_done hk
          obtain ⟨zv, hrun, hsz, hval⟩ := zcells_ok hz
          obtain ⟨c', g1, g2, g3, g4⟩ := fillp_ok (c := (Array.range (len * sz)).map ((if len * sz = 0 then #[] else zv.cells)[· % (if len * sz = 0 then #[] else zv.cells).size]!)) (compEP_ok e hm) (by simp [repeat_length, h2])
            (fun j x hj => zeros_ok hz len _ (fun zv' hz' hne => by
              have hvv : zv' = zv := by have q1 := hz' w; rw [hrun w] at q1; cases q1; rfl
              subst hvv
              rw [h2] at hne ⊢
              rw [if_neg hne]) j x hj) hcs
          have hle : c'.size = len * sz := by rw [g2, g3, repeat_length, h2]
          refine Good.new s hsl hf (w' := { w with heap := w.heap.push (.cells c' el) }) (c := c') (e := el) (fz := (0, 0)) (rv := .slice (some ⟨w.heap.size, 0, none⟩) len len) ?_ rfl rfl rfl rfl
            (by omega) g4 (fun j _ => by simp) (.ms slot 0 len sz len true w.heap.size 0 0 len el c'.size (by simp) (by simp) (by simp [World.shape?]) (by omega) (Nat.le_refl _) (fun _ => rfl) (Nat.le_refl _))
          simp only [execOp, ho, Instr.buildSlice, Sem.run_bind, Result.andThen_ok, und_ok hu, tsize_ok hs, map_parts, newRow]
          rw [if_neg (by omega)]
          by_cases hne : len * sz = 0
          · simp only [hne, if_true] at g1 ⊢
            simp only [Sem.run_bind, Sem.run_pure, Result.andThen_ok, g1, run_newObj]
          · simp only [hne, if_false] at g1 ⊢
            simp only [Sem.run_bind, Sem.run_pure, Result.andThen_ok, hrun, g1, run_newObj]
        · cases hr
      · cases hc
    · cases hc
  · cases hc

end
end Go.AM
