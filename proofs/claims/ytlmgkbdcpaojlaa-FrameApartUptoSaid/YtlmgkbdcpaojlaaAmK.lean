/- The abstract machine: structs compared; texts made of bytes; and every operation at once. -/
import Derived.Test.YtlmgkbdcpaojlaaAmJ
import Derived.Laws.StructEq
namespace Go.AM

theorem eqCells_len : ∀ {ks : List CK} {xs ys : List AV} {b : Bool}, eqCells ks xs ys = some b → xs.length = ks.length ∧ ys.length = ks.length := by
  intro ks
  induction ks with
  | nil =>
    intro xs ys b h
    cases xs with
    | nil => cases ys with
      | nil => exact ⟨rfl, rfl⟩
      | cons y ys => simp [eqCells] at h
    | cons x xs => simp [eqCells] at h
  | cons k ks ih =>
    intro xs ys b h
    unfold eqCells at h
    split at h
    · rename_i hq; cases hq
    · rename_i k0 ks0 k1 a xs0 k2 c ys0 hq
      cases hq
      split at h
      · simp only [Option.map_eq_some_iff] at h
        obtain ⟨b', hb', _⟩ := h
        obtain ⟨h1, h2⟩ := ih hb'
        exact ⟨by simp [h1], by simp [h2]⟩
      · cases h
    · rename_i ks0 a xs0 c ys0 hq
      cases hq
      simp only [Option.map_eq_some_iff] at h
      obtain ⟨b', hb', _⟩ := h
      obtain ⟨h1, h2⟩ := ih hb'
      exact ⟨by simp [h1], by simp [h2]⟩
    · rename_i ks0 a xs0 c ys0 hq
      cases hq
      simp only [Option.map_eq_some_iff] at h
      obtain ⟨b', hb', _⟩ := h
      obtain ⟨h1, h2⟩ := ih hb'
      exact ⟨by simp [h1], by simp [h2]⟩
    · cases h

theorem eqCells_split : ∀ {ks l : List CK} {xs ys : List AV} {b : Bool}, eqCells (ks ++ l) xs ys = some b →
    ∃ b1 b2, eqCells ks (xs.take ks.length) (ys.take ks.length) = some b1 ∧ eqCells l (xs.drop ks.length) (ys.drop ks.length) = some b2 ∧ b = (b1 && b2) := by
  intro ks
  induction ks with
  | nil => intro l xs ys b h; exact ⟨true, b, by simp [eqCells], by simpa using h, by simp⟩
  | cons k ks ih =>
    intro l xs ys b h
    rw [List.cons_append] at h
    unfold eqCells at h
    split at h
    · rename_i hq; cases hq
    · rename_i k0 ks0 k1 a xs0 k2 c ys0 hq
      cases hq
      split at h
      · rename_i hk
        simp only [Option.map_eq_some_iff] at h
        obtain ⟨b', hb', rfl⟩ := h
        obtain ⟨b1, b2, h1, h2, rfl⟩ := ih hb'
        exact ⟨a == c && b1, b2, by simp [eqCells, hk, h1], by simpa using h2, by simp [Bool.and_assoc]⟩
      · cases h
    · rename_i ks0 a xs0 c ys0 hq
      cases hq
      simp only [Option.map_eq_some_iff] at h
      obtain ⟨b', hb', rfl⟩ := h
      obtain ⟨b1, b2, h1, h2, rfl⟩ := ih hb'
      exact ⟨a == c && b1, b2, by simp [eqCells, h1], by simpa using h2, by simp [Bool.and_assoc]⟩
    · rename_i ks0 a xs0 c ys0 hq
      cases hq
      simp only [Option.map_eq_some_iff] at h
      obtain ⟨b', hb', rfl⟩ := h
      obtain ⟨b1, b2, h1, h2, rfl⟩ := ih hb'
      exact ⟨a == c && b1, b2, by simp [eqCells, h1], by simpa using h2, by simp [Bool.and_assoc]⟩
    · cases h

section
variable {P : Program} {o : Oper} {a : Act} {w : World} {phi : Phi} {im : Nat → Prop} {h : Heap} {env : Env} {slot : Nat} {v : AV} {h' : Heap}

/-- A value of a type, told by its cells. -/
def Shaped (w : World) (phi : Phi) (im : Nat → Prop) (g : Bool) (xs : List AV) (u : Value) : Prop :=
  if g then ∃ arr : Array Value, u = .agg arr ∧ arr.size = xs.length ∧ ∀ (i : Nat) x, xs[i]? = some x → VR w phi im x (arr.getD i Go.undef)
  else ∃ x, xs = [x] ∧ VR w phi im x u

theorem shape_agg {d : Nat} {t : TypeId} {ks : List CK} (h : eqShape P d t = some ks) : (tagg P t = some false ∧ ks.length = 1) ∨ tagg P t = some true := by
  cases d with
  | zero => simp [eqShape] at h
  | succ d =>
    simp only [eqShape] at h
    split at h
    · rename_i k hu; cases h; exact .inl ⟨by simp [tagg, hu, aggD], rfl⟩
    · rename_i hu; cases h; exact .inl ⟨by simp [tagg, hu, aggD], rfl⟩
    · rename_i hu; cases h; exact .inl ⟨by simp [tagg, hu, aggD], rfl⟩
    · rename_i fs hu; exact .inr (by simp [tagg, hu, aggD])
    · cases h

theorem part_shaped {d : Nat} {t : TypeId} {ks : List CK} (h : eqShape P d t = some ks) (hs : tsize P t = some ks.length) {xs : List AV} {arr : Array Value} (hn : arr.size = xs.length)
    (hrel : ∀ (i : Nat) x, xs[i]? = some x → VR w phi im x (arr.getD i Go.undef)) {off : Nat} (hl : off + ks.length ≤ xs.length) :
    ∃ u g, tagg P t = some g ∧ (part t arr off).run P w = .ok u w ∧ Shaped w phi im g ((xs.drop off).take ks.length) u := by
  rcases shape_agg h with ⟨hg, h1⟩ | hg
  · refine ⟨arr.getD off Go.undef, false, hg, ?_, ?_⟩
    · have : arr[off]? = some (arr.getD off Go.undef) := by simp [Array.getD_eq_getD_getElem?, show off < arr.size by omega]
      simp only [part, Sem.run_bind, tagg_ok hg, Result.andThen_ok, Bool.false_eq_true, if_false, this, Sem.run_pure]
    · have hx : xs[off]? = some xs[off] := List.getElem?_eq_getElem (by omega)
      refine ⟨xs[off], ?_, hrel off _ hx⟩
      rw [h1]
      rw [List.drop_eq_getElem_cons (by omega)]
      rfl
  · obtain ⟨rv, r1, r2⟩ := part_ok (P := P) (w := w) (phi := phi) (im := im) hg hs hn hrel (off := off) (z := .agg ((xs.drop off).take ks.length)) (by simp [cget, hl])
    obtain ⟨arr', e1, e2, e3⟩ := r2.agg_inv
    exact ⟨rv, true, hg, r1, arr', e1, e2, e3⟩

theorem eq_shape : ∀ (d : Nat) (t : TypeId) (ks : List CK), eqShape P d t = some ks → ∀ D, d ≤ D → ∀ (xs ys : List AV) (u v : Value) (b : Bool) (g : Bool), eqCells ks xs ys = some b → tagg P t = some g →
    Shaped w phi im g xs u → Shaped w phi im g ys v → (Op.equalIn D t u v).run P w = .ok b w := by
  intro d
  induction d with
  | zero => intro t ks h; simp [eqShape] at h
  | succ d ih =>
    intro t ks h D hD xs ys u v b g hb hg hu hv
    obtain ⟨D, rfl⟩ : ∃ D', D = D' + 1 := ⟨D - 1, by omega⟩
    simp only [eqShape] at h
    split at h
    · rename_i k hut
      cases h
      have hg' : g = false := by simpa [tagg, hut, aggD] using hg.symm
      subst hg'
      obtain ⟨x, rfl, hx⟩ := hu
      obtain ⟨y, rfl, hy⟩ := hv
      cases x with
      | int k1 n1 =>
        cases y with
        | int k2 n2 =>
          simp only [eqCells] at hb
          split at hb
          · rename_i hk
            obtain ⟨rfl, rfl⟩ := hk
            simp at hb
            subst hb
            rw [hx.int_inv, hy.int_inv]
            simp only [Op.equalIn, Sem.run_bind, und_ok hut, Result.andThen_ok, if_true, Sem.run_pure]
          · cases hb
        | _ => simp [eqCells] at hb
      | _ => simp [eqCells] at hb
    · rename_i hut
      cases h
      have hg' : g = false := by simpa [tagg, hut, aggD] using hg.symm
      subst hg'
      obtain ⟨x, rfl, hx⟩ := hu
      obtain ⟨y, rfl, hy⟩ := hv
      cases x with
      | bool b1 =>
        cases y with
        | bool b2 =>
          simp [eqCells] at hb
          subst hb
          rw [hx.bool_inv, hy.bool_inv]
          simp only [Op.equalIn, Sem.run_bind, und_ok hut, Result.andThen_ok, Sem.run_pure]
        | _ => simp [eqCells] at hb
      | _ => simp [eqCells] at hb
    · rename_i hut
      cases h
      have hg' : g = false := by simpa [tagg, hut, aggD] using hg.symm
      subst hg'
      obtain ⟨x, rfl, hx⟩ := hu
      obtain ⟨y, rfl, hy⟩ := hv
      cases x with
      | str s1 =>
        cases y with
        | str s2 =>
          simp [eqCells] at hb
          subst hb
          rw [hx.str_inv, hy.str_inv]
          simp only [Op.equalIn, Sem.run_bind, und_ok hut, Result.andThen_ok, Sem.run_pure, beq_toListBytes, toList_mk]
        | _ => simp [eqCells] at hb
      | _ => simp [eqCells] at hb
    · rename_i fs hut
      split at h
      · cases h
      · rename_i hheld
        have hg' : g = true := by simpa [tagg, hut, aggD] using hg.symm
        subst hg'
        obtain ⟨ax, rfl, hax, hrx⟩ := hu
        obtain ⟨ay, rfl, hay, hry⟩ := hv
        have hf : P.fieldsOf t = fs := by simp [Program.fieldsOf, hut]
        rw [run_equalIn_struct (P := P) w D t ax ay (by rw [hf]; exact hut) (by simpa using hheld), hf]
        have inner : ∀ (fl : List Field) (off : Nat) (ks : List CK), shapeGo P (eqShape P d) fl off = some ks → off ≤ xs.length → off ≤ ys.length → ∀ b, eqCells ks (xs.drop off) (ys.drop off) = some b → (Op.eqFields D ax ay fl).run P w = .ok b w := by
          intro fl
          induction fl with
          | nil =>
            intro off ks hs _ _ b hb
            cases hs
            have : b = true := by
              unfold eqCells at hb
              split at hb <;> simp_all
            subst this
            simp [Op.eqFields]
          | cons f r ihf =>
            intro off ks hs hox hoy b hb
            simp only [shapeGo] at hs
            split at hs
            · cases hs
            · rename_i hname
              have hname : f.name ≠ "_" ∧ f.offset = off := by simpa using hname
              split at hs
              · cases hs
              · rename_i k0 hk0
                split at hs
                · cases hs
                · rename_i hts
                  have hts : tsize P f.type = some k0.length := by simpa using hts
                  split at hs
                  · cases hs
                  · rename_i l hl
                    cases hs
                    obtain ⟨b1, b2, e1, e2, rfl⟩ := eqCells_split hb
                    obtain ⟨l1, l2⟩ := eqCells_len e1
                    simp only [List.length_take, List.length_drop] at l1 l2
                    rw [List.drop_drop, List.drop_drop] at e2
                    obtain ⟨u, g1, q1, q2, q3⟩ := part_shaped (w := w) (phi := phi) (im := im) hk0 hts hax hrx (off := off) (by omega)
                    obtain ⟨u', g2, p1, p2, p3⟩ := part_shaped (w := w) (phi := phi) (im := im) hk0 hts hay hry (off := off) (by omega)
                    rw [q1] at p1
                    cases p1
                    have r1 := ih f.type k0 hk0 D (by omega) _ _ u u' b1 g1 e1 q1 q3 p3
                    have r2 := ihf (off + k0.length) l hl (by omega) (by omega) b2 e2
                    simp only [Op.eqFields, if_pos hname.1, Sem.run_bind, hname.2, q2, p2, r1, Result.andThen_ok]
                    cases b1
                    · simp
                    · simpa using r2
        exact inner fs.toList 0 ks h (Nat.zero_le _) (Nat.zero_le _) b (by simpa using hb)
    · cases h

theorem guard_shape : ∀ (d : Nat) (t : TypeId) (ks : List CK), eqShape P d t = some ks → ∀ D, d ≤ D → P.eqGuardType D t = false := by
  intro d
  induction d with
  | zero => intro t ks h; simp [eqShape] at h
  | succ d ih =>
    intro t ks h D hD
    obtain ⟨D, rfl⟩ : ∃ D', D = D' + 1 := ⟨D - 1, by omega⟩
    simp only [eqShape] at h
    split at h
    · rename_i k hut; simp [Program.eqGuardType, hut]
    · rename_i hut; simp [Program.eqGuardType, hut]
    · rename_i hut; simp [Program.eqGuardType, hut]
    · rename_i fs hut
      split at h
      · cases h
      · have inner : ∀ (fl : List Field) (off : Nat) (ks : List CK), shapeGo P (eqShape P d) fl off = some ks → ∀ f ∈ fl, P.eqGuardType D f.type = false := by
          intro fl
          induction fl with
          | nil => intro off ks _ f hf; simp at hf
          | cons g r ihf =>
            intro off ks hs f hf
            simp only [shapeGo] at hs
            split at hs
            · cases hs
            · split at hs
              · cases hs
              · rename_i k0 hk0
                split at hs
                · cases hs
                · split at hs
                  · cases hs
                  · rename_i l hl
                    rcases List.mem_cons.1 hf with rfl | hf
                    · exact ih _ _ hk0 D (by omega)
                    · exact ihf _ _ hl f hf
        have := inner fs.toList 0 ks h
        simp only [Program.eqGuardType, hut]
        rw [Array.any_eq_false]
        intro i hi
        have := this fs[i] (by simp)
        simp [this]
    · cases h

theorem good_eqAgg {op : BinOp} {t yt : TypeId} {x y : Operand} {p q : AO} {ks : List CK} (ho : o.op = .binOp op t x y yt) (hop : op = .eql ∨ op = .neq) {fs : Array Field} (hu : P.underlying t = some (.struct fs)) (hd : 9 ≤ P.depth) (hk : eqShape P 9 t = some ks)
    (hx : compO x = some p) (hy : compO y = some q) (e : ER w phi im env a.tmps) (s : SR w phi im h)
    (hr : (aop slot env (.eq (decide (op = .neq)) (.agg ks) p q)).run slot h = some (v, h')) : Good P o a w phi im v h' := by
  obtain ⟨z, hz, hr'⟩ := run_ofOpt hr
  cases hr'
  simp only [Option.map_eq_some_iff] at hz
  obtain ⟨b, hb, rfl⟩ := hz
  have hvx := compO_ok e hx
  have hvy := compO_ok e hy
  simp only [aeq] at hb
  split at hb
  · rename_i xs ys hq1 hq2
    rw [hq1] at hvx
    rw [hq2] at hvy
    obtain ⟨ax, hax, h1, h2⟩ := hvx.agg_inv
    obtain ⟨ay, hay, h3, h4⟩ := hvy.agg_inv
    refine good_eqRun ho hop s ?_
    rw [hax, hay]
    have hg : tagg P t = some true := by simp [tagg, hu, aggD]
    have hrun : ∀ D, 9 ≤ D → (Op.equalIn D t (.agg ax) (.agg ay)).run P w = .ok b w := fun D hD => eq_shape 9 t ks hk D hD xs ys _ _ b true hb hg ⟨ax, rfl, h1, h2⟩ ⟨ay, rfl, h3, h4⟩
    have hguard : P.eqGuardType P.depth t = false := guard_shape 9 t ks hk _ hd
    exact ⟨fun d hd => hrun (d + 1) (by omega), fun op p q => by cases op <;> simp [eqGuard, hguard], rfl, rfl⟩
  · cases hb

/-! ### Bytes as a text -/

theorem bytesOf_ok : ∀ {cs : List AV} {l : List UInt8}, bytesOf cs = some l → ∃ ns : List Int, cs = ns.map (AV.int .u8) ∧ l = ns.map fun n => UInt8.ofNat n.toNat := by
  intro cs
  induction cs with
  | nil => intro l h; cases h; exact ⟨[], rfl, rfl⟩
  | cons c r ih =>
    intro l h
    unfold bytesOf at h
    split at h
    · rename_i hq; cases hq
    · rename_i n r' hq
      cases hq
      simp only [Option.map_eq_some_iff] at h
      obtain ⟨l', hl', rfl⟩ := h
      obtain ⟨ns, rfl, rfl⟩ := ih hl'
      exact ⟨n :: ns, rfl, rfl⟩
    · cases h

theorem push_all : ∀ (ns : List Int) (b : ByteArray), ns.foldl (fun r n => r.push (UInt8.ofNat n.toNat)) b = ⟨b.data ++ (ns.map fun n => UInt8.ofNat n.toNat).toArray⟩ := by
  intro ns
  induction ns with
  | nil => intro b; simp
  | cons n ns ih =>
    intro b
    rw [List.foldl_cons, ih]
    congr 1
    simp [ByteArray.push]

theorem good_toStr {src dst el : TypeId} {x : Operand} {p : AO} (ho : o.op = .convert src dst x) (h1 : P.underlying src = some (.slice el)) (h2 : P.underlying dst = some .string) (h3 : P.underlying el = some (.int .u8)) (hx : compO x = some p) (e : ER w phi im env a.tmps) (s : SR w phi im h)
    (hr : (aop slot env (.toStr p)).run slot h = some (v, h')) : Good P o a w phi im v h' := by
  have hv := compO_ok e hx
  simp only [aop] at hr
  split at hr
  · cases hr
  · rename_i hne
    split at hr
    · rename_i hss
      have key : ∀ {rs : Value}, (Conv.bytesToString (a.eval x)).run P w = .ok rs w → (∃ b l c, a.eval x = .slice b l c) → (execOp a.eval o).run P w = .ok (.value rs) w := by
        rintro rs hrun ⟨b, l, c, hav⟩
        rw [hav] at hrun
        simp only [execOp, ho, convert, Sem.run_bind, und_ok h1, und_ok h2, Result.andThen_ok, hav]
        cases b <;> simp only [und_ok h3, Result.andThen_ok, hrun, Sem.run_pure]
      obtain ⟨n, hn⟩ : ∃ n, slen (ev env p) = some n := by
        generalize ev env p = q at hss
        cases q <;> first | exact ⟨_, rfl⟩ | simp [ssz] at hss
      obtain ⟨cs, hk, hcl, hcells⟩ := scells_ok (P := P) hv s hss hn hr
      obtain ⟨z, hz, hr'⟩ := run_ofOpt hk
      cases hr'
      simp only [Option.map_eq_some_iff] at hz
      obtain ⟨l, hl, rfl⟩ := hz
      obtain ⟨ns, rfl, rfl⟩ := bytesOf_ok hl
      obtain ⟨arr, g1, g2, g3⟩ := hcells n (Nat.le_refl _)
      have harr : arr = (ns.map (Value.int .u8)).toArray := by
        apply Array.ext
        · simp at hcl ⊢; omega
        · intro i hi1 hi2
          simp at hi2
          have hg := g3 i (.int .u8 ns[i]) (by simp at hcl; omega) (by simp [hi2])
          have := hg.int_inv
          simp [Array.getD_eq_getD_getElem?, hi1] at this
          simp [this]
      have gw := g1 w rfl
      generalize hq : ev env p = q at hv hn hss
      cases q with
      | nils =>
        cases hn
        have hns : ns = [] := by simpa using hcl
        subst hns
        refine .here s (rv := .string .empty) (key (by rw [hv.nils_inv]; rfl) ⟨none, 0, 0, hv.nils_inv⟩) ?_
        exact .str []
      | is sz rows f =>
        have hi := hv.is_inv
        cases hn
        generalize hav : a.eval x = av at hi gw
        cases hi with
        | is _ _ _ ad b ob cap vs hb2 hzz hlen hfu hcell hrel =>
          simp only [Builtin.firstCells, Nat.mul_one] at gw
          rw [harr] at gw
          have := run_bytesToString (P := P) w ad rows.length cap ns gw
          rw [push_all] at this
          refine .here s (key (by rw [hav]; exact this) ⟨_, _, _, hav⟩) ?_
          simpa using VR.str (w := w) (phi := phi) (im := im) (ns.map fun n => UInt8.ofNat n.toNat)
      | ms id off len sz cap ex =>
        cases hn
        obtain ⟨b, sh, ob, rcap, el', nn, hav, _⟩ := hv.ms_inv
        rw [hav] at gw
        simp only [Builtin.firstCells, Nat.mul_one] at gw
        rw [harr] at gw
        have := run_bytesToString (P := P) w ⟨b, ob, none⟩ n rcap ns gw
        rw [push_all] at this
        refine .here s (key (by rw [hav]; exact this) ⟨_, _, _, hav⟩) ?_
        simpa using VR.str (w := w) (phi := phi) (im := im) (ns.map fun n => UInt8.ofNat n.toNat)
      | str st => exact absurd hq (hne st)
      | _ => simp [slen] at hn
    · cases hr

/-! ### Every operation -/

theorem arr2 {α : Type} {l : Array α} {x y : α} (h : l.toList = [x, y]) : l = #[x, y] := by
  cases l; simp_all

theorem arr1 {α : Type} {l : Array α} {x : α} (h : l.toList = [x]) : l = #[x] := by
  cases l; simp_all

theorem call_sound {c : Call} {ao : AOp} (ho : o.op = .call c) (hc : compCall P c = some ao) (e : ER w phi im env a.tmps) (s : SR w phi im h)
    (hr : (aop slot env ao).run slot h = some (v, h')) : Good P o a w phi im v h' := by
  obtain ⟨callee, args, ats⟩ := c
  unfold compCall at hc
  split at hc
  · split at hc
    · cases hc; cases hr
    · cases hc
  · rename_i x t hcal hargs hats
    simp only at hcal hargs hats
    subst hcal
    obtain rfl := arr1 hargs
    obtain rfl := arr1 hats
    split at hc
    · rename_i y hy hu; cases hc; exact good_len ho (.inl ⟨rfl, hu⟩) hy e s hr
    · rename_i y el hy hu; cases hc; exact good_len ho (.inr (.inl ⟨rfl, _, hu⟩)) hy e s hr
    · rename_i y k el hy hu; cases hc; exact good_len ho (.inr (.inr ⟨rfl, _, _, hu⟩)) hy e s hr
    · rename_i y n el hy hu
      cases hc
      cases run_done hr
      exact good_lenArr ho hu s
    · cases hc
  · rename_i x y t u hcal hargs hats
    simp only at hcal hargs hats
    subst hcal
    obtain rfl := arr2 hargs
    obtain rfl := arr2 hats
    split at hc
    · rename_i p q el hp hq hu hint
      split at hc
      · rename_i sz by_ z hs hb hz
        split at hc
        · rename_i hcond
          cases hc
          exact good_append ho hu hint hs hb hz hcond.2.2 hcond.1 hcond.2.1 hp hq e s hr
        · cases hc
      · cases hc
    · cases hc
  · rename_i x y t u hcal hargs hats
    simp only at hcal hargs hats
    subst hcal
    obtain rfl := arr2 hargs
    obtain rfl := arr2 hats
    split at hc
    · rename_i p q el hp hq hu
      split at hc
      · rename_i sz hs
        split at hc
        · cases hc; exact good_copy ho hu hs hp hq e s hr
        · cases hc
      · cases hc
    · cases hc
  · rename_i x t hcal hargs hats
    simp only at hcal hargs hats
    subst hcal
    obtain rfl := arr1 hargs
    obtain rfl := arr1 hats
    split at hc
    · rename_i p el hp hu
      split at hc
      · rename_i sz z hs hz
        split at hc
        · cases hc; exact good_clear ho hu hz hp e s hr
        · cases hc
      · cases hc
    · cases hc
  · rename_i x y hcal hargs
    simp only at hcal hargs
    subst hcal
    obtain rfl := arr2 hargs
    split at hc
    · rename_i p q hp hq; cases hc; exact good_min ho hp hq e s hr
    · cases hc
  · rename_i x y hcal hargs
    simp only at hcal hargs
    subst hcal
    obtain rfl := arr2 hargs
    split at hc
    · rename_i p q hp hq; cases hc; exact good_max ho hp hq e s hr
    · cases hc
  · cases hc

theorem bin_sound {op : BinOp} {t yt : TypeId} {x y : Operand} {p q : AO} {ao : AOp} (ho : o.op = .binOp op t x y yt) (hp : compO x = some p) (hq : compO y = some q) (hc : compBin P op t p q = some ao) (e : ER w phi im env a.tmps) (s : SR w phi im h)
    (hr : (aop slot env ao).run slot h = some (v, h')) : Good P o a w phi im v h' := by
  unfold compBin at hc
  split at hc
  · cases hc; exact good_bin ho hp hq e s hr
  · cases hc; exact good_bin ho hp hq e s hr
  · cases hc; exact good_bin ho hp hq e s hr
  · cases hc; exact good_bin ho hp hq e s hr
  · rename_i hu; cases hc; exact good_eq ho (.inl rfl) (.inl ⟨rfl, hu⟩) hp hq e s hr
  · rename_i hu; cases hc; exact good_eq ho (.inr rfl) (.inl ⟨rfl, hu⟩) hp hq e s hr
  · rename_i hu; cases hc; exact good_eq ho (.inl rfl) (.inr (.inl ⟨rfl, _, hu⟩)) hp hq e s hr
  · rename_i hu; cases hc; exact good_eq ho (.inr rfl) (.inr (.inl ⟨rfl, _, hu⟩)) hp hq e s hr
  · rename_i hu; cases hc; exact good_eq ho (.inl rfl) (.inr (.inr (.inl ⟨rfl, _, hu⟩))) hp hq e s hr
  · rename_i hu; cases hc; exact good_eq ho (.inr rfl) (.inr (.inr (.inl ⟨rfl, _, hu⟩))) hp hq e s hr
  · rename_i hu; cases hc; exact good_eq ho (.inl rfl) (.inr (.inr (.inr (.inl ⟨rfl, _, _, hu⟩)))) hp hq e s hr
  · rename_i hu; cases hc; exact good_eq ho (.inr rfl) (.inr (.inr (.inr (.inl ⟨rfl, _, _, hu⟩)))) hp hq e s hr
  · rename_i hu; cases hc; exact good_eq ho (.inl rfl) (.inr (.inr (.inr (.inr ⟨rfl, _, _, _, hu⟩)))) hp hq e s hr
  · rename_i hu; cases hc; exact good_eq ho (.inr rfl) (.inr (.inr (.inr (.inr ⟨rfl, _, _, _, hu⟩)))) hp hq e s hr
  · rename_i fs hu
    split at hc
    · rename_i hd
      simp only [Option.map_eq_some_iff] at hc
      obtain ⟨ks, hk, rfl⟩ := hc
      exact good_eqAgg ho (.inl rfl) hu hd hk hp hq e s hr
    · cases hc
  · rename_i fs hu
    split at hc
    · rename_i hd
      simp only [Option.map_eq_some_iff] at hc
      obtain ⟨ks, hk, rfl⟩ := hc
      exact good_eqAgg ho (.inr rfl) hu hd hk hp hq e s hr
    · cases hc
  · cases hc
  · cases hc
  · cases hc; exact good_bin ho hp hq e s hr

theorem conv_sound {src dst : TypeId} {x : Operand} {p : AO} {ao : AOp} (ho : o.op = .convert src dst x) (hp : compO x = some p) (hc : compConv P src dst p = some ao) (e : ER w phi im env a.tmps) (s : SR w phi im h)
    (hr : (aop slot env ao).run slot h = some (v, h')) : Good P o a w phi im v h' := by
  have u8 : ∀ {el : TypeId}, isU8 P el = true → P.underlying el = some (.int .u8) := fun {el} hb => by
    unfold isU8 at hb
    split at hb
    · assumption
    · cases hb
  unfold compConv at hc
  split at hc
  · rename_i j k h1 h2; cases hc; exact good_conv ho h1 h2 hp e s hr
  · rename_i h1 h2; cases hc; exact good_strId ho h1 h2 hp e s hr
  · rename_i el h1 h2
    split at hc
    · rename_i hb; cases hc; exact good_toStr ho h1 h2 (u8 hb) hp e s hr
    · cases hc
  · rename_i el h1 h2
    split at hc
    · rename_i hb; cases hc; exact good_toBytes ho h1 h2 (u8 hb.1) hp e s hr
    · cases hc
  · cases hc

theorem aop_sound {ao : AOp} (hc : compOp P o.op = some ao) (e : ER w phi im env a.tmps) (s : SR w phi im h)
    (hr : (aop slot env ao).run slot h = some (v, h')) : Good P o a w phi im v h' := by
  generalize ho : o.op = op at hc
  have hfull := hc
  cases op <;> simp only [compOp] at hc
  case move x =>
    simp only [Option.map_eq_some_iff] at hc
    obtain ⟨y, hy, rfl⟩ := hc
    cases run_done hr
    exact good_move (.inl ho) hy e s
  case assign x =>
    simp only [Option.map_eq_some_iff] at hc
    obtain ⟨y, hy, rfl⟩ := hc
    cases run_done hr
    exact good_move (.inr ho) hy e s
  case pick c x y =>
    split at hc
    · rename_i c' x' y' h1 h2 h3; cases hc; exact good_pick ho h1 h2 h3 e s hr
    · cases hc
  case alloc t =>
    simp only [Option.map_eq_some_iff] at hc
    obtain ⟨z, hz, rfl⟩ := hc
    exact good_alloc ho hz s hr
  case box t x =>
    simp only [Option.map_eq_some_iff] at hc
    obtain ⟨z, hz, rfl⟩ := hc
    exact good_box ho hz e s hr
  case build t ps => exact good_build ho hfull e s hr
  case buildSlice t n ps => exact good_buildSlice ho hfull e s hr
  case load t x =>
    split at hc
    · rename_i g sz p h1 h2 h3; cases hc; exact good_load ho h1 h2 h3 e s hr
    · cases hc
  case store t x y =>
    split at hc
    · rename_i sz p q h1 h2 h3; cases hc; exact good_store ho h1 h2 h3 e s hr
    · cases hc
  case nilCheck x =>
    simp only [Option.map_eq_some_iff] at hc
    obtain ⟨z, hz, rfl⟩ := hc
    exact good_nilCheck ho hz e s hr
  case binOp op t x y yt =>
    split at hc
    · rename_i p q hp hq; exact bin_sound ho hp hq hc e s hr
    · cases hc
  case unOp op t x =>
    simp only [Option.map_eq_some_iff] at hc
    obtain ⟨z, hz, rfl⟩ := hc
    exact good_un ho hz e s hr
  case convert src dst x =>
    split at hc
    · rename_i p hp; exact conv_sound ho hp hc e s hr
    · cases hc
  case makeFunc fn first captured =>
    cases fn <;> simp only at hc
    case func f =>
      split at hc
      · rename_i hf
        simp only [Option.map_eq_some_iff] at hc
        obtain ⟨m, hm, rfl⟩ := hc
        exact good_fn ho hf hm e s hr
      · cases hc
    all_goals cases hc
  case makeSlice t x y =>
    split at hc
    · rename_i el hu
      split at hc
      · rename_i sz by_ z p q h1 h2 h3 h4 h5
        split at hc
        · rename_i hcond; cases hc; exact good_mkSlice ho hu h1 h2 h3 hcond.2 h4 h5 e s hr
        · cases hc
      · cases hc
    · cases hc
  case slice t x lo hi mx =>
    split at hc
    · rename_i el p lo' hi' mx' hu hp h1 h2 h3
      split at hc
      · rename_i sz hs
        split at hc
        · cases hc
        · rename_i hmh
          split at hc
          · cases hc
            exact good_slice ho hu hs hp h1 h2 h3 (fun hm => by
              cases hh : hi'.isSome with
              | true => rfl
              | false => exact absurd ⟨hm, by simp [hh]⟩ hmh) e s hr
          · cases hc
      · cases hc
    · rename_i p lo' hi' hu hp h1 h2 h3
      cases hc
      have hmx : mx = none := by
        rcases compOO_ok h3 with ⟨rfl, _⟩ | ⟨_, _, _, hq, _⟩
        · rfl
        · cases hq
      subst hmx
      exact good_strSlice ho hu hp h1 h2 e s hr
    · cases hc
  case fieldAddr t x f =>
    split at hc
    · rename_i fs p hu hp
      split at hc
      · rename_i g hf
        split at hc
        · rename_i sz hs
          split at hc
          · cases hc
          · rename_i hz; cases hc; exact good_fieldAddr ho hu hf hs hz hp e s hr
        · cases hc
      · cases hc
    · cases hc
  case field t x f =>
    split at hc
    · rename_i fs p hu hp
      split at hc
      · rename_i g hf
        split at hc
        · rename_i ag sz hg hs; cases hc; exact good_field ho hu hf hg hs hp e s hr
        · cases hc
      · cases hc
    · cases hc
  case indexAddr t x i =>
    split at hc
    · rename_i el p q hu hp hq
      simp only [Option.map_eq_some_iff] at hc
      obtain ⟨sz, hs, rfl⟩ := hc
      exact good_idxSl ho hu hs hp hq e s hr
    · rename_i n el p q hu hp hq
      simp only [Option.map_eq_some_iff] at hc
      obtain ⟨sz, hs, rfl⟩ := hc
      exact good_idxArr ho hu hs hp hq e s hr
    · cases hc
  case index t x i =>
    split at hc
    · rename_i p q hu hp hq; cases hc; exact good_strIndex ho hu hp hq e s hr
    · rename_i n el p q hu hp hq
      split at hc
      · rename_i ag sz hg hs; cases hc; exact good_index ho hu hg hs hp hq e s hr
      · cases hc
    · cases hc
  case extract x i =>
    simp only [Option.map_eq_some_iff] at hc
    obtain ⟨z, hz, rfl⟩ := hc
    exact good_extract ho hz e s hr
  case call c => exact call_sound ho hc e s hr
  all_goals cases hc

end
end Go.AM
