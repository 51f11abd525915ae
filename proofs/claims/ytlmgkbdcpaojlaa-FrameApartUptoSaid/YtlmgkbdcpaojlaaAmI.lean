/- The abstract machine: what an operation answers is what the model's operation answers. Sixth part: append, copy, clear, len, comparisons. -/
import Derived.Test.YtlmgkbdcpaojlaaAmH
namespace Go.AM

section
variable {P : Program} {o : Oper} {a : Act} {w : World} {phi : Phi} {im : Nat → Prop} {h : Heap} {env : Env} {slot : Nat} {v : AV} {h' : Heap}

theorem isInt_false {ut : TypeId} (hut : isIntT P ut = some false) : ∃ d, P.underlying ut = some d ∧ ∀ k, d ≠ .int k := by
  cases hd : P.underlying ut with
  | none => simp [isIntT, hd] at hut
  | some d =>
    refine ⟨d, rfl, fun k hk => ?_⟩
    subst hk
    simp [isIntT, hd] at hut

/-- The model's append where there is room. -/
theorem append_fits {t ut el : TypeId} {sz : Nat} (hu : P.underlying t = some (.slice el)) (hut : isIntT P ut = some false) (hs : tsize P el = some sz)
    {base : Option Addr} {sLen sCap n : Nat} {x : Value} (hlen : (Builtin.lenOf x).run P w = .ok n w) (hfit : sLen + n ≤ sCap)
    {new : Array Value} (hnew : (Builtin.firstCells sz n x).run P w = .ok new w) {w' : World} (hst : ∀ ad, base = some ad → (storeCells (ad.add (sLen * sz)) new.toList).run P w = .ok () w') (hnil : base = none → w' = w) (ty : TypeId) :
    (Builtin.append_ #[t, ut] ty #[.slice base sLen sCap, x]).run P w = .ok (.slice base (sLen + n) sCap) w' := by
  obtain ⟨d, hd, hdk⟩ := isInt_false hut
  unfold Builtin.append_
  simp only [List.getElem?_toArray, List.getElem?_cons_zero, List.getElem?_cons_succ, Sem.run_bind, und_ok hu, Result.andThen_ok, tsize_ok hs, und_ok hd, Sem.run_pure]
  rw [if_neg (by cases d <;> first | exact absurd rfl (hdk _) | simp)]
  simp only [hlen, Result.andThen_ok, Sem.run_bind]
  rw [if_pos hfit]
  cases base with
  | none =>
    have := hnil rfl
    subst this
    simp only [Sem.run_bind]
    rw [if_pos (by cases d <;> first | exact absurd rfl (hdk _) | simp)]
    simp only [hnew, Result.andThen_ok, Sem.run_pure]
  | some ad =>
    simp only [Sem.run_bind]
    rw [if_pos (by cases d <;> first | exact absurd rfl (hdk _) | simp)]
    simp only [hnew, Result.andThen_ok, hst ad rfl, Sem.run_pure]

theorem store_none (ad : Addr) (w2 : World) : (storeCells ad []).run P w2 = .ok () w2 := rfl

/-- The cells of the old slice and of what is appended, as the new block has them. -/
theorem append_new {t ut el : TypeId} {sz by_ : Nat} {z : List AV} {x y : Operand} (ho : o.op = .call ⟨.builtin .append, #[x, y], #[t, ut]⟩) (hu : P.underlying t = some (.slice el)) (hut : isIntT P ut = some false) (hs : tsize P el = some sz) (hb : tbytes P el = some by_) (hz : zcells P el = some z)
    (hzl : z.length = sz) (h1 : 1 ≤ by_) (s : SR w phi im h) {b0 : Blk} (hsl : h[slot]? = some b0) (hf : b0.isFree = true) {base : Option Addr} {sLen sCap n : Nat} (hav : a.eval x = .slice base sLen sCap)
    {yv : AV} (hyv : VR w phi im yv (a.eval y)) (hn : slen yv = some n) (hgrow : sCap < sLen + n) (hroom : roomy (sLen + n) by_ = true)
    {olds ys : List AV} (hol : olds.length = sLen * sz) (hyl : ys.length = n * sz)
    (hold : ∃ arr : Array Value, (∀ w2 : World, w2.heap = w.heap → (Builtin.firstCells sz sLen (.slice base sLen sCap)).run P w2 = .ok arr w2) ∧ arr.size = sLen * sz ∧ ∀ (j : Nat) c, j < sLen * sz → olds[j]? = some c → VR w phi im c (arr.getD j Go.undef))
    (hnew : ∃ arr : Array Value, (∀ w2 : World, w2.heap = w.heap → (Builtin.firstCells sz n (a.eval y)).run P w2 = .ok arr w2) ∧ arr.size = n * sz ∧ ∀ (j : Nat) c, j < n * sz → ys[j]? = some c → VR w phi im c (arr.getD j Go.undef)) :
    Good P o a w phi im (.ms slot 0 (sLen + n) sz (sLen + n) false) (h.set slot (.cells (olds ++ ys))) := by
  obtain ⟨old, g1, g2, g3⟩ := hold
  obtain ⟨new, g4, g5, g6⟩ := hnew
  have hroom' : (sLen + n) * by_ ≤ 140737488355328 := by simpa [roomy] using hroom
  obtain ⟨c, rcap, r1, r2, r3, r4⟩ := append_grow (P := P) (w := w) (ats := #[t, ut]) rfl hu hut hs hb hz hzl h1 (base := base) (fun w2 => len_run hyv hn w2) hgrow hroom' g1 g2 g4 g5 o.type
  refine Good.new s hsl hf (w' := { w with heap := w.heap.push (.cells c el), drawn := w.drawn + 1 }) (c := c) (e := el) (fz := (0, 0)) (rv := .slice (some ⟨w.heap.size, 0, none⟩) (sLen + n) rcap) ?_ rfl rfl rfl rfl ?_ (fun j q hj => ?_) (fun j _ => by simp)
    (.ms slot 0 (sLen + n) sz (sLen + n) false w.heap.size 0 0 rcap el c.size (by simp) (by simp) (by simp [World.shape?]) (by omega) r2 (by simp) (Nat.le_refl _))
  · rw [exec_builtin ho]
    simp only [builtin, List.map_toArray, List.map_cons, List.map_nil, hav, Sem.run_bind, r1, Result.andThen_ok, Sem.run_pure]
  · simp only [List.length_append, hol, hyl, r3, ← Nat.add_mul]
    exact Nat.mul_le_mul_right _ r2
  · have hlt := set_lt hj
    simp only [List.length_append, hol, hyl] at hlt
    rw [r4 j (by rw [Nat.add_mul]; exact hlt)]
    by_cases c1 : j < sLen * sz
    · rw [if_pos c1]
      rw [List.getElem?_append_left (by omega)] at hj
      exact g3 j q c1 hj
    · rw [if_neg c1]
      rw [List.getElem?_append_right (by omega), hol] at hj
      exact g6 _ q (by omega) hj

theorem all_sc {xs : List AV} {vs : Array Value} (hn : vs.size = xs.length) (hv : ∀ (i : Nat) y, i < xs.length → xs[i]? = some y → VR w phi im y (vs.getD i Go.undef)) (hs : xs.all isSc = true) : ∀ u ∈ vs.toList, u.oneCell' = true :=
  sc_list hn (fun i y hy => hv i y (set_lt hy) hy) hs

theorem good_append {t ut el : TypeId} {sz by_ : Nat} {z : List AV} {x y : Operand} {p q : AO} (ho : o.op = .call ⟨.builtin .append, #[x, y], #[t, ut]⟩) (hu : P.underlying t = some (.slice el)) (hut : isIntT P ut = some false) (hs : tsize P el = some sz) (hb : tbytes P el = some by_) (hz : zcells P el = some z)
    (hzl : z.length = sz) (h0 : 1 ≤ sz) (h1 : 1 ≤ by_) (hx : compO x = some p) (hy : compO y = some q) (e : ER w phi im env a.tmps) (s : SR w phi im h)
    (hr : (aop slot env (.append sz by_ p q)).run slot h = some (v, h')) : Good P o a w phi im v h' := by
  have hvx := compO_ok e hx
  have hvy := compO_ok e hy
  have run0 : ∀ {base : Option Addr} {l c n : Nat} {w2 : World}, a.eval x = .slice base l c → (Builtin.append_ #[t, ut] o.type #[.slice base l c, a.eval y]).run P w = .ok (.slice base n c) w2 →
      (execOp a.eval o).run P w = .ok (.value (.slice base n c)) w2 := fun hav hrun => by
    rw [exec_builtin ho]
    simp only [builtin, List.map_toArray, List.map_cons, List.map_nil, hav, Sem.run_bind, hrun, Result.andThen_ok, Sem.run_pure]
  simp only [aop] at hr
  split at hr
  · cases hr
  · rename_i n hn
    split at hr
    · cases hr
    · rename_i hss
      have hss : ssz sz (ev env q) = true := by simpa using hss
      -- nothing is appended: the slice itself
      have zero : ∀ {base : Option Addr} {l c : Nat} {xv : AV}, a.eval x = .slice base l c → l ≤ c → n = 0 → VR w phi im xv (a.eval x) → Good P o a w phi im xv h := fun {base l c xv} hav hlc h0 hxv => by
        subst h0
        have := append_fits (P := P) (w := w) hu hut hs (base := base) (sLen := l) (sCap := c) (n := 0) (x := a.eval y) (len_run hvy hn w) (by omega) (new := #[]) (first_zero hvy hn sz w) (w' := w) (fun ad _ => rfl) (fun _ => rfl) o.type
        exact .here s (run0 hav this) (by rw [hav] at hxv; exact hxv)
      split at hr
      · rename_i hq
        rw [hq] at hvx
        split at hr
        · rename_i hn0
          cases run_done hr
          exact zero hvx.nils_inv (Nat.le_refl _) hn0 hvx
        · rename_i hn0
          split at hr
          · cases hr
          · rename_i hroom
            obtain ⟨ys, hk, hyl, hnew⟩ := scells_ok (P := P) hvy s hss hn hr
            obtain ⟨b0, hsl, hf, hk2⟩ := run_new hk
            cases run_done hk2
            have := append_new (slot := slot) ho hu hut hs hb hz hzl h1 s hsl hf hvx.nils_inv hvy hn (by omega) (by simpa using hroom) (olds := []) (ys := ys) (by simp) hyl ⟨#[], fun w2 _ => rfl, by simp, fun j c hj _ => by simp at hj⟩ (hnew n (Nat.le_refl _))
            simpa using this
      · rename_i s2 rows full hq
        rw [hq] at hvx
        have hi := hvx.is_inv
        generalize hav : a.eval x = av at hi
        cases hi with
        | is _ _ _ ad b ob cap vs hb2 hzz hl hfu hcell hrel =>
          split at hr
          · rename_i hn0
            cases run_done hr
            exact zero hav hl hn0 (by rw [hav]; exact .imm (.is s2 rows full ad b ob cap vs hb2 hzz hl hfu hcell hrel))
          · rename_i hn0
            split at hr
            · cases hr
            · rename_i hcond
              have hcond : full = true ∧ s2 = sz ∧ roomy (rows.length + n) by_ = true := by simpa [and_assoc] using hcond
              obtain ⟨c1, c2, c3⟩ := hcond
              subst c2
              obtain ⟨ys, hk, hyl, hnew⟩ := scells_ok (P := P) hvy s hss hn hr
              obtain ⟨b0, hsl, hf, hk2⟩ := run_new hk
              cases run_done hk2
              have hxv : VR w phi im (.is s2 rows full) (.slice (some ad) rows.length cap) := .imm (.is s2 rows full ad b ob cap vs hb2 hzz hl hfu hcell hrel)
              obtain ⟨cs, hk3, hcl, hold⟩ := scells_ok (P := P) (slot := slot) (k := fun cs => .done (.agg cs)) (n := rows.length) (sz := s2) hxv s (by simp [ssz]) rfl (r := (.agg rows.flatten, h)) rfl
              have hcs : cs = rows.flatten := by
                simp only [HC.run, Option.some.injEq, Prod.mk.injEq, AV.agg.injEq, and_true] at hk3; exact hk3
              subst hcs
              exact append_new (slot := slot) ho hu hut hs hb hz hzl h1 s hsl hf hav hvy hn (by have := hfu c1; omega) c3 (flat_len hzz) hyl (hold _ (Nat.le_refl _)) (hnew n (Nat.le_refl _))
      · rename_i id off len s2 cap ex hq
        rw [hq] at hvx
        obtain ⟨b, sh, ob, rcap, el', nn, hav, hp, hoff, hsh, hnn, hcap, hx', hl⟩ := hvx.ms_inv
        split at hr
        · rename_i hn0
          cases run_done hr
          exact zero hav (by omega) hn0 hvx
        · rename_i hn0
          split at hr
          · cases hr
          · rename_i hcond
            have hcond : s2 = sz ∧ roomy (len + n) by_ = true := by simpa using hcond
            obtain ⟨c2, c3⟩ := hcond
            subst c2
            obtain ⟨ys, hk, hyl, hnew⟩ := scells_ok (P := P) hvy s hss hn hr
            obtain ⟨new, hn1, hn2, hn3⟩ := hnew n (Nat.le_refl _)
            split at hk
            · cases hk
            · rename_i hsc
              have hsc : ys.all isSc = true := by simpa using hsc
              obtain ⟨blk, hb2, hfree, hk2⟩ := run_rd hk
              split at hk2
              · rename_i cs
                have hnsc : ∀ u ∈ new.toList, u.oneCell' = true := all_sc (w := w) (phi := phi) (im := im) (by omega) (fun i y hi hy => hn3 i y (by omega) hy) hsc
                have hnv : ∀ (j : Nat) y, ys[j]? = some y → VR w phi im y (new.toList.getD j Go.undef) := fun j y hy => by
                  have := hn3 j y (by have := set_lt hy; omega) hy
                  simpa [Array.getD_eq_getD_getElem?] using this
                split at hk2
                · cases hk2
                · rename_i hle
                  have hle : off + len * s2 ≤ cs.length := by simpa using hle
                  split at hk2
                  · rename_i hfit
                    split at hk2
                    · rename_i hroom
                      obtain ⟨b1, hb1, _, hk3⟩ := run_wr hk2
                      cases run_done hk3
                      have ho' := hoff (by omega)
                      subst ho'
                      obtain ⟨r1, r2, r3⟩ := s.stored (P := P) hb2 hp (off := off + len * s2) (xs := ys) (vs := new.toList) (by simpa using (by omega : new.size = ys.length)) (by omega) hnv hnsc
                      have hrun := append_fits (P := P) (w := w) hu hut hs (base := some ⟨b, sh + off, none⟩) (sLen := len) (sCap := rcap) (n := n) (x := a.eval y) (len_run hvy hn w) (by omega) (hn1 w rfl)
                        (w' := w.setCells b (sh + (off + len * s2)) new.toList) (fun ad had => by cases had; rw [add_off, Nat.add_assoc]; exact r1) (fun hno => by cases hno) o.type
                      refine ⟨_, _, _, phi, run0 hav hrun, .inl rfl, ?_, r2, r3⟩
                      exact .ms id off (len + n) s2 cap ex b sh _ rcap el' nn hp (fun _ => rfl) (r3.shape _ _ hsh) hnn hcap hx' hfit
                    · cases hk2
                  · rename_i hnfit
                    have hcl : ((cs.drop off).take (len * s2)).length = len * s2 := by simp; omega
                    have hold : ∃ arr : Array Value, (∀ w2 : World, w2.heap = w.heap → (Builtin.firstCells s2 len (.slice (some ⟨b, ob, none⟩) len rcap)).run P w2 = .ok arr w2) ∧ arr.size = len * s2 ∧
                        ∀ (j : Nat) c, j < len * s2 → ((cs.drop off).take (len * s2))[j]? = some c → VR w phi im c (arr.getD j Go.undef) := by
                      obtain ⟨cs', hk3, hcl', hold⟩ := scells_ok (P := P) (slot := slot) (k := fun cs => .done (.agg cs)) (n := len) (sz := s2) (hav ▸ hvx) s (by simp [ssz]) rfl (r := (.agg ((cs.drop off).take (len * s2)), h)) (by simp [scells, HC.run, hb2, Blk.isFree, hle])
                      have hcs : cs' = (cs.drop off).take (len * s2) := by
                        simp only [HC.run, Option.some.injEq, Prod.mk.injEq, AV.agg.injEq, and_true] at hk3; exact hk3
                      subst hcs
                      exact hold _ (Nat.le_refl _)
                    split at hk2
                    · rename_i hex
                      obtain ⟨b0, hsl, hf, hk3⟩ := run_new hk2
                      cases run_done hk3
                      exact append_new (slot := slot) ho hu hut hs hb hz hzl h1 s hsl hf hav hvy hn (by have := hx' hex; omega) c3 hcl hyl hold ⟨new, hn1, hn2, hn3⟩
                    · rename_i hnex
                      obtain ⟨b1, hb1, _, hk3⟩ := run_wr hk2
                      obtain ⟨b0, hsl, hf, hk4⟩ := run_new hk3
                      cases run_done hk4
                      have s2' := s.kill hb2
                      by_cases hfit : len + n ≤ rcap
                      · -- it is written in place
                        have ho' := hoff (by omega)
                        subst ho'
                        obtain ⟨bb, shh, c, e2, fz, q1, q2, q3, q4, q5⟩ := s.cells id cs hb2
                        rw [hp] at q1
                        cases q1
                        have hsz : c.size = nn := by
                          simp only [World.shape?, q2, Option.some.injEq, Prod.mk.injEq] at hsh
                          exact hsh.2
                        have hmul : (len + n) * s2 ≤ rcap * s2 := Nat.mul_le_mul_right _ hfit
                        rw [Nat.add_mul] at hmul
                        obtain ⟨c', hw, hg⟩ := setCells_heap b new.toList (sh + off + len * s2) w c e2 fz q2 (by simp; omega)
                        have r1 : (storeCells ⟨b, sh + off + len * s2, none⟩ new.toList).run P w = .ok () (w.setCells b (sh + off + len * s2) new.toList) := by
                          have := run_storeCells_cells (P := P) b (sh + off + len * s2) new.toList 0 w (fun j hj => by
                            have hj' : j < new.size := by simpa using hj
                            have hlt : sh + off + len * s2 + j < c.size := by omega
                            simp [World.cell?, q2, hlt]) (fun j hj => by
                            have hj' : j < new.size := by simpa using hj
                            have hlt : sh + off + len * s2 + j < c.size := by omega
                            have := q5 _ hlt
                            simp only [World.frozen?, q2, Nat.add_zero]
                            simpa using this) hnsc
                          simpa using this
                        have hrun := append_fits (P := P) (w := w) hu hut hs (base := some ⟨b, sh + off, none⟩) (sLen := len) (sCap := rcap) (n := n) (x := a.eval y) (len_run hvy hn w) hfit (hn1 w rfl)
                          (w' := w.setCells b (sh + off + len * s2) new.toList) (fun ad had => by cases had; rw [add_off]; exact r1) (fun hno => by cases hno) o.type
                        have himg : img phi b := ⟨id, _, hp, rfl⟩
                        obtain ⟨t1, t2⟩ := s2'.adopt hsl hf himg (fun i pp hli hpp heq => by
                          have hne : i ≠ id := fun q => not_live_dead hb2 (q ▸ hli)
                          refine hne (s.inj i id pp (b, sh) ((live_set hli).resolve_left hne) ⟨_, hb2, .inl ⟨_, rfl⟩⟩ hpp hp heq)) hw q5 (sh := sh + off) (cs := (cs.drop off).take (len * s2) ++ ys) (by rw [hw.len]; simp only [List.length_append, hcl]; omega) (fun j y hj => by
                            rw [hg]
                            by_cases c1 : j < len * s2
                            · rw [List.getElem?_append_left (by omega), List.getElem?_take_of_lt c1, List.getElem?_drop] at hj
                              rw [if_neg (by omega), Nat.add_assoc]
                              exact q4 _ y hj
                            · rw [List.getElem?_append_right (by omega), hcl] at hj
                              have hlt := set_lt hj
                              rw [if_pos (by simp; omega), show sh + off + j - (sh + off + len * s2) = j - len * s2 by omega]
                              exact hnv _ y hj)
                        refine ⟨_, _, _, _, run0 hav hrun, .inl rfl, ?_, t1, t2⟩
                        exact .ms slot 0 (len + n) s2 (len + n) false b (sh + off) _ rcap el' nn (by simp) (fun _ => rfl) (t2.shape _ _ hsh) hnn hfit (by simp) (Nat.le_refl _)
                      · exact append_new (slot := slot) ho hu hut hs hb hz hzl h1 s2' hsl hf hav hvy hn (by omega) c3 hcl hyl hold ⟨new, hn1, hn2, hn3⟩
              · cases hk2
      · cases hr

end
end Go.AM
