/- The abstract machine: 'acall' answers what the model's call comes to; law for a table of functions. -/
import Derived.Test.YtlmgkbdcpaojlaaAmO
namespace Go.AM

/-- What a call without memory of its own leaves to its caller. -/
theorem SR.past {w w' : World} {phi phi' : Phi} {im im' : Nat → Prop} {h h' : Heap} (s : SR w phi im h) (s' : SR w' phi' im' h') (p : Post w (fun _ => none) im w' phi' im') :
    SR w' phi (fun b => im' b ∨ img phi' b) h ∧ Post w phi im w' phi (fun b => im' b ∨ img phi' b) := by
  have no : ∀ b, ¬ img (fun _ => none) b := by rintro b ⟨id, q, hq, _⟩; cases hq
  have keep : ∀ b, b < w.heap.size → w'.heap[b]? = w.heap[b]? := fun b hb => p.keep b hb (no b)
  have hnew : ∀ b, (im' b ∨ img phi' b) → im b ∨ w.heap.size ≤ b := by
    rintro b (h | h)
    · exact p.imnew b h
    · exact (p.new b h).elim (fun h => (no b h).elim) .inr
  have up : ∀ {x v}, VR w phi im x v → VR w' phi (fun b => im' b ∨ img phi' b) x v := fun hv => hv.mono (fun b hb => keep b (s.imlt b hb)) p.shape (fun _ _ h => h) fun b hb => .inl (p.imext b hb)
  refine ⟨⟨s.dom, fun id q hq => Nat.lt_of_lt_of_le (s.lt id q hq) p.size, ?_, ?_, ?_, ?_, s.inj⟩, ⟨p.os, p.tape, p.output, p.size, fun b hb _ => keep b hb, p.shape, fun _ _ h => h, fun _ h => .inl h, fun b hb => .inl (p.imext b hb), hnew⟩⟩
  · rintro b (hb | ⟨id, q, hq, rfl⟩)
    · exact s'.imlt b hb
    · exact s'.lt id q hq
  · intro b hb hi
    rcases hnew b hi with h | h
    · exact s.disj b hb h
    · obtain ⟨id, q, hq, rfl⟩ := hb
      have := s.lt id q hq
      omega
  · intro id cs hc
    obtain ⟨b, sh, c, e, fz, h1, h2, h3, h4, h5⟩ := s.cells id cs hc
    exact ⟨b, sh, c, e, fz, h1, (keep b (s.lt id _ h1)).trans h2, h3, fun j x hj => up (h4 j x hj), h5⟩
  · intro id es ck hm
    obtain ⟨b, res, h1, h2, h3, h4⟩ := s.map id es ck hm
    refine ⟨b, res, h1, (keep b (s.lt id _ h1)).trans h2, h3, fun j k v t hj => ?_⟩
    obtain ⟨x, g1, g2, g3, g4⟩ := h4 j k v t hj
    exact ⟨x, g1, up g2, up g3, g4⟩

section
variable {P : Program}

/-- The table's functions are the program's. -/
def TabOK (P : Program) (A : Tab) : Prop := ∀ g f, A g = some f → ∃ fn keeps, P.funcs[g]? = some fn ∧ compF P keeps f.mode fn = some f

theorem compF_inv {keeps : List (Nat × List Nat)} {mode : Nat} {fn : Func} {f : AFn} (h : compF P keeps mode fn = some f) :
    ∃ c r, fn.body = some c ∧ compC P keeps c = some f.body ∧ compR P fn.results.toList = some r ∧ f.res = r ∧ (fn.name == "runtime.NumGoroutine") = false ∧ f.np ≤ fn.ntmps ∧ f.np = fn.params.size + fn.nfree ∧ f.nt = fn.ntmps := by
  unfold compF at h
  split at h
  · rename_i c hb
    split at h
    · rename_i b r hc hr
      split at h
      · cases h
      · rename_i hn
        cases h
        simp only [Bool.or_eq_true, decide_eq_true_eq, not_or, Bool.not_eq_true, Nat.not_lt] at hn
        exact ⟨c, r, hb, hc, hr, rfl, hn.1, hn.2, rfl, rfl⟩
    · cases h
  · cases h

theorem body_sound {A : Tab} {cf : CallF} (hcf : CallOK P cf) (hm : CallMem cf (isPure A)) (hfol : P.follows .mixedOrders = true) {fuel : Nat} {f : AFn} {g : Nat} {fn : Func} {keeps : List (Nat × List Nat)} {mode : Nat} (hg : P.funcs[g]? = some fn) (hc : compF P keeps mode fn = some f)
    {args : List AV} {h h' : Heap} {v : AV} {l : List Nat} (hb : abody A cf fuel f args h = some (v, h', l)) {w : World} {phi : Phi} {im : Nat → Prop} {rargs : Array Value} (s : SR w phi im h) (hsz : rargs.size = args.length) (hnp : args.length = f.np)
    (ha : ∀ (i : Nat) x, args[i]? = some x → VR w phi im x (rargs.getD i Go.undef)) :
    Enters P g ∧ Calls P g rargs w fun e w' => ∃ rv phi' im', e = .returned rv ∧ VR w' phi' im' v rv ∧ SR w' phi' im' h' ∧ Post w phi im w' phi' im' := by
  obtain ⟨c, r, h1, h2, h3, h4, h5, h6, h7, h8⟩ := compF_inv hc
  refine ⟨⟨fn, hg, h5, by rw [h1]; rfl⟩, calls_of_wp hg h1 ?_⟩
  unfold abody at hb
  have er : ER w phi im (fun t => args.getD t .undef) (rargs ++ Array.replicate (fn.ntmps - rargs.size) undef) := by
    intro n
    by_cases hn : n < args.length
    · have q := ha n args[n] (List.getElem?_eq_getElem hn)
      have e1 : (rargs ++ Array.replicate (fn.ntmps - rargs.size) undef).getD n undef = rargs.getD n undef := by
        simp only [Array.getD_eq_getD_getElem?]
        rw [Array.getElem?_append_left (by omega)]
      rw [e1]
      simpa [List.getD_eq_getElem?_getD, hn] using q
    · have : args.getD n .undef = .undef := by simp [List.getD_eq_getElem?_getD, List.getElem?_eq_none (Nat.not_lt.1 hn)]
      show VR w phi im (args.getD n .undef) _
      rw [this]
      exact .imm (.undef _)
  have hsize : (rargs ++ Array.replicate (fn.ntmps - rargs.size) undef).size = f.nt := by
    simp only [Array.size_append, Array.size_replicate]; omega
  split at hb
  · cases hb
  · rename_i ex st hne hrun
    simp only [Option.map_eq_some_iff] at hb
    obtain ⟨v', hv', hq⟩ := hb
    cases hq
    refine wp_mono (arun_sound hcf hm hfol c f.body h2 hrun (a := { tmps := rargs ++ Array.replicate (fn.ntmps - rargs.size) undef, defers := [] }) er hsize s) ?_
    rintro ee a' w' ⟨rfl, phi', im', x1, x2, x3, x4, x5⟩
    obtain ⟨rv, y1, y2⟩ := results_ok x4 x1 (h4 ▸ h3) hv'
    have fin : a'.defers = [] ∧ ∃ u, (results fn a'.tmps).run P w' = .ok u w' ∧ ∃ rv phi' im', Ending.returned u = .returned rv ∧ VR w' phi' im' v rv ∧ SR w' phi' im' st.heap ∧ Post w phi im w' phi' im' :=
      ⟨x3, rv, y1, rv, phi', im', rfl, y2, x4, x5⟩
    cases ex with
    | normal => exact fin
    | ret => exact fin
    | exit i => exact (hne i rfl).elim
  · cases hb

theorem acall_sound {A : Tab} (hA : TabOK P A) (hfol : P.follows .mixedOrders = true) : ∀ k, CallOK P (acall A k) := by
  intro k
  induction k with
  | zero => intro g args h v h' wr hc; cases hc
  | succ k ih =>
    intro g args h v h' wr hc w phi im rargs s hsz ha
    simp only [acall] at hc
    split at hc
    · cases hc
    · rename_i f hf
      obtain ⟨fn, keeps, hg, hcf⟩ := hA g f hf
      split at hc
      · cases hc
      · rename_i hnp
        have hnp' : args.length = f.np := by omega
        split at hc
        · rename_i hmi
          have himm : imm.immL args = true := by simp only [Bool.and_eq_true] at hmi; exact hmi.2
          · split at hc
            · rename_i v0 h0 w0 hb
              simp only [Option.map_eq_some_iff] at hc
              obtain ⟨v', hv', hq⟩ := hc
              cases hq
              have s0 : SR w (fun _ => none) im [] :=
                ⟨fun id p hp => (by cases hp), fun id p hp => (by cases hp), s.imlt, (by rintro b ⟨id, q, hq, _⟩; cases hq), fun id cs hc => (by simp at hc), fun id es ck hc => (by simp at hc), (by rintro i j p q ⟨b, hb, _⟩; simp at hb)⟩
              obtain ⟨g1, g2⟩ := body_sound ih (acall_mem A k) hfol hg hcf hb s0 hsz hnp' (fun i x hx => .imm ((ha i x hx).to_imm (immL_spec himm i x hx)))
              refine ⟨g1, g2.mono ?_⟩
              rintro e w' ⟨rv, phi', im', rfl, z1, z2, z3⟩
              obtain ⟨t1, t2⟩ := s.past z2 z3
              exact ⟨rv, phi, _, rfl, .imm (reify_sound z2 k v0 v rv hv' z1), t1, t2⟩
            · cases hc
        · split at hc
          · cases hc
          · split at hc
            · rename_i v0 h0 w0 hb
              cases hc
              exact body_sound ih (acall_mem A k) hfol hg hcf hb s hsz hnp' ha
            · cases hc

end
end Go.AM
