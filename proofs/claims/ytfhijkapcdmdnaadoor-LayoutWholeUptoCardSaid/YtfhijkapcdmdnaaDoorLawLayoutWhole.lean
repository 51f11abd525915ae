/- Proved here: gaps and what members have are the whole object, and share nothing. -/
import Derived.Test.YtfhijkapcdmdnaaDoorZf
import Derived.Test.YtfhijkapcdmdnaaDoorCards
import Derived.Test.YtfhijkapcdmdnaaDoorTie
import Derived.WalkKit
import Derived.ProofKit
import Derived.OpenShut
import Derived.Deep.DeepHandedRow
import Derived.Lib.LaidTab
namespace Go.Proofs.YtfhijkapcdmdnaaDoor.layoutWhole
open Go.ChangeShapes Go.WideShapes Go.ChangeAt Go.RowKit Go.AM
set_option linter.unusedVariables false
set_option maxRecDepth 100000
theorem own : ownKnob Tryd.prog.godebug = none := by kernel_rfl
theorem laidOut : laidOutB Tryd.prog = true := by kernel_rfl
theorem contract (H : Type) (enc : TypeId × Value → H) (W : World) (base : Nat) (args : Array Value) (ds gs : List (DataW H)) (before : List MemPlace)
    (hval : ∀ (j : Nat) t v, Tryd.f5.params[j]? = some t → args[j]? = some v → Value.okWide Tryd.prog W .any base t v)
    (hW : DataW.Whole enc Tryd.prog Tryd.f5.params.toList Rows.layoutWholeSpec.vars false W args.toList ds gs before) (hB : Rows.uptoSmall H (ds ++ gs) = true) (hL : laidMetH Tryd.prog Rows.layoutWholeUptoRow.laid W) (hsh : W.ShapedOpen Tryd.prog) :
    Calls Tryd.prog 5 args W fun e W' => ∃ v, e = .returned v ∧ Rows.layoutWholeSpec.post enc Tryd.prog Tryd.f5 false true false false W args v W' := by
  have hgs : gs = [] := by
    obtain ⟨p, q, _, hV, _⟩ := hW
    exact (trodVars_none hV).1
  subst hgs
  have hlen : ∃ d0 d1, ds = [d0, d1] := by
    obtain ⟨p, q, hT, _⟩ := hW
    rw [Tryd.params5] at hT
    obtain ⟨v0, vs0, d0, ds0, p0, q0, _, rfl, _, _, r0⟩ := trodAll_cons hT
    obtain ⟨v1, vs1, d1, ds1, p1, q1, _, rfl, _, _, r1⟩ := trodAll_cons r0
    obtain ⟨_, rfl, _⟩ := trodAll_nil r1
    exact ⟨d0, d1, rfl⟩
  obtain ⟨d0, d1, rfl⟩ := hlen
  have hb : Rows.uptoBulkAll [d0, d1] ≤ 1048576 := by
    have h := hB
    simp only [List.append_nil] at h
    exact of_decide_eq_true h
  exact law_contract xok tab_ok follows laidOut (B := 1048576) (ss := f5s) (by kernel_rfl) (by kernel_rfl) (rt := 4) (by kernel_rfl) (by kernel_rfl) whole_args rfl hval hW (upto_withinL _ hb) (gok hL (by simp [Rows.layoutWholeUptoRow]) (by simp [Rows.layoutWholeUptoRow]) (ints_ok hsh)) ⟨rfl, rfl, rfl⟩

/-- What a listed datum lays. -/
def valsOf : DataW Unit → List Value
  | .lit (.bool b) => [.bool b]
  | .lit (.int k n) => [.int k n]
  | .lit (.string s) => [.string ⟨s.toArray⟩]
  | .agg ps => valsL ps
  | _ => []
where valsL : List (DataW Unit) → List Value
  | [] => []
  | d :: r => valsOf d ++ valsL r
def vals (d : DataW Unit) : Array Value := (valsOf d).toArray
noncomputable def laidHeap (h : Array Obj) : Array Obj :=
  let h2 := h.modify 2 fun
      | .cells _ t fr => .cells (vals Rows.laid_unicode_utf8_acceptRanges) t fr
      | o => o
  let h := h2
  let h1 := h.modify 1 fun
      | .cells _ t fr => .cells (vals Rows.laid_unicode_utf8_first) t fr
      | o => o
  let h := h1
  h
noncomputable def laidWorld (os : Os) : World := { World.holding Tryd.prog os ⟨#[], #[], []⟩ with heap := laidHeap (World.holding Tryd.prog os ⟨#[], #[], []⟩).heap }
theorem laid_met (os : Os) : laidMet Tryd.prog Rows.layoutWholeUptoRow.laid ((laidWorld os).forCall (fun _ _ => 0) ⟨#[], #[.slice none 0 0, .int .i64 0], []⟩).memory :=
  laidMet_of_run' 8 (by kernel_rfl) (by kernel_rfl)
theorem reads (os : Os) {H : Type} (enc : TypeId × Value → H) : ∃ places, DataW.whole enc Tryd.prog ((laidWorld os).forCall (fun _ _ => 0) ⟨#[], #[.slice none 0 0, .int .i64 0], []⟩).memory Tryd.f5.params.toList Rows.layoutWholeSpec.vars false (#[.slice none 0 0, .int .i64 0] : Array Value).toList 9 = some ([.nil, .lit (.int .i64 0)], [], places) :=
  ⟨[], by kernel_rfl⟩
theorem lifted (os : Os) (started : os.Started) (H : Type) (enc : TypeId × Value → H) (F : Stop.Interp) :
    ReturnsInHanded {} Tryd.checked os 5 .any ((Rows.OpenSpec.upto Rows.layoutWholeSpec).preRow enc Tryd.prog Tryd.f5 Rows.layoutWholeUptoRow.domain false Rows.layoutWholeUptoRow.laid) (((Rows.OpenSpec.upto Rows.layoutWholeSpec).at F).post enc Tryd.prog Tryd.f5 false true false false) := by
  obtain ⟨places, hx⟩ := reads os enc
  refine returnsInHanded_of_row (C := Tryd.checked) (s := Rows.OpenSpec.upto Rows.layoutWholeSpec) own started (by kernel_rfl) Tryd.func5
    (witness_row_at (enc := enc) (C := Tryd.checked) false (laidWorld os) #[.slice none 0 0, .int .i64 0] rfl (by kernel_rfl) (by kernel_rfl) (by kernel_rfl)
      (OpenSpec.preRow_of_cond 9 hx (by kernel_rfl) (fun k hk => by cases hk; kernel_rfl) (by kernel_rfl) (laid_met os))) ?_
  intro W base args ds gs before hval hW _ hcond _ hL hsh _
  exact contract H enc W base args ds gs before hval hW (hcond _ rfl) hL hsh
theorem over : Rows.LayoutWholeUptoSaid :=
  OpenClaim.holds_of_cond 5 Tryd.f5 rfl rfl rfl rfl rfl rfl rfl ⟨rfl, rfl, rfl, rfl, rfl⟩ rfl rfl rfl rfl rfl (by kernel_rfl) Tryd.func5 (by kernel_rfl)
    (of_decide_eq_true (by kernel_rfl)) (by unfold Func.isWrapper; first | (rw [if_pos (by decide +kernel)]; kernel_rfl) | (rw [if_neg (by decide +kernel)]; exact ⟨rfl, rfl⟩))
    (fun os started H enc _ F => by rw [OpenClaim.pre_eq_preRow]; exact lifted os started H enc F)
theorem plain (f : FuncId) (fn : Func) (hf : Tryd.pinned.checked.prog.funcNamed "mortise/mortiselaw05.LayoutWhole" = some f) (hfn : Tryd.pinned.checked.prog.funcs[f]? = some fn) :
    false = Tryd.pinned.checked.prog.looks [] ∧ ∀ (j : Nat) t, fn.params[j]? = some t → Tryd.pinned.checked.prog.wantsStandIn t = false := by
  obtain rfl : f = 5 := Option.some.inj ((show Tryd.prog.funcNamed "mortise/mortiselaw05.LayoutWhole" = some 5 by kernel_rfl).symm.trans hf) |>.symm
  obtain rfl : fn = Tryd.f5 := (Option.some.inj (Tryd.func5.symm.trans hfn)).symm
  refine ⟨by kernel_rfl, fun j t ht => ?_⟩
  have hall : (Tryd.f5.params.toList.all fun t => !Tryd.prog.wantsStandIn t) = true := by kernel_rfl
  have hm : t ∈ Tryd.f5.params.toList := by
    have := Array.mem_of_getElem? ht
    simpa using this
  have h1 := List.all_eq_true.1 hall t hm
  exact (by simpa using h1 : Tryd.prog.wantsStandIn t = false)
theorem proved : Rows.LayoutWholeUptoCardSaid :=
  Claim7.holds_tied_plain_at .later [] _ _ _ _ over (fun _ h => by cases h) (by kernel_rfl) (fun _ h => by cases h) layoutWholeUpto_row_tie rfl ⟨rfl, rfl⟩ (by kernel_rfl) rfl plain (by kernel_rfl)
end Go.Proofs.YtfhijkapcdmdnaaDoor.layoutWhole
namespace Go.Proofs.YtfhijkapcdmdnaaDoor
/-- The card, under a short name, for the claim. -/
theorem layoutWhole_holds : Rows.LayoutWholeUptoCardSaid := layoutWhole.proved
end Go.Proofs.YtfhijkapcdmdnaaDoor
