/- Proved here: the law FrameMoves of chapter 23 answers true over every row of moves of bulk at most 1048576 and every spare register: moves done one after the other come to what they come to at one time, and are no more than the moves and the cycles; no further condition. -/
import Derived.Test.YtfhijkapcdmdnaaMn
import Derived.WalkKit
import Derived.ProofKit
namespace Go.Proofs.Ytfhijkapcdmdnaa.frameMoves
open Go.ChangeShapes Go.WideShapes Go.ChangeAt Go.RowKit Go.AM
set_option linter.unusedVariables false
set_option maxRecDepth 100000
theorem own : ownKnob Try.prog.godebug = none := by kernel_rfl
theorem laidOut : laidOutB Try.prog = true := by kernel_rfl
theorem contract (H : Type) (enc : TypeId × Value → H) (W : World) (base : Nat) (args : Array Value) (ds gs : List (DataW H)) (before : List MemPlace)
    (hval : ∀ (j : Nat) t v, Try.f3.params[j]? = some t → args[j]? = some v → Value.okWide Try.prog W .any base t v)
    (hW : DataW.Whole enc Try.prog Try.f3.params.toList Rows.frameMovesSpec.vars false W args.toList ds gs before) (hB : Rows.uptoSmall H (ds ++ gs) = true) :
    Calls Try.prog 3 args W fun e W' => ∃ v, e = .returned v ∧ Rows.frameMovesSpec.post enc Try.prog Try.f3 false true false false W args v W' := by
  have hgs : gs = [] := by
    obtain ⟨p, q, _, hV, _⟩ := hW
    exact (trodVars_none hV).1
  subst hgs
  have hlen : ∃ d0 d1, ds = [d0, d1] := by
    obtain ⟨p, q, hT, _⟩ := hW
    rw [Try.params3] at hT
    obtain ⟨v0, vs0, d0, ds0, p0, q0, _, rfl, _, _, r0⟩ := trodAll_cons hT
    obtain ⟨v1, vs1, d1, ds1, p1, q1, _, rfl, _, _, r1⟩ := trodAll_cons r0
    obtain ⟨_, rfl, _⟩ := trodAll_nil r1
    exact ⟨d0, d1, rfl⟩
  obtain ⟨d0, d1, rfl⟩ := hlen
  have hb : Rows.uptoBulkAll [d0, d1] ≤ 1048576 := by
    have h := hB
    simp only [List.append_nil] at h
    exact of_decide_eq_true h
  exact law_contract xok tab_ok follows laidOut (B := 1048576) (ss := f3s) (by kernel_rfl) (by kernel_rfl) (rt := 4) (by kernel_rfl) (by kernel_rfl) moves_args rfl hval hW (upto_withinL _ hb) ⟨fun g row h => (by cases h), fun g h => (by cases h)⟩ ⟨rfl, rfl, rfl⟩

theorem lifted (os : Os) (started : os.Started) (H : Type) (enc : TypeId × Value → H) (F : Stop.Interp) :
    ReturnsInHanded {} Try.checked os 3 .any ((Rows.OpenSpec.upto Rows.frameMovesSpec).pre6 enc Try.prog Try.f3 Rows.frameMovesUptoRow.domain false) (((Rows.OpenSpec.upto Rows.frameMovesSpec).at F).post enc Try.prog Try.f3 false true false false) := by
  refine returnsInHanded_of_cond (C := Try.checked) (s := Rows.OpenSpec.upto Rows.frameMovesSpec) (k := Rows.uptoSmall) rfl own started (by kernel_rfl) Try.func3
    (OpenSpec.witness (enc := enc) (C := Try.checked) (s := Rows.OpenSpec.upto Rows.frameMovesSpec) (k := Rows.uptoSmall) rfl false ⟨#[], #[.slice none 0 0, .int .i64 0], []⟩ 5 (by kernel_rfl) (by kernel_rfl) (by kernel_rfl)
      (x := ([.nil, .lit (.int .i64 0)], [], [])) (by kernel_rfl) rfl (by kernel_rfl)) ?_
  intro W base args ds gs before hval hW _ hk _
  exact contract H enc W base args ds gs before hval hW hk
theorem over : Rows.frameMovesUptoRow.holds Try.pinned (Rows.OpenSpec.upto Rows.frameMovesSpec) :=
  OpenClaim.holds_of_cond 3 Try.f3 rfl rfl rfl rfl rfl rfl rfl ⟨rfl, rfl, rfl, rfl, rfl⟩ rfl rfl rfl rfl rfl (by kernel_rfl) Try.func3 (by kernel_rfl)
    (of_decide_eq_true (by kernel_rfl)) (by unfold Func.isWrapper; first | (rw [if_pos (by decide +kernel)]; kernel_rfl) | (rw [if_neg (by decide +kernel)]; exact ⟨rfl, rfl⟩))
    (fun os started H enc _ F => lifted os started H enc F)
theorem proved : Rows.FrameMovesUptoSaid := over
end Go.Proofs.Ytfhijkapcdmdnaa.frameMoves
namespace Go.Proofs.Ytfhijkapcdmdnaa
/-- The row, under a short name, for the claim. -/
theorem frameMoves_holds : Rows.FrameMovesUptoSaid := frameMoves.proved
end Go.Proofs.Ytfhijkapcdmdnaa
