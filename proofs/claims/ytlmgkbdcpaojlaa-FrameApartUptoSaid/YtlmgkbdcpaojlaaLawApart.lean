/- Proved here: the law FrameApart of chapter 23 answers true over every function of the program that is of bulk at most 1048576, and leaves it as it was; no further condition. -/
import Derived.Test.YtlmgkbdcpaojlaaWf
import Derived.WalkKit
import Derived.ProofKit
namespace Go.Proofs.Ytlmgkbdcpaojlaa.frameApart
open Go.ChangeShapes Go.WideShapes Go.ChangeAt Go.RowKit Go.AM
set_option linter.unusedVariables false
theorem own : ownKnob Try.prog.godebug = none := by kernel_rfl
theorem laidOut : laidOutB Try.prog = true := by kernel_rfl
theorem contract (H : Type) (enc : TypeId × Value → H) (W : World) (base : Nat) (args : Array Value) (ds gs : List (DataW H)) (before : List MemPlace)
    (hval : ∀ (j : Nat) t v, Try.f4.params[j]? = some t → args[j]? = some v → Value.okWide Try.prog W .any base t v)
    (hW : DataW.Whole enc Try.prog Try.f4.params.toList Rows.frameApartSpec.vars false W args.toList ds gs before) (hB : Rows.uptoSmall H (ds ++ gs) = true) :
    Calls Try.prog 4 args W fun e W' => ∃ v, e = .returned v ∧ Rows.frameApartSpec.post enc Try.prog Try.f4 false true false false W args v W' := by
  have hgs : gs = [] := by
    obtain ⟨p, q, _, hV, _⟩ := hW
    exact (trodVars_none hV).1
  subst hgs
  have hlen : ∃ d, ds = [d] := by
    obtain ⟨p, q, hT, _⟩ := hW
    rw [Try.params4] at hT
    obtain ⟨v, vs, d, ds', p', q', _, rfl, _, _, r⟩ := trodAll_cons hT
    obtain ⟨_, rfl, _⟩ := trodAll_nil r
    exact ⟨d, rfl⟩
  obtain ⟨d, rfl⟩ := hlen
  have hb : Rows.uptoBulkAll [d] ≤ 1048576 := by
    have h := hB
    simp only [List.append_nil] at h
    exact of_decide_eq_true h
  exact law_contract tab_ok follows laidOut (B := 1048576) (ss := f4s) (by kernel_rfl) (by kernel_rfl) (rt := 4) (by kernel_rfl) (by kernel_rfl) apart_law rfl hval hW (upto_withinL _ hb) ⟨rfl, rfl, rfl⟩
set_option maxRecDepth 100000 in
theorem lifted (os : Os) (started : os.Started) (H : Type) (enc : TypeId × Value → H) (F : Stop.Interp) :
    ReturnsInHanded {} Try.checked os 4 .any ((Rows.OpenSpec.upto Rows.frameApartSpec).pre6 enc Try.prog Try.f4 Rows.frameApartUptoRow.domain false) (((Rows.OpenSpec.upto Rows.frameApartSpec).at F).post enc Try.prog Try.f4 false true false false) := by
  refine returnsInHanded_of_cond (C := Try.checked) (s := Rows.OpenSpec.upto Rows.frameApartSpec) (k := Rows.uptoSmall) rfl own started (by kernel_rfl) Try.func4
    (OpenSpec.witness (enc := enc) (C := Try.checked) (s := Rows.OpenSpec.upto Rows.frameApartSpec) (k := Rows.uptoSmall) rfl false ⟨#[], #[.agg #[.string ByteArray.empty, .int .i64 0, .int .i64 0, .bool false, .slice none 0 0, .slice none 0 0]], []⟩ 8 (by kernel_rfl) (by kernel_rfl) (by kernel_rfl)
      (x := ([.agg [.lit (.string []), .lit (.int .i64 0), .lit (.int .i64 0), .lit (.bool false), .nil, .nil]], [], [])) (by kernel_rfl) rfl (by kernel_rfl)) ?_
  intro W base args ds gs before hval hW _ hk _
  exact contract H enc W base args ds gs before hval hW hk
theorem over : Rows.frameApartUptoRow.holds Try.pinned (Rows.OpenSpec.upto Rows.frameApartSpec) :=
  OpenClaim.holds_of_cond 4 Try.f4 rfl rfl rfl rfl rfl rfl rfl ⟨rfl, rfl, rfl, rfl, rfl⟩ rfl rfl rfl rfl rfl (by kernel_rfl) Try.func4 (by kernel_rfl)
    (of_decide_eq_true (by kernel_rfl)) (by unfold Func.isWrapper; first | (rw [if_pos (by decide +kernel)]; kernel_rfl) | (rw [if_neg (by decide +kernel)]; exact ⟨rfl, rfl⟩))
    (fun os started H enc _ F => lifted os started H enc F)
theorem proved : Rows.FrameApartUptoSaid := over
end Go.Proofs.Ytlmgkbdcpaojlaa.frameApart
namespace Go.Proofs.Ytlmgkbdcpaojlaa
/-- The row, under a short name, for the claim. -/
theorem frameApart_holds : Rows.FrameApartUptoSaid := frameApart.proved
end Go.Proofs.Ytlmgkbdcpaojlaa
