/- Proved here: the law ConvKinds of chapter 7 answers true over every four numbers and every two words, where they are together of bulk at most 1048576, and leaves them as they were; no further condition. -/
import Derived.Test.YtkgpdillhnmpdaaWe
import Derived.WalkKit
import Derived.ProofKit
namespace Go.Proofs.Ytkgpdillhnmpdaa.convKinds
open Go.ChangeShapes Go.WideShapes Go.ChangeAt Go.RowKit Go.AM
set_option linter.unusedVariables false
set_option maxRecDepth 100000
theorem own : ownKnob Try.prog.godebug = none := by kernel_rfl
theorem laidOut : laidOutB Try.prog = true := by kernel_rfl
theorem contract (H : Type) (enc : TypeId × Value → H) (W : World) (base : Nat) (args : Array Value) (ds gs : List (DataW H)) (before : List MemPlace)
    (hval : ∀ (j : Nat) t v, Try.f4.params[j]? = some t → args[j]? = some v → Value.okWide Try.prog W .any base t v)
    (hW : DataW.Whole enc Try.prog Try.f4.params.toList Rows.convKindsSpec.vars false W args.toList ds gs before) (hB : Rows.uptoSmall H (ds ++ gs) = true) :
    Calls Try.prog 4 args W fun e W' => ∃ v, e = .returned v ∧ Rows.convKindsSpec.post enc Try.prog Try.f4 false true false false W args v W' := by
  have hgs : gs = [] := by
    obtain ⟨p, q, _, hV, _⟩ := hW
    exact (trodVars_none hV).1
  subst hgs
  have hlen : ∃ d0 d1 d2 d3 d4 d5, ds = [d0, d1, d2, d3, d4, d5] := by
    obtain ⟨p, q, hT, _⟩ := hW
    rw [Try.params4] at hT
    obtain ⟨v0, vs0, d0, ds0, p0, q0, _, rfl, _, _, r0⟩ := trodAll_cons hT
    obtain ⟨v1, vs1, d1, ds1, p1, q1, _, rfl, _, _, r1⟩ := trodAll_cons r0
    obtain ⟨v2, vs2, d2, ds2, p2, q2, _, rfl, _, _, r2⟩ := trodAll_cons r1
    obtain ⟨v3, vs3, d3, ds3, p3, q3, _, rfl, _, _, r3⟩ := trodAll_cons r2
    obtain ⟨v4, vs4, d4, ds4, p4, q4, _, rfl, _, _, r4⟩ := trodAll_cons r3
    obtain ⟨v5, vs5, d5, ds5, p5, q5, _, rfl, _, _, r5⟩ := trodAll_cons r4
    obtain ⟨_, rfl, _⟩ := trodAll_nil r5
    exact ⟨d0, d1, d2, d3, d4, d5, rfl⟩
  obtain ⟨d0, d1, d2, d3, d4, d5, rfl⟩ := hlen
  have hb : Rows.uptoBulkAll [d0, d1, d2, d3, d4, d5] ≤ 1048576 := by
    have h := hB
    simp only [List.append_nil] at h
    exact of_decide_eq_true h
  exact law_contract tab_ok follows laidOut (B := 1048576) (ss := f4s) (by kernel_rfl) (by kernel_rfl) (rt := 4) (by kernel_rfl) (by kernel_rfl) kinds_law rfl hval hW (upto_withinL _ hb) ⟨rfl, rfl, rfl⟩

theorem lifted (os : Os) (started : os.Started) (H : Type) (enc : TypeId × Value → H) (F : Stop.Interp) :
    ReturnsInHanded {} Try.checked os 4 .any ((Rows.OpenSpec.upto Rows.convKindsSpec).pre6 enc Try.prog Try.f4 Rows.convKindsUptoRow.domain false) (((Rows.OpenSpec.upto Rows.convKindsSpec).at F).post enc Try.prog Try.f4 false true false false) := by
  refine returnsInHanded_of_cond (C := Try.checked) (s := Rows.OpenSpec.upto Rows.convKindsSpec) (k := Rows.uptoSmall) rfl own started (by kernel_rfl) Try.func4
    (OpenSpec.witness (enc := enc) (C := Try.checked) (s := Rows.OpenSpec.upto Rows.convKindsSpec) (k := Rows.uptoSmall) rfl false ⟨#[], #[.int .i64 0, .int .i64 0, .int .i64 0, .int .i64 0, .int .u32 0, .int .u32 0], []⟩ 5 (by kernel_rfl) (by kernel_rfl) (by kernel_rfl)
      (x := ([.lit (.int .i64 0), .lit (.int .i64 0), .lit (.int .i64 0), .lit (.int .i64 0), .lit (.int .u32 0), .lit (.int .u32 0)], [], [])) (by kernel_rfl) rfl (by kernel_rfl)) ?_
  intro W base args ds gs before hval hW _ hk _
  exact contract H enc W base args ds gs before hval hW hk
theorem over : Rows.convKindsUptoRow.holds Try.pinned (Rows.OpenSpec.upto Rows.convKindsSpec) :=
  OpenClaim.holds_of_cond 4 Try.f4 rfl rfl rfl rfl rfl rfl rfl ⟨rfl, rfl, rfl, rfl, rfl⟩ rfl rfl rfl rfl rfl (by kernel_rfl) Try.func4 (by kernel_rfl)
    (of_decide_eq_true (by kernel_rfl)) (by unfold Func.isWrapper; first | (rw [if_pos (by decide +kernel)]; kernel_rfl) | (rw [if_neg (by decide +kernel)]; exact ⟨rfl, rfl⟩))
    (fun os started H enc _ F => lifted os started H enc F)
theorem proved : Rows.ConvKindsUptoSaid := over
end Go.Proofs.Ytkgpdillhnmpdaa.convKinds
namespace Go.Proofs.Ytkgpdillhnmpdaa
/-- The row, under a short name, for the claim. -/
theorem convKinds_holds : Rows.ConvKindsUptoSaid := convKinds.proved
end Go.Proofs.Ytkgpdillhnmpdaa
