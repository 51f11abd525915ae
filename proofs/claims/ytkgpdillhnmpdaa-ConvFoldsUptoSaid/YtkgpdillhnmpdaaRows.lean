/-
  No cell of these rows narrows 'for every input' (looked for: loops, veiled, ifaces, maps, wideKeys, modest, calm, conditions, laid).
  DERIVED. THE GIVEN ROWS OF THIS SEAT. 3 by the template 'for every input the law returns true; each argument reads behind the call as it read before'; 0 by the template 'total and deterministic' (their statements: YtkgpdillhnmpdaaTotals.lean).
  GIVEN WITH THE SEED: the statements are not yours to turn. If you find one false, say at which input.
  Laid BY PROGRAM, IN A SANDBOX (cutbox-rows.mjs): the forced cells as the released guide's own fill.sh prints them over the translation 0cd344ea47c948d7… (all of the seat's roots in one cut). By AI agents, Wed Nov 11 2026. No macro, syntax, notation, axiom, sorry.
-/
import Derived.Test.YtkgpdillhnmpdaaChecked
import GoSem.Claim
import GoSem.ClaimJoined
import GoSem.ClaimMapViews
import Derived.JoinedTies
import Derived.KernelRfl
namespace Go.Proofs.Ytkgpdillhnmpdaa
/- THE CELL 'sum', in the pinned program and in every row, IS THE sha256 OF THE DUMP (.gsa) THAT YtkgpdillhnmpdaaProg.lean LOADS. Nothing in Lean hashes anything: it is a label: what it is worth is what the hold of that sum in a sandbox is worth. -/
noncomputable def Try.pinned : Pinned := { name := "ytkgpdillhnmpdaa", sum := "0cd344ea47c948d730f4a27006efe861c54d0cd8f05e96d7d8fe0b09f3988402", checked := Try.checked }
namespace Rows
def none {H : Type} : Left H := { results := [], args := [] }

/-- 'mortiselaw07.ConvFolds': WHATEVER THE INPUT: true; the input reads as it did. -/
def convFoldsSpec : ChangeSpec := { name := "convFolds", fn := fun _ => fun
  | [d1, d2, d3, d4] => { results := [.lit (.bool true)], args := [d1, d2, d3, d4] }
  | _ => none }
def convFoldsRow : OpenClaim := { program := "ytkgpdillhnmpdaa", sum := "0cd344ea47c948d730f4a27006efe861c54d0cd8f05e96d7d8fe0b09f3988402", func := "mortise/mortiselaw07.ConvFolds", spec := "convFolds", unfollowed := true, recurses := true, plainKeys := false, apart := false }
def ConvFoldsSaid : Prop := convFoldsRow.holds Try.pinned (OpenSpec.ofChange convFoldsSpec)

/-- ITS FALSE NEIGHBOUR: 'it returns false'. Refute it at one input. -/
def convFoldsWrong : ChangeSpec := { name := "convFolds", fn := fun _ => fun
  | [d1, d2, d3, d4] => { results := [.lit (.bool false)], args := [d1, d2, d3, d4] }
  | _ => none }
def ConvFoldsWrongFalsely : Prop := convFoldsRow.holds Try.pinned (OpenSpec.ofChange convFoldsWrong)

/-- 'mortiselaw07.ConvKinds': WHATEVER THE INPUT: true; the input reads as it did. -/
def convKindsSpec : ChangeSpec := { name := "convKinds", fn := fun _ => fun
  | [d1, d2, d3, d4, d5, d6] => { results := [.lit (.bool true)], args := [d1, d2, d3, d4, d5, d6] }
  | _ => none }
def convKindsRow : OpenClaim := { program := "ytkgpdillhnmpdaa", sum := "0cd344ea47c948d730f4a27006efe861c54d0cd8f05e96d7d8fe0b09f3988402", func := "mortise/mortiselaw07.ConvKinds", spec := "convKinds", unfollowed := true, recurses := true, plainKeys := false, apart := false }
def ConvKindsSaid : Prop := convKindsRow.holds Try.pinned (OpenSpec.ofChange convKindsSpec)

/-- ITS FALSE NEIGHBOUR: 'it returns false'. Refute it at one input. -/
def convKindsWrong : ChangeSpec := { name := "convKinds", fn := fun _ => fun
  | [d1, d2, d3, d4, d5, d6] => { results := [.lit (.bool false)], args := [d1, d2, d3, d4, d5, d6] }
  | _ => none }
def ConvKindsWrongFalsely : Prop := convKindsRow.holds Try.pinned (OpenSpec.ofChange convKindsWrong)

/-- 'mortiselaw07.ConvNobody': WHATEVER THE INPUT: true; the input reads as it did. -/
def convNobodySpec : ChangeSpec := { name := "convNobody", fn := fun _ => fun
  | [d1, d2, d3] => { results := [.lit (.bool true)], args := [d1, d2, d3] }
  | _ => none }
def convNobodyRow : OpenClaim := { program := "ytkgpdillhnmpdaa", sum := "0cd344ea47c948d730f4a27006efe861c54d0cd8f05e96d7d8fe0b09f3988402", func := "mortise/mortiselaw07.ConvNobody", spec := "convNobody", unfollowed := true, recurses := true, plainKeys := false, apart := false }
def ConvNobodySaid : Prop := convNobodyRow.holds Try.pinned (OpenSpec.ofChange convNobodySpec)

/-- ITS FALSE NEIGHBOUR: 'it returns false'. Refute it at one input. -/
def convNobodyWrong : ChangeSpec := { name := "convNobody", fn := fun _ => fun
  | [d1, d2, d3] => { results := [.lit (.bool false)], args := [d1, d2, d3] }
  | _ => none }
def ConvNobodyWrongFalsely : Prop := convNobodyRow.holds Try.pinned (OpenSpec.ofChange convNobodyWrong)

/- THE SECOND FORM. 'bulk': how many values and letters a reading holds, each counted each time it is reached (what is shared counts as often as it is met; a slice's spare places count too). A statement '..UptoSaid' is the law's where the arguments, and the package variables that the reading takes, are together of bulk at most 1048576: NARROWER than '..Said'. Prove '..Said' where nothing that the law and all that it calls make is longer than what came in: it says more and counts as full. Else prove '..UptoSaid'. A law counts once. -/
mutual
def uptoBulk {H : Type} : DataW H → Nat
  | .lit (.string bytes) => bytes.length + 1
  | .lit _ => 1
  | .nil => 1
  | .ptr d => uptoBulk d + 1
  | .slice elems spare => uptoBulkAll elems + uptoBulkAll spare + 1
  | .agg parts => uptoBulkAll parts + 1
  | .iface _ d => uptoBulk d + 1
  | .map entries => uptoBulkEntries entries + 1
  | .held _ => 1
def uptoBulkAll {H : Type} : List (DataW H) → Nat
  | [] => 0
  | d :: r => uptoBulk d + uptoBulkAll r
def uptoBulkEntries {H : Type} : List (Lit × DataW H) → Nat
  | [] => 0
  | x :: r => uptoBulkEntry x + uptoBulkEntries r
def uptoBulkEntry {H : Type} : Lit × DataW H → Nat
  | (.string bytes, d) => bytes.length + uptoBulk d + 1
  | (_, d) => uptoBulk d + 1
 end
def uptoSmall : (H : Type) → List (DataW H) → Bool := fun _ ds => decide (uptoBulkAll ds ≤ 1048576)
def OpenSpec.upto (s : _root_.Go.ChangeSpec) : _root_.Go.OpenSpec := { _root_.Go.OpenSpec.ofChange s with cond := some uptoSmall }

/-- 'mortiselaw07.ConvFolds', WHERE WHAT IT READS IS OF BULK AT MOST 1048576: true; the input reads as it did. -/
def convFoldsUptoRow : OpenClaim := { program := "ytkgpdillhnmpdaa", sum := "0cd344ea47c948d730f4a27006efe861c54d0cd8f05e96d7d8fe0b09f3988402", func := "mortise/mortiselaw07.ConvFolds", spec := "convFolds", unfollowed := true, recurses := true, plainKeys := false, apart := false, narrowed := true }
def ConvFoldsUptoSaid : Prop := convFoldsUptoRow.holds Try.pinned (OpenSpec.upto convFoldsSpec)

/-- 'mortiselaw07.ConvKinds', WHERE WHAT IT READS IS OF BULK AT MOST 1048576: true; the input reads as it did. -/
def convKindsUptoRow : OpenClaim := { program := "ytkgpdillhnmpdaa", sum := "0cd344ea47c948d730f4a27006efe861c54d0cd8f05e96d7d8fe0b09f3988402", func := "mortise/mortiselaw07.ConvKinds", spec := "convKinds", unfollowed := true, recurses := true, plainKeys := false, apart := false, narrowed := true }
def ConvKindsUptoSaid : Prop := convKindsUptoRow.holds Try.pinned (OpenSpec.upto convKindsSpec)

/-- 'mortiselaw07.ConvNobody', WHERE WHAT IT READS IS OF BULK AT MOST 1048576: true; the input reads as it did. -/
def convNobodyUptoRow : OpenClaim := { program := "ytkgpdillhnmpdaa", sum := "0cd344ea47c948d730f4a27006efe861c54d0cd8f05e96d7d8fe0b09f3988402", func := "mortise/mortiselaw07.ConvNobody", spec := "convNobody", unfollowed := true, recurses := true, plainKeys := false, apart := false, narrowed := true }
def ConvNobodyUptoSaid : Prop := convNobodyUptoRow.holds Try.pinned (OpenSpec.upto convNobodySpec)

end Rows
end Go.Proofs.Ytkgpdillhnmpdaa
