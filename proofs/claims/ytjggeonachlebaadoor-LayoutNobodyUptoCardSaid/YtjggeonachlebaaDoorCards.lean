/-
  DERIVED. GIVEN WITH THE SEED: THE CARDS: each row of YtjggeonachlebaaDoorRows.lean that lists a variable, with what it lists TIED to the program's text (the seventh form; the later family's looks); each row that meets fmt, with fmt's text TOLD by the authors' own Lean function (tested against real Go, not proved from fmt's source: count such statements apart). THE CARD IS WHAT COUNTS. Prove the row's statement (the work); the ties are given (YtjggeonachlebaaDoorTie.lean); close each card by the builder's one call (the guide's Derived/Test/ToyasCard.lean, 'card_holds'). Laid BY PROGRAM, IN A SANDBOX (cutbox-door.mjs). By AI agents, Wed Nov 11 2026. No macro, syntax, notation, axiom, sorry.
-/
import Derived.Test.YtjggeonachlebaaDoorRows
import GoSem.ClaimSeven
namespace Go.Proofs.YtjggeonachlebaaDoor
namespace Rows

/-- THE TIED CARD OF 'mortiselaw05.LayoutNobody'. -/
def layoutNobodyCard : Claim7 := { stood := { row := layoutNobodyRow, standIns := [], harness := (true, "12cf573eaf96153a47bfc9bc189f6c76863b364a0d22cf3b073c5aab9cc6912e"), looks := false }, kinds := [], alts := [], laidByText := true, laidKinds := [.data, .pinned], laidTests := true, laidLooks := .later }
def LayoutNobodyCardSaid : Prop := Claim7.holds Tryd.pinned (.plain (OpenSpec.ofChange layoutNobodySpec)) layoutNobodyCard

/-- THE SECOND FORM's CARD OF 'mortiselaw05.LayoutNobody'. -/
def layoutNobodyUptoCard : Claim7 := { stood := { row := layoutNobodyUptoRow, standIns := [], harness := (true, "12cf573eaf96153a47bfc9bc189f6c76863b364a0d22cf3b073c5aab9cc6912e"), looks := false }, kinds := [], alts := [], laidByText := true, laidKinds := [.data, .pinned], laidTests := true, laidLooks := .later }
def LayoutNobodyUptoCardSaid : Prop := Claim7.holds Tryd.pinned (.plain (OpenSpec.upto layoutNobodySpec)) layoutNobodyUptoCard
end Rows
end Go.Proofs.YtjggeonachlebaaDoor
