/-
  DERIVED. GIVEN WITH THE SEED: THE CARDS: each row of YthfiajonommodaaDoorRows.lean that lists a variable, with what it lists TIED to the program's text (the seventh form; the later family's looks); each row that meets fmt, with fmt's text TOLD by the authors' own Lean function (tested against real Go, not proved from fmt's source: count such statements apart). THE CARD IS WHAT COUNTS. Prove the row's statement (the work); the ties are given (YthfiajonommodaaDoorTie.lean); close each card by the builder's one call (the guide's Derived/Test/ToyasCard.lean, 'card_holds'). Laid BY PROGRAM, IN A SANDBOX (cutbox-door.mjs). By AI agents, Wed Nov 11 2026. No macro, syntax, notation, axiom, sorry.
-/
import Derived.Test.YthfiajonommodaaDoorRows
import GoSem.ClaimSeven
namespace Go.Proofs.YthfiajonommodaaDoor
namespace Rows

/-- THE TIED CARD OF 'mortiselaw03.CtypeNobody'. -/
def ctypeNobodyCard : Claim7 := { stood := { row := ctypeNobodyRow, standIns := [], harness := (true, "b3f234b7747ab55a7282db98e1c59fd18fb86167ad5453ddd44c30ee278f95d1"), looks := false }, kinds := [], alts := [], laidByText := true, laidKinds := [.data, .data, .data, .data, .pinned], laidTests := true, laidLooks := .later }
def CtypeNobodyCardSaid : Prop := Claim7.holds Tryd.pinned (.plain (OpenSpec.ofChange ctypeNobodySpec)) ctypeNobodyCard

/-- THE TIED CARD OF 'mortiselaw03.CtypeFrom'. -/
def ctypeFromCard : Claim7 := { stood := { row := ctypeFromRow, standIns := [], harness := (true, "b3f234b7747ab55a7282db98e1c59fd18fb86167ad5453ddd44c30ee278f95d1"), looks := false }, kinds := [], alts := [], laidByText := true, laidKinds := [.data, .data, .data, .data, .pinned], laidTests := true, laidLooks := .later }
def CtypeFromCardSaid : Prop := Claim7.holds Tryd.pinned (.plain (OpenSpec.ofChange ctypeFromSpec)) ctypeFromCard

/-- THE SECOND FORM's CARD OF 'mortiselaw03.CtypeNobody'. -/
def ctypeNobodyUptoCard : Claim7 := { stood := { row := ctypeNobodyUptoRow, standIns := [], harness := (true, "b3f234b7747ab55a7282db98e1c59fd18fb86167ad5453ddd44c30ee278f95d1"), looks := false }, kinds := [], alts := [], laidByText := true, laidKinds := [.data, .data, .data, .data, .pinned], laidTests := true, laidLooks := .later }
def CtypeNobodyUptoCardSaid : Prop := Claim7.holds Tryd.pinned (.plain (OpenSpec.upto ctypeNobodySpec)) ctypeNobodyUptoCard

/-- THE SECOND FORM's CARD OF 'mortiselaw03.CtypeFrom'. -/
def ctypeFromUptoCard : Claim7 := { stood := { row := ctypeFromUptoRow, standIns := [], harness := (true, "b3f234b7747ab55a7282db98e1c59fd18fb86167ad5453ddd44c30ee278f95d1"), looks := false }, kinds := [], alts := [], laidByText := true, laidKinds := [.data, .data, .data, .data, .pinned], laidTests := true, laidLooks := .later }
def CtypeFromUptoCardSaid : Prop := Claim7.holds Tryd.pinned (.plain (OpenSpec.upto ctypeFromSpec)) ctypeFromUptoCard
end Rows
end Go.Proofs.YthfiajonommodaaDoor
