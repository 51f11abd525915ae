/-
  DERIVED. GIVEN WITH THE SEED: THE CARDS: each row of YtfhijkapcdmdnaaGreatDoorRows.lean that lists a variable, with what it lists TIED to the program's text (the seventh form; the later family's looks); each row that meets fmt, with fmt's text TOLD by the authors' own Lean function (tested against real Go, not proved from fmt's source: count such statements apart). THE CARD IS WHAT COUNTS. Prove the row's statement (the work); the ties are given (YtfhijkapcdmdnaaGreatDoorTie.lean); close each card by the builder's one call (the guide's Derived/Test/ToyasCard.lean, 'card_holds'). Laid BY PROGRAM, IN A SANDBOX (cutbox-door.mjs). By AI agents, Wed Nov 11 2026. No macro, syntax, notation, axiom, sorry.
-/
import Derived.Test.YtfhijkapcdmdnaaGreatDoorRows
import GoSem.ClaimSeven
namespace Go.Proofs.YtfhijkapcdmdnaaGreatDoor
namespace Rows

/-- THE TIED CARD OF 'mortiselaw07.ConvEven'. -/
def convEvenCard : Claim7 := { stood := { row := convEvenRow, standIns := [], harness := (true, "540859091277c51f7deec082c1f31d1a2c6772908f383f870365d60f6f25149e"), looks := false }, kinds := [], alts := [], laidByText := true, laidKinds := [.data, .pinned], laidTests := true, laidLooks := .later }
def ConvEvenCardSaid : Prop := Claim7.holds Tryz.pinned (.plain (OpenSpec.ofChange convEvenSpec)) convEvenCard

/-- THE TIED CARD OF 'mortiselaw07.ConvTypes'. -/
def convTypesCard : Claim7 := { stood := { row := convTypesRow, standIns := [], harness := (true, "540859091277c51f7deec082c1f31d1a2c6772908f383f870365d60f6f25149e"), looks := false }, kinds := [], alts := [], laidByText := true, laidKinds := [.data, .pinned], laidTests := true, laidLooks := .later }
def ConvTypesCardSaid : Prop := Claim7.holds Tryz.pinned (.plain (OpenSpec.ofChange convTypesSpec)) convTypesCard

/-- THE TIED CARD OF 'mortiselaw05.LayoutWalks'. -/
def layoutWalksCard : Claim7 := { stood := { row := layoutWalksRow, standIns := [], harness := (true, "540859091277c51f7deec082c1f31d1a2c6772908f383f870365d60f6f25149e"), looks := false }, kinds := [], alts := [], laidByText := true, laidKinds := [.data, .pinned], laidTests := true, laidLooks := .later }
def LayoutWalksCardSaid : Prop := Claim7.holds Tryz.pinned (.plain (OpenSpec.ofChange layoutWalksSpec)) layoutWalksCard

/-- THE SECOND FORM's CARD OF 'mortiselaw07.ConvEven'. -/
def convEvenUptoCard : Claim7 := { stood := { row := convEvenUptoRow, standIns := [], harness := (true, "540859091277c51f7deec082c1f31d1a2c6772908f383f870365d60f6f25149e"), looks := false }, kinds := [], alts := [], laidByText := true, laidKinds := [.data, .pinned], laidTests := true, laidLooks := .later }
def ConvEvenUptoCardSaid : Prop := Claim7.holds Tryz.pinned (.plain (OpenSpec.upto convEvenSpec)) convEvenUptoCard

/-- THE SECOND FORM's CARD OF 'mortiselaw07.ConvTypes'. -/
def convTypesUptoCard : Claim7 := { stood := { row := convTypesUptoRow, standIns := [], harness := (true, "540859091277c51f7deec082c1f31d1a2c6772908f383f870365d60f6f25149e"), looks := false }, kinds := [], alts := [], laidByText := true, laidKinds := [.data, .pinned], laidTests := true, laidLooks := .later }
def ConvTypesUptoCardSaid : Prop := Claim7.holds Tryz.pinned (.plain (OpenSpec.upto convTypesSpec)) convTypesUptoCard

/-- THE SECOND FORM's CARD OF 'mortiselaw05.LayoutWalks'. -/
def layoutWalksUptoCard : Claim7 := { stood := { row := layoutWalksUptoRow, standIns := [], harness := (true, "540859091277c51f7deec082c1f31d1a2c6772908f383f870365d60f6f25149e"), looks := false }, kinds := [], alts := [], laidByText := true, laidKinds := [.data, .pinned], laidTests := true, laidLooks := .later }
def LayoutWalksUptoCardSaid : Prop := Claim7.holds Tryz.pinned (.plain (OpenSpec.upto layoutWalksSpec)) layoutWalksUptoCard
end Rows
end Go.Proofs.YtfhijkapcdmdnaaGreatDoor
