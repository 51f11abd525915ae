/-
  DERIVED. GIVEN WITH THE SEED: THE CARDS: each row of YtfhijkapcdmdnaaDoorRows.lean that lists a variable, with what it lists TIED to the program's text (the seventh form; the later family's looks); each row that meets fmt, with fmt's text TOLD by the authors' own Lean function (tested against real Go, not proved from fmt's source: count such statements apart). THE CARD IS WHAT COUNTS. Prove the row's statement (the work); the ties are given (YtfhijkapcdmdnaaDoorTie.lean); close each card by the builder's one call (the guide's Derived/Test/ToyasCard.lean, 'card_holds'). Laid BY PROGRAM, IN A SANDBOX (cutbox-door.mjs). By AI agents, Wed Nov 11 2026. No macro, syntax, notation, axiom, sorry.
-/
import Derived.Test.YtfhijkapcdmdnaaDoorRows
import GoSem.ClaimSeven
namespace Go.Proofs.YtfhijkapcdmdnaaDoor
namespace Rows

/-- THE TIED CARD OF 'mortiselaw05.LayoutCommon'. -/
def layoutCommonCard : Claim7 := { stood := { row := layoutCommonRow, standIns := [], harness := (true, "abe7cae0967cf9b583a402f6db2578982357e1b9aa30548820c8da96501c6890"), looks := false }, kinds := [], alts := [], laidByText := true, laidKinds := [.data, .pinned], laidTests := true, laidLooks := .later }
def LayoutCommonCardSaid : Prop := Claim7.holds Tryd.pinned (.plain (OpenSpec.ofChange layoutCommonSpec)) layoutCommonCard

/-- THE TIED CARD OF 'mortiselaw05.LayoutApart'. -/
def layoutApartCard : Claim7 := { stood := { row := layoutApartRow, standIns := [], harness := (true, "abe7cae0967cf9b583a402f6db2578982357e1b9aa30548820c8da96501c6890"), looks := false }, kinds := [], alts := [], laidByText := true, laidKinds := [.data, .pinned], laidTests := true, laidLooks := .later }
def LayoutApartCardSaid : Prop := Claim7.holds Tryd.pinned (.plain (OpenSpec.ofChange layoutApartSpec)) layoutApartCard

/-- THE TIED CARD OF 'mortiselaw05.LayoutWhole'. -/
def layoutWholeCard : Claim7 := { stood := { row := layoutWholeRow, standIns := [], harness := (true, "abe7cae0967cf9b583a402f6db2578982357e1b9aa30548820c8da96501c6890"), looks := false }, kinds := [], alts := [], laidByText := true, laidKinds := [.data, .pinned], laidTests := true, laidLooks := .later }
def LayoutWholeCardSaid : Prop := Claim7.holds Tryd.pinned (.plain (OpenSpec.ofChange layoutWholeSpec)) layoutWholeCard

/-- THE TIED CARD OF 'mortiselaw05.LayoutWalksOn'. -/
def layoutWalksOnCard : Claim7 := { stood := { row := layoutWalksOnRow, standIns := [], harness := (true, "abe7cae0967cf9b583a402f6db2578982357e1b9aa30548820c8da96501c6890"), looks := false }, kinds := [], alts := [], laidByText := true, laidKinds := [.data, .pinned], laidTests := true, laidLooks := .later }
def LayoutWalksOnCardSaid : Prop := Claim7.holds Tryd.pinned (.plain (OpenSpec.ofChange layoutWalksOnSpec)) layoutWalksOnCard

/-- THE TIED CARD OF 'mortiselaw05.LayoutArrays'. -/
def layoutArraysCard : Claim7 := { stood := { row := layoutArraysRow, standIns := [], harness := (true, "abe7cae0967cf9b583a402f6db2578982357e1b9aa30548820c8da96501c6890"), looks := false }, kinds := [], alts := [], laidByText := true, laidKinds := [.data, .pinned], laidTests := true, laidLooks := .later }
def LayoutArraysCardSaid : Prop := Claim7.holds Tryd.pinned (.plain (OpenSpec.ofChange layoutArraysSpec)) layoutArraysCard

/-- THE TIED CARD OF 'mortiselaw03.CtypeFrom'. -/
def ctypeFromCard : Claim7 := { stood := { row := ctypeFromRow, standIns := [], harness := (true, "abe7cae0967cf9b583a402f6db2578982357e1b9aa30548820c8da96501c6890"), looks := false }, kinds := [], alts := [], laidByText := true, laidKinds := [.data, .data, .data, .data, .pinned], laidTests := true, laidLooks := .later }
def CtypeFromCardSaid : Prop := Claim7.holds Tryd.pinned (.plain (OpenSpec.ofChange ctypeFromSpec)) ctypeFromCard

/-- THE SECOND FORM's CARD OF 'mortiselaw05.LayoutCommon'. -/
def layoutCommonUptoCard : Claim7 := { stood := { row := layoutCommonUptoRow, standIns := [], harness := (true, "abe7cae0967cf9b583a402f6db2578982357e1b9aa30548820c8da96501c6890"), looks := false }, kinds := [], alts := [], laidByText := true, laidKinds := [.data, .pinned], laidTests := true, laidLooks := .later }
def LayoutCommonUptoCardSaid : Prop := Claim7.holds Tryd.pinned (.plain (OpenSpec.upto layoutCommonSpec)) layoutCommonUptoCard

/-- THE SECOND FORM's CARD OF 'mortiselaw05.LayoutApart'. -/
def layoutApartUptoCard : Claim7 := { stood := { row := layoutApartUptoRow, standIns := [], harness := (true, "abe7cae0967cf9b583a402f6db2578982357e1b9aa30548820c8da96501c6890"), looks := false }, kinds := [], alts := [], laidByText := true, laidKinds := [.data, .pinned], laidTests := true, laidLooks := .later }
def LayoutApartUptoCardSaid : Prop := Claim7.holds Tryd.pinned (.plain (OpenSpec.upto layoutApartSpec)) layoutApartUptoCard

/-- THE SECOND FORM's CARD OF 'mortiselaw05.LayoutWhole'. -/
def layoutWholeUptoCard : Claim7 := { stood := { row := layoutWholeUptoRow, standIns := [], harness := (true, "abe7cae0967cf9b583a402f6db2578982357e1b9aa30548820c8da96501c6890"), looks := false }, kinds := [], alts := [], laidByText := true, laidKinds := [.data, .pinned], laidTests := true, laidLooks := .later }
def LayoutWholeUptoCardSaid : Prop := Claim7.holds Tryd.pinned (.plain (OpenSpec.upto layoutWholeSpec)) layoutWholeUptoCard

/-- THE SECOND FORM's CARD OF 'mortiselaw05.LayoutWalksOn'. -/
def layoutWalksOnUptoCard : Claim7 := { stood := { row := layoutWalksOnUptoRow, standIns := [], harness := (true, "abe7cae0967cf9b583a402f6db2578982357e1b9aa30548820c8da96501c6890"), looks := false }, kinds := [], alts := [], laidByText := true, laidKinds := [.data, .pinned], laidTests := true, laidLooks := .later }
def LayoutWalksOnUptoCardSaid : Prop := Claim7.holds Tryd.pinned (.plain (OpenSpec.upto layoutWalksOnSpec)) layoutWalksOnUptoCard

/-- THE SECOND FORM's CARD OF 'mortiselaw05.LayoutArrays'. -/
def layoutArraysUptoCard : Claim7 := { stood := { row := layoutArraysUptoRow, standIns := [], harness := (true, "abe7cae0967cf9b583a402f6db2578982357e1b9aa30548820c8da96501c6890"), looks := false }, kinds := [], alts := [], laidByText := true, laidKinds := [.data, .pinned], laidTests := true, laidLooks := .later }
def LayoutArraysUptoCardSaid : Prop := Claim7.holds Tryd.pinned (.plain (OpenSpec.upto layoutArraysSpec)) layoutArraysUptoCard

/-- THE SECOND FORM's CARD OF 'mortiselaw03.CtypeFrom'. -/
def ctypeFromUptoCard : Claim7 := { stood := { row := ctypeFromUptoRow, standIns := [], harness := (true, "abe7cae0967cf9b583a402f6db2578982357e1b9aa30548820c8da96501c6890"), looks := false }, kinds := [], alts := [], laidByText := true, laidKinds := [.data, .data, .data, .data, .pinned], laidTests := true, laidLooks := .later }
def CtypeFromUptoCardSaid : Prop := Claim7.holds Tryd.pinned (.plain (OpenSpec.upto ctypeFromSpec)) ctypeFromUptoCard
end Rows
end Go.Proofs.YtfhijkapcdmdnaaDoor
