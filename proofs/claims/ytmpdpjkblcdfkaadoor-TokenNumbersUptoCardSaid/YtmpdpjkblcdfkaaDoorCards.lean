/-
  DERIVED. GIVEN WITH THE SEED: THE CARDS: each row of YtmpdpjkblcdfkaaDoorRows.lean that lists a variable, with what it lists TIED to the program's text (the seventh form; the later family's looks); each row that meets fmt, with fmt's text TOLD by the authors' own Lean function (tested against real Go, not proved from fmt's source: count such statements apart). THE CARD IS WHAT COUNTS. Prove the row's statement (the work); the ties are given (YtmpdpjkblcdfkaaDoorTie.lean); close each card by the builder's one call (the guide's Derived/Test/ToyasCard.lean, 'card_holds'). Laid BY PROGRAM, IN A SANDBOX (cutbox-door.mjs). By AI agents, Wed Nov 11 2026. No macro, syntax, notation, axiom, sorry.
-/
import Derived.Test.YtmpdpjkblcdfkaaDoorRows
import GoSem.ClaimSeven
namespace Go.Proofs.YtmpdpjkblcdfkaaDoor
namespace Rows

/-- THE TIED CARD OF 'mortiselaw02.TokenSpots'. -/
def tokenSpotsCard : Claim7 := { stood := { row := tokenSpotsRow, standIns := [], harness := (true, "d104a26b70a4b030ac81b4732f4557a8937cb2788c8f743429701e130af97ff6"), looks := false }, kinds := [], alts := [], laidByText := true, laidKinds := [.data, .data, .data, .data, .pinned], laidTests := true, laidLooks := .later }
def TokenSpotsCardSaid : Prop := Claim7.holds Tryd.pinned (.plain (OpenSpec.ofChange tokenSpotsSpec)) tokenSpotsCard

/-- THE TIED CARD OF 'mortiselaw02.TokenBack'. -/
def tokenBackCard : Claim7 := { stood := { row := tokenBackRow, standIns := [], harness := (true, "d104a26b70a4b030ac81b4732f4557a8937cb2788c8f743429701e130af97ff6"), looks := false }, kinds := [], alts := [], laidByText := true, laidKinds := [.data, .data, .data, .data, .pinned], laidTests := true, laidLooks := .later }
def TokenBackCardSaid : Prop := Claim7.holds Tryd.pinned (.plain (OpenSpec.ofChange tokenBackSpec)) tokenBackCard

/-- THE TIED CARD OF 'mortiselaw02.TokenSilent'. -/
def tokenSilentCard : Claim7 := { stood := { row := tokenSilentRow, standIns := [], harness := (true, "d104a26b70a4b030ac81b4732f4557a8937cb2788c8f743429701e130af97ff6"), looks := false }, kinds := [], alts := [], laidByText := true, laidKinds := [.data, .data, .data, .data, .pinned], laidTests := true, laidLooks := .later }
def TokenSilentCardSaid : Prop := Claim7.holds Tryd.pinned (.plain (OpenSpec.ofChange tokenSilentSpec)) tokenSilentCard

/-- THE TIED CARD OF 'mortiselaw02.TokenFirst'. -/
def tokenFirstCard : Claim7 := { stood := { row := tokenFirstRow, standIns := [], harness := (true, "d104a26b70a4b030ac81b4732f4557a8937cb2788c8f743429701e130af97ff6"), looks := false }, kinds := [], alts := [], laidByText := true, laidKinds := [.data, .data, .data, .data, .pinned], laidTests := true, laidLooks := .later }
def TokenFirstCardSaid : Prop := Claim7.holds Tryd.pinned (.plain (OpenSpec.ofChange tokenFirstSpec)) tokenFirstCard

/-- THE TIED CARD OF 'mortiselaw02.TokenApart'. -/
def tokenApartCard : Claim7 := { stood := { row := tokenApartRow, standIns := [], harness := (true, "d104a26b70a4b030ac81b4732f4557a8937cb2788c8f743429701e130af97ff6"), looks := false }, kinds := [], alts := [], laidByText := true, laidKinds := [.data, .data, .data, .data, .pinned], laidTests := true, laidLooks := .later }
def TokenApartCardSaid : Prop := Claim7.holds Tryd.pinned (.plain (OpenSpec.ofChange tokenApartSpec)) tokenApartCard

/-- THE TIED CARD OF 'mortiselaw02.TokenNumbers'. -/
def tokenNumbersCard : Claim7 := { stood := { row := tokenNumbersRow, standIns := [], harness := (true, "d104a26b70a4b030ac81b4732f4557a8937cb2788c8f743429701e130af97ff6"), looks := false }, kinds := [], alts := [], laidByText := true, laidKinds := [.data, .data, .data, .data, .pinned], laidTests := true, laidLooks := .later }
def TokenNumbersCardSaid : Prop := Claim7.holds Tryd.pinned (.plain (OpenSpec.ofChange tokenNumbersSpec)) tokenNumbersCard

/-- THE SECOND FORM's CARD OF 'mortiselaw02.TokenSpots'. -/
def tokenSpotsUptoCard : Claim7 := { stood := { row := tokenSpotsUptoRow, standIns := [], harness := (true, "d104a26b70a4b030ac81b4732f4557a8937cb2788c8f743429701e130af97ff6"), looks := false }, kinds := [], alts := [], laidByText := true, laidKinds := [.data, .data, .data, .data, .pinned], laidTests := true, laidLooks := .later }
def TokenSpotsUptoCardSaid : Prop := Claim7.holds Tryd.pinned (.plain (OpenSpec.upto tokenSpotsSpec)) tokenSpotsUptoCard

/-- THE SECOND FORM's CARD OF 'mortiselaw02.TokenBack'. -/
def tokenBackUptoCard : Claim7 := { stood := { row := tokenBackUptoRow, standIns := [], harness := (true, "d104a26b70a4b030ac81b4732f4557a8937cb2788c8f743429701e130af97ff6"), looks := false }, kinds := [], alts := [], laidByText := true, laidKinds := [.data, .data, .data, .data, .pinned], laidTests := true, laidLooks := .later }
def TokenBackUptoCardSaid : Prop := Claim7.holds Tryd.pinned (.plain (OpenSpec.upto tokenBackSpec)) tokenBackUptoCard

/-- THE SECOND FORM's CARD OF 'mortiselaw02.TokenSilent'. -/
def tokenSilentUptoCard : Claim7 := { stood := { row := tokenSilentUptoRow, standIns := [], harness := (true, "d104a26b70a4b030ac81b4732f4557a8937cb2788c8f743429701e130af97ff6"), looks := false }, kinds := [], alts := [], laidByText := true, laidKinds := [.data, .data, .data, .data, .pinned], laidTests := true, laidLooks := .later }
def TokenSilentUptoCardSaid : Prop := Claim7.holds Tryd.pinned (.plain (OpenSpec.upto tokenSilentSpec)) tokenSilentUptoCard

/-- THE SECOND FORM's CARD OF 'mortiselaw02.TokenFirst'. -/
def tokenFirstUptoCard : Claim7 := { stood := { row := tokenFirstUptoRow, standIns := [], harness := (true, "d104a26b70a4b030ac81b4732f4557a8937cb2788c8f743429701e130af97ff6"), looks := false }, kinds := [], alts := [], laidByText := true, laidKinds := [.data, .data, .data, .data, .pinned], laidTests := true, laidLooks := .later }
def TokenFirstUptoCardSaid : Prop := Claim7.holds Tryd.pinned (.plain (OpenSpec.upto tokenFirstSpec)) tokenFirstUptoCard

/-- THE SECOND FORM's CARD OF 'mortiselaw02.TokenApart'. -/
def tokenApartUptoCard : Claim7 := { stood := { row := tokenApartUptoRow, standIns := [], harness := (true, "d104a26b70a4b030ac81b4732f4557a8937cb2788c8f743429701e130af97ff6"), looks := false }, kinds := [], alts := [], laidByText := true, laidKinds := [.data, .data, .data, .data, .pinned], laidTests := true, laidLooks := .later }
def TokenApartUptoCardSaid : Prop := Claim7.holds Tryd.pinned (.plain (OpenSpec.upto tokenApartSpec)) tokenApartUptoCard

/-- THE SECOND FORM's CARD OF 'mortiselaw02.TokenNumbers'. -/
def tokenNumbersUptoCard : Claim7 := { stood := { row := tokenNumbersUptoRow, standIns := [], harness := (true, "d104a26b70a4b030ac81b4732f4557a8937cb2788c8f743429701e130af97ff6"), looks := false }, kinds := [], alts := [], laidByText := true, laidKinds := [.data, .data, .data, .data, .pinned], laidTests := true, laidLooks := .later }
def TokenNumbersUptoCardSaid : Prop := Claim7.holds Tryd.pinned (.plain (OpenSpec.upto tokenNumbersSpec)) tokenNumbersUptoCard
end Rows
end Go.Proofs.YtmpdpjkblcdfkaaDoor
