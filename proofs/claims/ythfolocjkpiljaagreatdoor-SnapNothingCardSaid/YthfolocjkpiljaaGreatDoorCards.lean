/-
  DERIVED. GIVEN WITH THE SEED: THE CARDS: each row of YthfolocjkpiljaaGreatDoorRows.lean that lists a variable, with what it lists TIED to the program's text (the seventh form; the later family's looks); each row that meets fmt, with fmt's text TOLD by the authors' own Lean function (tested against real Go, not proved from fmt's source: count such statements apart). THE CARD IS WHAT COUNTS. Prove the row's statement (the work); the ties are given (YthfolocjkpiljaaGreatDoorTie.lean); close each card by the builder's one call (the guide's Derived/Test/ToyasCard.lean, 'card_holds'). Laid BY PROGRAM, IN A SANDBOX (cutbox-door.mjs). By AI agents, Wed Nov 11 2026. No macro, syntax, notation, axiom, sorry.
-/
import Derived.Test.YthfolocjkpiljaaGreatDoorRows
import GoSem.ClaimSeven
namespace Go.Proofs.YthfolocjkpiljaaGreatDoor
namespace Rows

/-- THE TIED CARD OF 'sextonlaw06.GhostTells'. -/
def ghostTellsCard : Claim7 := { stood := { row := ghostTellsRow, standIns := [], harness := (true, "c3bc5517f4b26b77f43148a0e7db7b3cfddc879a13e618ecb9692b06cb9bf27b"), looks := false }, kinds := [], alts := [], laidByText := true, laidKinds := [.data, .pinned], laidTests := true, laidLooks := .later }
def GhostTellsCardSaid : Prop := Claim7.holds Tryz.pinned (.plain (OpenSpec.ofChange ghostTellsSpec)) ghostTellsCard

/-- THE TIED CARD OF 'sextonlaw07.CellPlays'. -/
def cellPlaysCard : Claim7 := { stood := { row := cellPlaysRow, standIns := [], harness := (true, "c3bc5517f4b26b77f43148a0e7db7b3cfddc879a13e618ecb9692b06cb9bf27b"), looks := false }, kinds := [], alts := [], laidByText := true, laidKinds := [.data, .pinned], laidTests := true, laidLooks := .later }
def CellPlaysCardSaid : Prop := Claim7.holds Tryz.pinned (.plain (OpenSpec.ofChange cellPlaysSpec)) cellPlaysCard

/-- THE TIED CARD OF 'sextonlaw08.MetaPlays'. -/
def metaPlaysCard : Claim7 := { stood := { row := metaPlaysRow, standIns := [], harness := (true, "c3bc5517f4b26b77f43148a0e7db7b3cfddc879a13e618ecb9692b06cb9bf27b"), looks := false }, kinds := [], alts := [], laidByText := true, laidKinds := [.data, .pinned], laidTests := true, laidLooks := .later }
def MetaPlaysCardSaid : Prop := Claim7.holds Tryz.pinned (.plain (OpenSpec.ofChange metaPlaysSpec)) metaPlaysCard

/-- THE TIED CARD OF 'sextonlaw11.WalRound'. -/
def walRoundCard : Claim7 := { stood := { row := walRoundRow, standIns := [], harness := (true, "c3bc5517f4b26b77f43148a0e7db7b3cfddc879a13e618ecb9692b06cb9bf27b"), looks := false }, kinds := [], alts := [], laidByText := true, laidKinds := [.data, .pinned], laidTests := true, laidLooks := .later }
def WalRoundCardSaid : Prop := Claim7.holds Tryz.pinned (.plain (OpenSpec.ofChange walRoundSpec)) walRoundCard

/-- THE TIED CARD OF 'sextonlaw13.SnapEither'. -/
def snapEitherCard : Claim7 := { stood := { row := snapEitherRow, standIns := [], harness := (true, "c3bc5517f4b26b77f43148a0e7db7b3cfddc879a13e618ecb9692b06cb9bf27b"), looks := false }, kinds := [], alts := [], laidByText := true, laidKinds := [.data, .pinned], laidTests := true, laidLooks := .later }
def SnapEitherCardSaid : Prop := Claim7.holds Tryz.pinned (.plain (OpenSpec.ofChange snapEitherSpec)) snapEitherCard

/-- THE TIED CARD OF 'sextonlaw11.WalApart'. -/
def walApartCard : Claim7 := { stood := { row := walApartRow, standIns := [], harness := (true, "c3bc5517f4b26b77f43148a0e7db7b3cfddc879a13e618ecb9692b06cb9bf27b"), looks := false }, kinds := [], alts := [], laidByText := true, laidKinds := [.data, .pinned], laidTests := true, laidLooks := .later }
def WalApartCardSaid : Prop := Claim7.holds Tryz.pinned (.plain (OpenSpec.ofChange walApartSpec)) walApartCard

/-- THE TIED CARD OF 'sextonlaw13.SnapPlays'. -/
def snapPlaysCard : Claim7 := { stood := { row := snapPlaysRow, standIns := [], harness := (true, "c3bc5517f4b26b77f43148a0e7db7b3cfddc879a13e618ecb9692b06cb9bf27b"), looks := false }, kinds := [], alts := [], laidByText := true, laidKinds := [.data, .pinned], laidTests := true, laidLooks := .later }
def SnapPlaysCardSaid : Prop := Claim7.holds Tryz.pinned (.plain (OpenSpec.ofChange snapPlaysSpec)) snapPlaysCard

/-- THE TIED CARD OF 'sextonlaw11.WalPlays'. -/
def walPlaysCard : Claim7 := { stood := { row := walPlaysRow, standIns := [], harness := (true, "c3bc5517f4b26b77f43148a0e7db7b3cfddc879a13e618ecb9692b06cb9bf27b"), looks := false }, kinds := [], alts := [], laidByText := true, laidKinds := [.data, .pinned], laidTests := true, laidLooks := .later }
def WalPlaysCardSaid : Prop := Claim7.holds Tryz.pinned (.plain (OpenSpec.ofChange walPlaysSpec)) walPlaysCard

/-- THE TIED CARD OF 'sextonlaw11.WalNothing'. -/
def walNothingCard : Claim7 := { stood := { row := walNothingRow, standIns := [], harness := (true, "c3bc5517f4b26b77f43148a0e7db7b3cfddc879a13e618ecb9692b06cb9bf27b"), looks := false }, kinds := [], alts := [], laidByText := true, laidKinds := [.data, .pinned], laidTests := true, laidLooks := .later }
def WalNothingCardSaid : Prop := Claim7.holds Tryz.pinned (.plain (OpenSpec.ofChange walNothingSpec)) walNothingCard

/-- THE TIED CARD OF 'sextonlaw13.SnapNothing'. -/
def snapNothingCard : Claim7 := { stood := { row := snapNothingRow, standIns := [], harness := (true, "c3bc5517f4b26b77f43148a0e7db7b3cfddc879a13e618ecb9692b06cb9bf27b"), looks := false }, kinds := [], alts := [], laidByText := true, laidKinds := [.data, .pinned], laidTests := true, laidLooks := .later }
def SnapNothingCardSaid : Prop := Claim7.holds Tryz.pinned (.plain (OpenSpec.ofChange snapNothingSpec)) snapNothingCard

/-- THE SECOND FORM's CARD OF 'sextonlaw06.GhostTells'. -/
def ghostTellsUptoCard : Claim7 := { stood := { row := ghostTellsUptoRow, standIns := [], harness := (true, "c3bc5517f4b26b77f43148a0e7db7b3cfddc879a13e618ecb9692b06cb9bf27b"), looks := false }, kinds := [], alts := [], laidByText := true, laidKinds := [.data, .pinned], laidTests := true, laidLooks := .later }
def GhostTellsUptoCardSaid : Prop := Claim7.holds Tryz.pinned (.plain (OpenSpec.upto ghostTellsSpec)) ghostTellsUptoCard

/-- THE SECOND FORM's CARD OF 'sextonlaw07.CellPlays'. -/
def cellPlaysUptoCard : Claim7 := { stood := { row := cellPlaysUptoRow, standIns := [], harness := (true, "c3bc5517f4b26b77f43148a0e7db7b3cfddc879a13e618ecb9692b06cb9bf27b"), looks := false }, kinds := [], alts := [], laidByText := true, laidKinds := [.data, .pinned], laidTests := true, laidLooks := .later }
def CellPlaysUptoCardSaid : Prop := Claim7.holds Tryz.pinned (.plain (OpenSpec.upto cellPlaysSpec)) cellPlaysUptoCard

/-- THE SECOND FORM's CARD OF 'sextonlaw08.MetaPlays'. -/
def metaPlaysUptoCard : Claim7 := { stood := { row := metaPlaysUptoRow, standIns := [], harness := (true, "c3bc5517f4b26b77f43148a0e7db7b3cfddc879a13e618ecb9692b06cb9bf27b"), looks := false }, kinds := [], alts := [], laidByText := true, laidKinds := [.data, .pinned], laidTests := true, laidLooks := .later }
def MetaPlaysUptoCardSaid : Prop := Claim7.holds Tryz.pinned (.plain (OpenSpec.upto metaPlaysSpec)) metaPlaysUptoCard

/-- THE SECOND FORM's CARD OF 'sextonlaw11.WalRound'. -/
def walRoundUptoCard : Claim7 := { stood := { row := walRoundUptoRow, standIns := [], harness := (true, "c3bc5517f4b26b77f43148a0e7db7b3cfddc879a13e618ecb9692b06cb9bf27b"), looks := false }, kinds := [], alts := [], laidByText := true, laidKinds := [.data, .pinned], laidTests := true, laidLooks := .later }
def WalRoundUptoCardSaid : Prop := Claim7.holds Tryz.pinned (.plain (OpenSpec.upto walRoundSpec)) walRoundUptoCard

/-- THE SECOND FORM's CARD OF 'sextonlaw13.SnapEither'. -/
def snapEitherUptoCard : Claim7 := { stood := { row := snapEitherUptoRow, standIns := [], harness := (true, "c3bc5517f4b26b77f43148a0e7db7b3cfddc879a13e618ecb9692b06cb9bf27b"), looks := false }, kinds := [], alts := [], laidByText := true, laidKinds := [.data, .pinned], laidTests := true, laidLooks := .later }
def SnapEitherUptoCardSaid : Prop := Claim7.holds Tryz.pinned (.plain (OpenSpec.upto snapEitherSpec)) snapEitherUptoCard

/-- THE SECOND FORM's CARD OF 'sextonlaw11.WalApart'. -/
def walApartUptoCard : Claim7 := { stood := { row := walApartUptoRow, standIns := [], harness := (true, "c3bc5517f4b26b77f43148a0e7db7b3cfddc879a13e618ecb9692b06cb9bf27b"), looks := false }, kinds := [], alts := [], laidByText := true, laidKinds := [.data, .pinned], laidTests := true, laidLooks := .later }
def WalApartUptoCardSaid : Prop := Claim7.holds Tryz.pinned (.plain (OpenSpec.upto walApartSpec)) walApartUptoCard

/-- THE SECOND FORM's CARD OF 'sextonlaw13.SnapPlays'. -/
def snapPlaysUptoCard : Claim7 := { stood := { row := snapPlaysUptoRow, standIns := [], harness := (true, "c3bc5517f4b26b77f43148a0e7db7b3cfddc879a13e618ecb9692b06cb9bf27b"), looks := false }, kinds := [], alts := [], laidByText := true, laidKinds := [.data, .pinned], laidTests := true, laidLooks := .later }
def SnapPlaysUptoCardSaid : Prop := Claim7.holds Tryz.pinned (.plain (OpenSpec.upto snapPlaysSpec)) snapPlaysUptoCard

/-- THE SECOND FORM's CARD OF 'sextonlaw11.WalPlays'. -/
def walPlaysUptoCard : Claim7 := { stood := { row := walPlaysUptoRow, standIns := [], harness := (true, "c3bc5517f4b26b77f43148a0e7db7b3cfddc879a13e618ecb9692b06cb9bf27b"), looks := false }, kinds := [], alts := [], laidByText := true, laidKinds := [.data, .pinned], laidTests := true, laidLooks := .later }
def WalPlaysUptoCardSaid : Prop := Claim7.holds Tryz.pinned (.plain (OpenSpec.upto walPlaysSpec)) walPlaysUptoCard

/-- THE SECOND FORM's CARD OF 'sextonlaw11.WalNothing'. -/
def walNothingUptoCard : Claim7 := { stood := { row := walNothingUptoRow, standIns := [], harness := (true, "c3bc5517f4b26b77f43148a0e7db7b3cfddc879a13e618ecb9692b06cb9bf27b"), looks := false }, kinds := [], alts := [], laidByText := true, laidKinds := [.data, .pinned], laidTests := true, laidLooks := .later }
def WalNothingUptoCardSaid : Prop := Claim7.holds Tryz.pinned (.plain (OpenSpec.upto walNothingSpec)) walNothingUptoCard

/-- THE SECOND FORM's CARD OF 'sextonlaw13.SnapNothing'. -/
def snapNothingUptoCard : Claim7 := { stood := { row := snapNothingUptoRow, standIns := [], harness := (true, "c3bc5517f4b26b77f43148a0e7db7b3cfddc879a13e618ecb9692b06cb9bf27b"), looks := false }, kinds := [], alts := [], laidByText := true, laidKinds := [.data, .pinned], laidTests := true, laidLooks := .later }
def SnapNothingUptoCardSaid : Prop := Claim7.holds Tryz.pinned (.plain (OpenSpec.upto snapNothingSpec)) snapNothingUptoCard
end Rows
end Go.Proofs.YthfolocjkpiljaaGreatDoor
