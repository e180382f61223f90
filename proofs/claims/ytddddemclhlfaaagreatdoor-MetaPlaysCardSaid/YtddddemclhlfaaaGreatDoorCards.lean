/-
  DERIVED. GIVEN WITH THE SEED: THE CARDS: each row of YtddddemclhlfaaaGreatDoorRows.lean that lists a variable, with what it lists TIED to the program's text (the seventh form; the later family's looks); each row that meets fmt, with fmt's text TOLD by the authors' own Lean function (tested against real Go, not proved from fmt's source: count such statements apart). THE CARD IS WHAT COUNTS. Prove the row's statement (the work); the ties are given (YtddddemclhlfaaaGreatDoorTie.lean); close each card by the builder's one call (the guide's Derived/Test/ToyasCard.lean, 'card_holds'). Laid BY PROGRAM, IN A SANDBOX (cutbox-door.mjs). By AI agents, Wed Nov 11 2026. No macro, syntax, notation, axiom, sorry.
-/
import Derived.Test.YtddddemclhlfaaaGreatDoorRows
import GoSem.ClaimSeven
namespace Go.Proofs.YtddddemclhlfaaaGreatDoor
namespace Rows

/-- THE TIED CARD OF 'sextonlaw06.GhostTells'. -/
def ghostTellsCard : Claim7 := { stood := { row := ghostTellsRow, standIns := [], harness := (true, "47e40aef2012061f662ada14ad3a232ea6fab44d4286fa30674264557c7b2537"), looks := false }, kinds := [], alts := [], laidByText := true, laidKinds := [.data, .pinned], laidTests := true, laidLooks := .later }
def GhostTellsCardSaid : Prop := Claim7.holds Tryz.pinned (.plain (OpenSpec.ofChange ghostTellsSpec)) ghostTellsCard

/-- THE TIED CARD OF 'sextonlaw07.CellPlays'. -/
def cellPlaysCard : Claim7 := { stood := { row := cellPlaysRow, standIns := [], harness := (true, "47e40aef2012061f662ada14ad3a232ea6fab44d4286fa30674264557c7b2537"), looks := false }, kinds := [], alts := [], laidByText := true, laidKinds := [.data, .pinned], laidTests := true, laidLooks := .later }
def CellPlaysCardSaid : Prop := Claim7.holds Tryz.pinned (.plain (OpenSpec.ofChange cellPlaysSpec)) cellPlaysCard

/-- THE TIED CARD OF 'sextonlaw08.MetaPlays'. -/
def metaPlaysCard : Claim7 := { stood := { row := metaPlaysRow, standIns := [], harness := (true, "47e40aef2012061f662ada14ad3a232ea6fab44d4286fa30674264557c7b2537"), looks := false }, kinds := [], alts := [], laidByText := true, laidKinds := [.data, .pinned], laidTests := true, laidLooks := .later }
def MetaPlaysCardSaid : Prop := Claim7.holds Tryz.pinned (.plain (OpenSpec.ofChange metaPlaysSpec)) metaPlaysCard

/-- THE SECOND FORM's CARD OF 'sextonlaw06.GhostTells'. -/
def ghostTellsUptoCard : Claim7 := { stood := { row := ghostTellsUptoRow, standIns := [], harness := (true, "47e40aef2012061f662ada14ad3a232ea6fab44d4286fa30674264557c7b2537"), looks := false }, kinds := [], alts := [], laidByText := true, laidKinds := [.data, .pinned], laidTests := true, laidLooks := .later }
def GhostTellsUptoCardSaid : Prop := Claim7.holds Tryz.pinned (.plain (OpenSpec.upto ghostTellsSpec)) ghostTellsUptoCard

/-- THE SECOND FORM's CARD OF 'sextonlaw07.CellPlays'. -/
def cellPlaysUptoCard : Claim7 := { stood := { row := cellPlaysUptoRow, standIns := [], harness := (true, "47e40aef2012061f662ada14ad3a232ea6fab44d4286fa30674264557c7b2537"), looks := false }, kinds := [], alts := [], laidByText := true, laidKinds := [.data, .pinned], laidTests := true, laidLooks := .later }
def CellPlaysUptoCardSaid : Prop := Claim7.holds Tryz.pinned (.plain (OpenSpec.upto cellPlaysSpec)) cellPlaysUptoCard

/-- THE SECOND FORM's CARD OF 'sextonlaw08.MetaPlays'. -/
def metaPlaysUptoCard : Claim7 := { stood := { row := metaPlaysUptoRow, standIns := [], harness := (true, "47e40aef2012061f662ada14ad3a232ea6fab44d4286fa30674264557c7b2537"), looks := false }, kinds := [], alts := [], laidByText := true, laidKinds := [.data, .pinned], laidTests := true, laidLooks := .later }
def MetaPlaysUptoCardSaid : Prop := Claim7.holds Tryz.pinned (.plain (OpenSpec.upto metaPlaysSpec)) metaPlaysUptoCard
end Rows
end Go.Proofs.YtddddemclhlfaaaGreatDoor
