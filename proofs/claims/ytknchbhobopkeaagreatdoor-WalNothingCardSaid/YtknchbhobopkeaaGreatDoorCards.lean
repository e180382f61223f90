/-
  DERIVED. GIVEN WITH THE SEED: THE CARDS: each row of YtknchbhobopkeaaGreatDoorRows.lean that lists a variable, with what it lists TIED to the program's text (the seventh form; the later family's looks); each row that meets fmt, with fmt's text TOLD by the authors' own Lean function (tested against real Go, not proved from fmt's source: count such statements apart). THE CARD IS WHAT COUNTS. Prove the row's statement (the work); the ties are given (YtknchbhobopkeaaGreatDoorTie.lean); close each card by the builder's one call (the guide's Derived/Test/ToyasCard.lean, 'card_holds'). Laid BY PROGRAM, IN A SANDBOX (cutbox-door.mjs). By AI agents, Wed Nov 11 2026. No macro, syntax, notation, axiom, sorry.
-/
import Derived.Test.YtknchbhobopkeaaGreatDoorRows
import GoSem.ClaimSeven
namespace Go.Proofs.YtknchbhobopkeaaGreatDoor
namespace Rows

/-- THE TIED CARD OF 'sextonlaw11.WalRound'. -/
def walRoundCard : Claim7 := { stood := { row := walRoundRow, standIns := [], harness := (true, "93e01ac5140605422e5a88ae6c544176a3b0d54e1e686c02105c296ba45e19da"), looks := false }, kinds := [], alts := [], laidByText := true, laidKinds := [.data, .pinned], laidTests := true, laidLooks := .later }
def WalRoundCardSaid : Prop := Claim7.holds Tryz.pinned (.plain (OpenSpec.ofChange walRoundSpec)) walRoundCard

/-- THE TIED CARD OF 'sextonlaw11.WalApart'. -/
def walApartCard : Claim7 := { stood := { row := walApartRow, standIns := [], harness := (true, "93e01ac5140605422e5a88ae6c544176a3b0d54e1e686c02105c296ba45e19da"), looks := false }, kinds := [], alts := [], laidByText := true, laidKinds := [.data, .pinned], laidTests := true, laidLooks := .later }
def WalApartCardSaid : Prop := Claim7.holds Tryz.pinned (.plain (OpenSpec.ofChange walApartSpec)) walApartCard

/-- THE TIED CARD OF 'sextonlaw11.WalNothing'. -/
def walNothingCard : Claim7 := { stood := { row := walNothingRow, standIns := [], harness := (true, "93e01ac5140605422e5a88ae6c544176a3b0d54e1e686c02105c296ba45e19da"), looks := false }, kinds := [], alts := [], laidByText := true, laidKinds := [.data, .pinned], laidTests := true, laidLooks := .later }
def WalNothingCardSaid : Prop := Claim7.holds Tryz.pinned (.plain (OpenSpec.ofChange walNothingSpec)) walNothingCard

/-- THE SECOND FORM's CARD OF 'sextonlaw11.WalRound'. -/
def walRoundUptoCard : Claim7 := { stood := { row := walRoundUptoRow, standIns := [], harness := (true, "93e01ac5140605422e5a88ae6c544176a3b0d54e1e686c02105c296ba45e19da"), looks := false }, kinds := [], alts := [], laidByText := true, laidKinds := [.data, .pinned], laidTests := true, laidLooks := .later }
def WalRoundUptoCardSaid : Prop := Claim7.holds Tryz.pinned (.plain (OpenSpec.upto walRoundSpec)) walRoundUptoCard

/-- THE SECOND FORM's CARD OF 'sextonlaw11.WalApart'. -/
def walApartUptoCard : Claim7 := { stood := { row := walApartUptoRow, standIns := [], harness := (true, "93e01ac5140605422e5a88ae6c544176a3b0d54e1e686c02105c296ba45e19da"), looks := false }, kinds := [], alts := [], laidByText := true, laidKinds := [.data, .pinned], laidTests := true, laidLooks := .later }
def WalApartUptoCardSaid : Prop := Claim7.holds Tryz.pinned (.plain (OpenSpec.upto walApartSpec)) walApartUptoCard

/-- THE SECOND FORM's CARD OF 'sextonlaw11.WalNothing'. -/
def walNothingUptoCard : Claim7 := { stood := { row := walNothingUptoRow, standIns := [], harness := (true, "93e01ac5140605422e5a88ae6c544176a3b0d54e1e686c02105c296ba45e19da"), looks := false }, kinds := [], alts := [], laidByText := true, laidKinds := [.data, .pinned], laidTests := true, laidLooks := .later }
def WalNothingUptoCardSaid : Prop := Claim7.holds Tryz.pinned (.plain (OpenSpec.upto walNothingSpec)) walNothingUptoCard
end Rows
end Go.Proofs.YtknchbhobopkeaaGreatDoor
