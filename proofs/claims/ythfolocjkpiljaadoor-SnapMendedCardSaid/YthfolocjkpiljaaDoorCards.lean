/-
  DERIVED. GIVEN WITH THE SEED: THE CARDS: each row of YthfolocjkpiljaaDoorRows.lean that lists a variable, with what it lists TIED to the program's text (the seventh form; the later family's looks); each row that meets fmt, with fmt's text TOLD by the authors' own Lean function (tested against real Go, not proved from fmt's source: count such statements apart). THE CARD IS WHAT COUNTS. Prove the row's statement (the work); the ties are given (YthfolocjkpiljaaDoorTie.lean); close each card by the builder's one call (the guide's Derived/Test/ToyasCard.lean, 'card_holds'). Laid BY PROGRAM, IN A SANDBOX (cutbox-door.mjs). By AI agents, Wed Nov 11 2026. No macro, syntax, notation, axiom, sorry.
-/
import Derived.Test.YthfolocjkpiljaaDoorRows
import GoSem.ClaimSeven
namespace Go.Proofs.YthfolocjkpiljaaDoor
namespace Rows

/-- THE TIED CARD OF 'sextonlaw13.SnapRises'. -/
def snapRisesCard : Claim7 := { stood := { row := snapRisesRow, standIns := [], harness := (true, "3456f35782470ee5f4389225b06b15a62a9060d173c5891717a3855fe6b14b24"), looks := false }, kinds := [], alts := [], laidByText := true, laidKinds := [.data, .pinned], laidTests := true, laidLooks := .later }
def SnapRisesCardSaid : Prop := Claim7.holds Tryd.pinned (.plain (OpenSpec.ofChange snapRisesSpec)) snapRisesCard

/-- THE TIED CARD OF 'sextonlaw13.SnapMended'. -/
def snapMendedCard : Claim7 := { stood := { row := snapMendedRow, standIns := [], harness := (true, "3456f35782470ee5f4389225b06b15a62a9060d173c5891717a3855fe6b14b24"), looks := false }, kinds := [], alts := [], laidByText := true, laidKinds := [.data, .pinned], laidTests := true, laidLooks := .later }
def SnapMendedCardSaid : Prop := Claim7.holds Tryd.pinned (.plain (OpenSpec.ofChange snapMendedSpec)) snapMendedCard

/-- THE SECOND FORM's CARD OF 'sextonlaw13.SnapRises'. -/
def snapRisesUptoCard : Claim7 := { stood := { row := snapRisesUptoRow, standIns := [], harness := (true, "3456f35782470ee5f4389225b06b15a62a9060d173c5891717a3855fe6b14b24"), looks := false }, kinds := [], alts := [], laidByText := true, laidKinds := [.data, .pinned], laidTests := true, laidLooks := .later }
def SnapRisesUptoCardSaid : Prop := Claim7.holds Tryd.pinned (.plain (OpenSpec.upto snapRisesSpec)) snapRisesUptoCard

/-- THE SECOND FORM's CARD OF 'sextonlaw13.SnapMended'. -/
def snapMendedUptoCard : Claim7 := { stood := { row := snapMendedUptoRow, standIns := [], harness := (true, "3456f35782470ee5f4389225b06b15a62a9060d173c5891717a3855fe6b14b24"), looks := false }, kinds := [], alts := [], laidByText := true, laidKinds := [.data, .pinned], laidTests := true, laidLooks := .later }
def SnapMendedUptoCardSaid : Prop := Claim7.holds Tryd.pinned (.plain (OpenSpec.upto snapMendedSpec)) snapMendedUptoCard
end Rows
end Go.Proofs.YthfolocjkpiljaaDoor
