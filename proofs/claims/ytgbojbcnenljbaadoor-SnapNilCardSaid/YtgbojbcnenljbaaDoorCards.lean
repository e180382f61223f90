/-
  DERIVED. GIVEN WITH THE SEED: THE CARDS: each row of YtgbojbcnenljbaaDoorRows.lean that lists a variable, with what it lists TIED to the program's text (the seventh form; the later family's looks); each row that meets fmt, with fmt's text TOLD by the authors' own Lean function (tested against real Go, not proved from fmt's source: count such statements apart). THE CARD IS WHAT COUNTS. Prove the row's statement (the work); the ties are given (YtgbojbcnenljbaaDoorTie.lean); close each card by the builder's one call (the guide's Derived/Test/ToyasCard.lean, 'card_holds'). Laid BY PROGRAM, IN A SANDBOX (cutbox-door.mjs). By AI agents, Wed Nov 11 2026. No macro, syntax, notation, axiom, sorry.
-/
import Derived.Test.YtgbojbcnenljbaaDoorRows
import GoSem.ClaimSeven
namespace Go.Proofs.YtgbojbcnenljbaaDoor
namespace Rows

/-- THE TIED CARD OF 'sextonlaw06.GhostNone'. -/
def ghostNoneCard : Claim7 := { stood := { row := ghostNoneRow, standIns := [], harness := (true, "a8185dcc0a16309e9d5ca257e1206c73ccc0143e85e7a4a5cfd1f0aac201f704"), looks := false }, kinds := [], alts := [], laidByText := true, laidKinds := [.data, .pinned], laidTests := true, laidLooks := .later }
def GhostNoneCardSaid : Prop := Claim7.holds Tryd.pinned (.plain (OpenSpec.ofChange ghostNoneSpec)) ghostNoneCard

/-- THE TIED CARD OF 'sextonlaw07.CellNone'. -/
def cellNoneCard : Claim7 := { stood := { row := cellNoneRow, standIns := [], harness := (true, "a8185dcc0a16309e9d5ca257e1206c73ccc0143e85e7a4a5cfd1f0aac201f704"), looks := false }, kinds := [], alts := [], laidByText := true, laidKinds := [.data, .pinned], laidTests := true, laidLooks := .later }
def CellNoneCardSaid : Prop := Claim7.holds Tryd.pinned (.plain (OpenSpec.ofChange cellNoneSpec)) cellNoneCard

/-- THE TIED CARD OF 'sextonlaw13.SnapNil'. -/
def snapNilCard : Claim7 := { stood := { row := snapNilRow, standIns := [], harness := (true, "a8185dcc0a16309e9d5ca257e1206c73ccc0143e85e7a4a5cfd1f0aac201f704"), looks := false }, kinds := [], alts := [], laidByText := true, laidKinds := [.data, .pinned], laidTests := true, laidLooks := .later }
def SnapNilCardSaid : Prop := Claim7.holds Tryd.pinned (.plain (OpenSpec.ofChange snapNilSpec)) snapNilCard

/-- THE SECOND FORM's CARD OF 'sextonlaw06.GhostNone'. -/
def ghostNoneUptoCard : Claim7 := { stood := { row := ghostNoneUptoRow, standIns := [], harness := (true, "a8185dcc0a16309e9d5ca257e1206c73ccc0143e85e7a4a5cfd1f0aac201f704"), looks := false }, kinds := [], alts := [], laidByText := true, laidKinds := [.data, .pinned], laidTests := true, laidLooks := .later }
def GhostNoneUptoCardSaid : Prop := Claim7.holds Tryd.pinned (.plain (OpenSpec.upto ghostNoneSpec)) ghostNoneUptoCard

/-- THE SECOND FORM's CARD OF 'sextonlaw07.CellNone'. -/
def cellNoneUptoCard : Claim7 := { stood := { row := cellNoneUptoRow, standIns := [], harness := (true, "a8185dcc0a16309e9d5ca257e1206c73ccc0143e85e7a4a5cfd1f0aac201f704"), looks := false }, kinds := [], alts := [], laidByText := true, laidKinds := [.data, .pinned], laidTests := true, laidLooks := .later }
def CellNoneUptoCardSaid : Prop := Claim7.holds Tryd.pinned (.plain (OpenSpec.upto cellNoneSpec)) cellNoneUptoCard

/-- THE SECOND FORM's CARD OF 'sextonlaw13.SnapNil'. -/
def snapNilUptoCard : Claim7 := { stood := { row := snapNilUptoRow, standIns := [], harness := (true, "a8185dcc0a16309e9d5ca257e1206c73ccc0143e85e7a4a5cfd1f0aac201f704"), looks := false }, kinds := [], alts := [], laidByText := true, laidKinds := [.data, .pinned], laidTests := true, laidLooks := .later }
def SnapNilUptoCardSaid : Prop := Claim7.holds Tryd.pinned (.plain (OpenSpec.upto snapNilSpec)) snapNilUptoCard
end Rows
end Go.Proofs.YtgbojbcnenljbaaDoor
