/-
  DERIVED. GIVEN WITH THE SEED: THE CARDS: each row of YtejjneamngkmoaaDoorRows.lean that lists a variable, with what it lists TIED to the program's text (the seventh form; the later family's looks); each row that meets fmt, with fmt's text TOLD by the authors' own Lean function (tested against real Go, not proved from fmt's source: count such statements apart). THE CARD IS WHAT COUNTS. Prove the row's statement (the work); the ties are given (YtejjneamngkmoaaDoorTie.lean); close each card by the builder's one call (the guide's Derived/Test/ToyasCard.lean, 'card_holds'). Laid BY PROGRAM, IN A SANDBOX (cutbox-door.mjs). By AI agents, Wed Nov 11 2026. No macro, syntax, notation, axiom, sorry.
-/
import Derived.Test.YtejjneamngkmoaaDoorRows
import GoSem.ClaimSeven
namespace Go.Proofs.YtejjneamngkmoaaDoor
namespace Rows

/-- THE TIED CARD OF 'sextonlaw06.GhostNone'. -/
def ghostNoneCard : Claim7 := { stood := { row := ghostNoneRow, standIns := [], harness := (true, "425a924bc4dc447d6941ac56d29c87bb6068cccfb806ca43b350eab14ab91016"), looks := false }, kinds := [], alts := [], laidByText := true, laidKinds := [.data, .pinned], laidTests := true, laidLooks := .later }
def GhostNoneCardSaid : Prop := Claim7.holds Tryd.pinned (.plain (OpenSpec.ofChange ghostNoneSpec)) ghostNoneCard

/-- THE TIED CARD OF 'sextonlaw06.GhostNothing'. -/
def ghostNothingCard : Claim7 := { stood := { row := ghostNothingRow, standIns := [], harness := (true, "425a924bc4dc447d6941ac56d29c87bb6068cccfb806ca43b350eab14ab91016"), looks := false }, kinds := [], alts := [], laidByText := true, laidKinds := [.data, .pinned], laidTests := true, laidLooks := .later }
def GhostNothingCardSaid : Prop := Claim7.holds Tryd.pinned (.plain (OpenSpec.ofChange ghostNothingSpec)) ghostNothingCard

/-- THE TIED CARD OF 'sextonlaw07.CellApart'. -/
def cellApartCard : Claim7 := { stood := { row := cellApartRow, standIns := [], harness := (true, "425a924bc4dc447d6941ac56d29c87bb6068cccfb806ca43b350eab14ab91016"), looks := false }, kinds := [], alts := [], laidByText := true, laidKinds := [.data, .pinned], laidTests := true, laidLooks := .later }
def CellApartCardSaid : Prop := Claim7.holds Tryd.pinned (.plain (OpenSpec.ofChange cellApartSpec)) cellApartCard

/-- THE TIED CARD OF 'sextonlaw06.GhostHonest'. -/
def ghostHonestCard : Claim7 := { stood := { row := ghostHonestRow, standIns := [], harness := (true, "425a924bc4dc447d6941ac56d29c87bb6068cccfb806ca43b350eab14ab91016"), looks := false }, kinds := [], alts := [], laidByText := true, laidKinds := [.data, .pinned], laidTests := true, laidLooks := .later }
def GhostHonestCardSaid : Prop := Claim7.holds Tryd.pinned (.plain (OpenSpec.ofChange ghostHonestSpec)) ghostHonestCard

/-- THE TIED CARD OF 'sextonlaw06.GhostHealed'. -/
def ghostHealedCard : Claim7 := { stood := { row := ghostHealedRow, standIns := [], harness := (true, "425a924bc4dc447d6941ac56d29c87bb6068cccfb806ca43b350eab14ab91016"), looks := false }, kinds := [], alts := [], laidByText := true, laidKinds := [.data, .pinned], laidTests := true, laidLooks := .later }
def GhostHealedCardSaid : Prop := Claim7.holds Tryd.pinned (.plain (OpenSpec.ofChange ghostHealedSpec)) ghostHealedCard

/-- THE TIED CARD OF 'sextonlaw07.CellOne'. -/
def cellOneCard : Claim7 := { stood := { row := cellOneRow, standIns := [], harness := (true, "425a924bc4dc447d6941ac56d29c87bb6068cccfb806ca43b350eab14ab91016"), looks := false }, kinds := [], alts := [], laidByText := true, laidKinds := [.data, .pinned], laidTests := true, laidLooks := .later }
def CellOneCardSaid : Prop := Claim7.holds Tryd.pinned (.plain (OpenSpec.ofChange cellOneSpec)) cellOneCard

/-- THE TIED CARD OF 'sextonlaw07.CellEither'. -/
def cellEitherCard : Claim7 := { stood := { row := cellEitherRow, standIns := [], harness := (true, "425a924bc4dc447d6941ac56d29c87bb6068cccfb806ca43b350eab14ab91016"), looks := false }, kinds := [], alts := [], laidByText := true, laidKinds := [.data, .pinned], laidTests := true, laidLooks := .later }
def CellEitherCardSaid : Prop := Claim7.holds Tryd.pinned (.plain (OpenSpec.ofChange cellEitherSpec)) cellEitherCard

/-- THE TIED CARD OF 'sextonlaw07.CellHealed'. -/
def cellHealedCard : Claim7 := { stood := { row := cellHealedRow, standIns := [], harness := (true, "425a924bc4dc447d6941ac56d29c87bb6068cccfb806ca43b350eab14ab91016"), looks := false }, kinds := [], alts := [], laidByText := true, laidKinds := [.data, .pinned], laidTests := true, laidLooks := .later }
def CellHealedCardSaid : Prop := Claim7.holds Tryd.pinned (.plain (OpenSpec.ofChange cellHealedSpec)) cellHealedCard

/-- THE TIED CARD OF 'sextonlaw08.MetaBack'. -/
def metaBackCard : Claim7 := { stood := { row := metaBackRow, standIns := [], harness := (true, "425a924bc4dc447d6941ac56d29c87bb6068cccfb806ca43b350eab14ab91016"), looks := false }, kinds := [], alts := [], laidByText := true, laidKinds := [.data, .pinned], laidTests := true, laidLooks := .later }
def MetaBackCardSaid : Prop := Claim7.holds Tryd.pinned (.plain (OpenSpec.ofChange metaBackSpec)) metaBackCard

/-- THE TIED CARD OF 'sextonlaw08.MetaDamage'. -/
def metaDamageCard : Claim7 := { stood := { row := metaDamageRow, standIns := [], harness := (true, "425a924bc4dc447d6941ac56d29c87bb6068cccfb806ca43b350eab14ab91016"), looks := false }, kinds := [], alts := [], laidByText := true, laidKinds := [.data, .pinned], laidTests := true, laidLooks := .later }
def MetaDamageCardSaid : Prop := Claim7.holds Tryd.pinned (.plain (OpenSpec.ofChange metaDamageSpec)) metaDamageCard

/-- THE TIED CARD OF 'sextonlaw08.MetaRises'. -/
def metaRisesCard : Claim7 := { stood := { row := metaRisesRow, standIns := [], harness := (true, "425a924bc4dc447d6941ac56d29c87bb6068cccfb806ca43b350eab14ab91016"), looks := false }, kinds := [], alts := [], laidByText := true, laidKinds := [.data, .pinned], laidTests := true, laidLooks := .later }
def MetaRisesCardSaid : Prop := Claim7.holds Tryd.pinned (.plain (OpenSpec.ofChange metaRisesSpec)) metaRisesCard

/-- THE SECOND FORM's CARD OF 'sextonlaw06.GhostNone'. -/
def ghostNoneUptoCard : Claim7 := { stood := { row := ghostNoneUptoRow, standIns := [], harness := (true, "425a924bc4dc447d6941ac56d29c87bb6068cccfb806ca43b350eab14ab91016"), looks := false }, kinds := [], alts := [], laidByText := true, laidKinds := [.data, .pinned], laidTests := true, laidLooks := .later }
def GhostNoneUptoCardSaid : Prop := Claim7.holds Tryd.pinned (.plain (OpenSpec.upto ghostNoneSpec)) ghostNoneUptoCard

/-- THE SECOND FORM's CARD OF 'sextonlaw06.GhostNothing'. -/
def ghostNothingUptoCard : Claim7 := { stood := { row := ghostNothingUptoRow, standIns := [], harness := (true, "425a924bc4dc447d6941ac56d29c87bb6068cccfb806ca43b350eab14ab91016"), looks := false }, kinds := [], alts := [], laidByText := true, laidKinds := [.data, .pinned], laidTests := true, laidLooks := .later }
def GhostNothingUptoCardSaid : Prop := Claim7.holds Tryd.pinned (.plain (OpenSpec.upto ghostNothingSpec)) ghostNothingUptoCard

/-- THE SECOND FORM's CARD OF 'sextonlaw07.CellApart'. -/
def cellApartUptoCard : Claim7 := { stood := { row := cellApartUptoRow, standIns := [], harness := (true, "425a924bc4dc447d6941ac56d29c87bb6068cccfb806ca43b350eab14ab91016"), looks := false }, kinds := [], alts := [], laidByText := true, laidKinds := [.data, .pinned], laidTests := true, laidLooks := .later }
def CellApartUptoCardSaid : Prop := Claim7.holds Tryd.pinned (.plain (OpenSpec.upto cellApartSpec)) cellApartUptoCard

/-- THE SECOND FORM's CARD OF 'sextonlaw06.GhostHonest'. -/
def ghostHonestUptoCard : Claim7 := { stood := { row := ghostHonestUptoRow, standIns := [], harness := (true, "425a924bc4dc447d6941ac56d29c87bb6068cccfb806ca43b350eab14ab91016"), looks := false }, kinds := [], alts := [], laidByText := true, laidKinds := [.data, .pinned], laidTests := true, laidLooks := .later }
def GhostHonestUptoCardSaid : Prop := Claim7.holds Tryd.pinned (.plain (OpenSpec.upto ghostHonestSpec)) ghostHonestUptoCard

/-- THE SECOND FORM's CARD OF 'sextonlaw06.GhostHealed'. -/
def ghostHealedUptoCard : Claim7 := { stood := { row := ghostHealedUptoRow, standIns := [], harness := (true, "425a924bc4dc447d6941ac56d29c87bb6068cccfb806ca43b350eab14ab91016"), looks := false }, kinds := [], alts := [], laidByText := true, laidKinds := [.data, .pinned], laidTests := true, laidLooks := .later }
def GhostHealedUptoCardSaid : Prop := Claim7.holds Tryd.pinned (.plain (OpenSpec.upto ghostHealedSpec)) ghostHealedUptoCard

/-- THE SECOND FORM's CARD OF 'sextonlaw07.CellOne'. -/
def cellOneUptoCard : Claim7 := { stood := { row := cellOneUptoRow, standIns := [], harness := (true, "425a924bc4dc447d6941ac56d29c87bb6068cccfb806ca43b350eab14ab91016"), looks := false }, kinds := [], alts := [], laidByText := true, laidKinds := [.data, .pinned], laidTests := true, laidLooks := .later }
def CellOneUptoCardSaid : Prop := Claim7.holds Tryd.pinned (.plain (OpenSpec.upto cellOneSpec)) cellOneUptoCard

/-- THE SECOND FORM's CARD OF 'sextonlaw07.CellEither'. -/
def cellEitherUptoCard : Claim7 := { stood := { row := cellEitherUptoRow, standIns := [], harness := (true, "425a924bc4dc447d6941ac56d29c87bb6068cccfb806ca43b350eab14ab91016"), looks := false }, kinds := [], alts := [], laidByText := true, laidKinds := [.data, .pinned], laidTests := true, laidLooks := .later }
def CellEitherUptoCardSaid : Prop := Claim7.holds Tryd.pinned (.plain (OpenSpec.upto cellEitherSpec)) cellEitherUptoCard

/-- THE SECOND FORM's CARD OF 'sextonlaw07.CellHealed'. -/
def cellHealedUptoCard : Claim7 := { stood := { row := cellHealedUptoRow, standIns := [], harness := (true, "425a924bc4dc447d6941ac56d29c87bb6068cccfb806ca43b350eab14ab91016"), looks := false }, kinds := [], alts := [], laidByText := true, laidKinds := [.data, .pinned], laidTests := true, laidLooks := .later }
def CellHealedUptoCardSaid : Prop := Claim7.holds Tryd.pinned (.plain (OpenSpec.upto cellHealedSpec)) cellHealedUptoCard

/-- THE SECOND FORM's CARD OF 'sextonlaw08.MetaBack'. -/
def metaBackUptoCard : Claim7 := { stood := { row := metaBackUptoRow, standIns := [], harness := (true, "425a924bc4dc447d6941ac56d29c87bb6068cccfb806ca43b350eab14ab91016"), looks := false }, kinds := [], alts := [], laidByText := true, laidKinds := [.data, .pinned], laidTests := true, laidLooks := .later }
def MetaBackUptoCardSaid : Prop := Claim7.holds Tryd.pinned (.plain (OpenSpec.upto metaBackSpec)) metaBackUptoCard

/-- THE SECOND FORM's CARD OF 'sextonlaw08.MetaDamage'. -/
def metaDamageUptoCard : Claim7 := { stood := { row := metaDamageUptoRow, standIns := [], harness := (true, "425a924bc4dc447d6941ac56d29c87bb6068cccfb806ca43b350eab14ab91016"), looks := false }, kinds := [], alts := [], laidByText := true, laidKinds := [.data, .pinned], laidTests := true, laidLooks := .later }
def MetaDamageUptoCardSaid : Prop := Claim7.holds Tryd.pinned (.plain (OpenSpec.upto metaDamageSpec)) metaDamageUptoCard

/-- THE SECOND FORM's CARD OF 'sextonlaw08.MetaRises'. -/
def metaRisesUptoCard : Claim7 := { stood := { row := metaRisesUptoRow, standIns := [], harness := (true, "425a924bc4dc447d6941ac56d29c87bb6068cccfb806ca43b350eab14ab91016"), looks := false }, kinds := [], alts := [], laidByText := true, laidKinds := [.data, .pinned], laidTests := true, laidLooks := .later }
def MetaRisesUptoCardSaid : Prop := Claim7.holds Tryd.pinned (.plain (OpenSpec.upto metaRisesSpec)) metaRisesUptoCard
end Rows
end Go.Proofs.YtejjneamngkmoaaDoor
