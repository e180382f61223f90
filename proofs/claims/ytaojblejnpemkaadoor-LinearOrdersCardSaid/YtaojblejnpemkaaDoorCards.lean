/-
  DERIVED. GIVEN WITH THE SEED: THE CARDS: each row of YtaojblejnpemkaaDoorRows.lean that lists a variable, with what it lists TIED to the program's text (the seventh form; the later family's looks); each row that meets fmt, with fmt's text TOLD by the authors' own Lean function (tested against real Go, not proved from fmt's source: count such statements apart). THE CARD IS WHAT COUNTS. Prove the row's statement (the work); the ties are given (YtaojblejnpemkaaDoorTie.lean); close each card by the builder's one call (the guide's Derived/Test/ToyasCard.lean, 'card_holds'). Laid BY PROGRAM, IN A SANDBOX (cutbox-door.mjs). By AI agents, Wed Nov 11 2026. No macro, syntax, notation, axiom, sorry.
-/
import Derived.Test.YtaojblejnpemkaaDoorRows
import GoSem.ClaimSeven
namespace Go.Proofs.YtaojblejnpemkaaDoor
namespace Rows

/-- THE TIED CARD OF 'sextonlaw29.LinearOrders'. -/
def linearOrdersCard : Claim7 := { stood := { row := linearOrdersRow, standIns := [], harness := (true, "f90695e2034df2f994bfec737266ce83a7749885998acbe314a714f8dbd952cc"), looks := false }, kinds := [], alts := [], laidByText := true, laidKinds := [.data, .pinned, .pinned, .pinned, .pinned, .pinned, .pinned], laidTests := true, laidLooks := .later }
def LinearOrdersCardSaid : Prop := Claim7.holds Tryd.pinned (.plain (OpenSpec.ofChange linearOrdersSpec)) linearOrdersCard

/-- THE TIED CARD OF 'sextonlaw29.LinearOne'. -/
def linearOneCard : Claim7 := { stood := { row := linearOneRow, standIns := [], harness := (true, "f90695e2034df2f994bfec737266ce83a7749885998acbe314a714f8dbd952cc"), looks := false }, kinds := [], alts := [], laidByText := true, laidKinds := [.data, .pinned, .pinned, .pinned, .pinned, .pinned, .pinned], laidTests := true, laidLooks := .later }
def LinearOneCardSaid : Prop := Claim7.holds Tryd.pinned (.plain (OpenSpec.ofChange linearOneSpec)) linearOneCard

/-- THE TIED CARD OF 'sextonlaw29.LinearLonger'. -/
def linearLongerCard : Claim7 := { stood := { row := linearLongerRow, standIns := [], harness := (true, "f90695e2034df2f994bfec737266ce83a7749885998acbe314a714f8dbd952cc"), looks := false }, kinds := [], alts := [], laidByText := true, laidKinds := [.data, .pinned, .pinned, .pinned, .pinned, .pinned, .pinned], laidTests := true, laidLooks := .later }
def LinearLongerCardSaid : Prop := Claim7.holds Tryd.pinned (.plain (OpenSpec.ofChange linearLongerSpec)) linearLongerCard

/-- THE TIED CARD OF 'sextonlaw29.LinearStale'. -/
def linearStaleCard : Claim7 := { stood := { row := linearStaleRow, standIns := [], harness := (true, "f90695e2034df2f994bfec737266ce83a7749885998acbe314a714f8dbd952cc"), looks := false }, kinds := [], alts := [], laidByText := true, laidKinds := [.data, .pinned, .pinned, .pinned, .pinned, .pinned, .pinned], laidTests := true, laidLooks := .later }
def LinearStaleCardSaid : Prop := Claim7.holds Tryd.pinned (.plain (OpenSpec.ofChange linearStaleSpec)) linearStaleCard

/-- THE TIED CARD OF 'sextonlaw29.LinearWas'. -/
def linearWasCard : Claim7 := { stood := { row := linearWasRow, standIns := [], harness := (true, "f90695e2034df2f994bfec737266ce83a7749885998acbe314a714f8dbd952cc"), looks := false }, kinds := [], alts := [], laidByText := true, laidKinds := [.data, .pinned, .pinned, .pinned, .pinned, .pinned, .pinned], laidTests := true, laidLooks := .later }
def LinearWasCardSaid : Prop := Claim7.holds Tryd.pinned (.plain (OpenSpec.ofChange linearWasSpec)) linearWasCard

/-- THE SECOND FORM's CARD OF 'sextonlaw29.LinearOrders'. -/
def linearOrdersUptoCard : Claim7 := { stood := { row := linearOrdersUptoRow, standIns := [], harness := (true, "f90695e2034df2f994bfec737266ce83a7749885998acbe314a714f8dbd952cc"), looks := false }, kinds := [], alts := [], laidByText := true, laidKinds := [.data, .pinned, .pinned, .pinned, .pinned, .pinned, .pinned], laidTests := true, laidLooks := .later }
def LinearOrdersUptoCardSaid : Prop := Claim7.holds Tryd.pinned (.plain (OpenSpec.upto linearOrdersSpec)) linearOrdersUptoCard

/-- THE SECOND FORM's CARD OF 'sextonlaw29.LinearOne'. -/
def linearOneUptoCard : Claim7 := { stood := { row := linearOneUptoRow, standIns := [], harness := (true, "f90695e2034df2f994bfec737266ce83a7749885998acbe314a714f8dbd952cc"), looks := false }, kinds := [], alts := [], laidByText := true, laidKinds := [.data, .pinned, .pinned, .pinned, .pinned, .pinned, .pinned], laidTests := true, laidLooks := .later }
def LinearOneUptoCardSaid : Prop := Claim7.holds Tryd.pinned (.plain (OpenSpec.upto linearOneSpec)) linearOneUptoCard

/-- THE SECOND FORM's CARD OF 'sextonlaw29.LinearLonger'. -/
def linearLongerUptoCard : Claim7 := { stood := { row := linearLongerUptoRow, standIns := [], harness := (true, "f90695e2034df2f994bfec737266ce83a7749885998acbe314a714f8dbd952cc"), looks := false }, kinds := [], alts := [], laidByText := true, laidKinds := [.data, .pinned, .pinned, .pinned, .pinned, .pinned, .pinned], laidTests := true, laidLooks := .later }
def LinearLongerUptoCardSaid : Prop := Claim7.holds Tryd.pinned (.plain (OpenSpec.upto linearLongerSpec)) linearLongerUptoCard

/-- THE SECOND FORM's CARD OF 'sextonlaw29.LinearStale'. -/
def linearStaleUptoCard : Claim7 := { stood := { row := linearStaleUptoRow, standIns := [], harness := (true, "f90695e2034df2f994bfec737266ce83a7749885998acbe314a714f8dbd952cc"), looks := false }, kinds := [], alts := [], laidByText := true, laidKinds := [.data, .pinned, .pinned, .pinned, .pinned, .pinned, .pinned], laidTests := true, laidLooks := .later }
def LinearStaleUptoCardSaid : Prop := Claim7.holds Tryd.pinned (.plain (OpenSpec.upto linearStaleSpec)) linearStaleUptoCard

/-- THE SECOND FORM's CARD OF 'sextonlaw29.LinearWas'. -/
def linearWasUptoCard : Claim7 := { stood := { row := linearWasUptoRow, standIns := [], harness := (true, "f90695e2034df2f994bfec737266ce83a7749885998acbe314a714f8dbd952cc"), looks := false }, kinds := [], alts := [], laidByText := true, laidKinds := [.data, .pinned, .pinned, .pinned, .pinned, .pinned, .pinned], laidTests := true, laidLooks := .later }
def LinearWasUptoCardSaid : Prop := Claim7.holds Tryd.pinned (.plain (OpenSpec.upto linearWasSpec)) linearWasUptoCard
end Rows
end Go.Proofs.YtaojblejnpemkaaDoor
