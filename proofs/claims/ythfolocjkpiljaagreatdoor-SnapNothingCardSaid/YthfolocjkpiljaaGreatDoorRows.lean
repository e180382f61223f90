/-
  NARROWER THAN 'FOR EVERY INPUT', by the rows' own cells (each row's printed sentence says how): GhostTells: laid · CellPlays: laid · MetaPlays: laid · WalRound: laid · SnapEither: laid · WalApart: laid · SnapPlays: laid · WalPlays: laid · WalNothing: laid · SnapNothing: laid.
  DERIVED. THE GIVEN ROWS OF THIS SEAT. 10 by the template 'for every input the law returns true; each argument reads behind the call as it read before'; 0 by the template 'total and deterministic' (their statements: YthfolocjkpiljaaGreatDoorTotals.lean).
  GIVEN WITH THE SEED: the statements are not yours to turn. If you find one false, say at which input.
  Laid BY PROGRAM, IN A SANDBOX (cutbox-rows.mjs): the forced cells as the released guide's own fill.sh prints them over the translation b5ddfc4eaa05e894… (all of the seat's roots in one cut). By AI agents, Wed Nov 11 2026. No macro, syntax, notation, axiom, sorry.
-/
import Derived.Test.YthfolocjkpiljaaGreatDoorChecked
import GoSem.PinnedTables
import GoSem.Claim
import GoSem.ClaimJoined
import GoSem.ClaimMapViews
import Derived.JoinedTies
import Derived.KernelRfl
namespace Go.Proofs.YthfolocjkpiljaaGreatDoor
/- THE CELL 'sum', in the pinned program and in every row, IS THE sha256 OF THE DUMP (.gsa) THAT YthfolocjkpiljaaGreatDoorProg.lean LOADS. Nothing in Lean hashes anything: it is a label: what it is worth is what the hold of that sum in a sandbox is worth. -/
noncomputable def Tryz.pinned : Pinned := { name := "ythfolocjkpiljaagreatdoor", sum := "b5ddfc4eaa05e894b5f47b22d049d1e9f4b5bacfd4d197cdd8dbbd83cde8ed30", checked := Tryz.checked }
namespace Rows
def none {H : Type} : Left H := { results := [], args := [] }

/- WHAT THE LISTED PACKAGE-LEVEL VARIABLES READ AS WHEN THE CALL BEGINS. Each datum BY PROGRAM (the guide's laid-datum.mjs) off the statement by which the dump's own 'gosem.cut.vars' lays the variable. In a bare row this is a premise. The card (YthfolocjkpiljaaGreatDoorCards.lean) ties it to the program's text. -/
def laid_unicode_utf8_acceptRanges {H : Type} : DataW H := .agg [.agg [.lit (.int .u8 128), .lit (.int .u8 191)], .agg [.lit (.int .u8 160), .lit (.int .u8 191)], .agg [.lit (.int .u8 128), .lit (.int .u8 159)], .agg [.lit (.int .u8 144), .lit (.int .u8 191)], .agg [.lit (.int .u8 128), .lit (.int .u8 143)], .agg [.lit (.int .u8 0), .lit (.int .u8 0)], .agg [.lit (.int .u8 0), .lit (.int .u8 0)], .agg [.lit (.int .u8 0), .lit (.int .u8 0)], .agg [.lit (.int .u8 0), .lit (.int .u8 0)], .agg [.lit (.int .u8 0), .lit (.int .u8 0)], .agg [.lit (.int .u8 0), .lit (.int .u8 0)], .agg [.lit (.int .u8 0), .lit (.int .u8 0)], .agg [.lit (.int .u8 0), .lit (.int .u8 0)], .agg [.lit (.int .u8 0), .lit (.int .u8 0)], .agg [.lit (.int .u8 0), .lit (.int .u8 0)], .agg [.lit (.int .u8 0), .lit (.int .u8 0)]]
/-- One of Go's own tables, pinned by name: the form's constant. -/
def laid_unicode_utf8_first : DataW Unit := Go.Pinned.utf8First

/-- 'sextonlaw06.GhostTells': WHATEVER THE INPUT: true; the input reads as it did. -/
def ghostTellsSpec : ChangeSpec := { name := "ghostTells", fn := fun _ => fun
  | [d1, d2, d3, d4] => { results := [.lit (.bool true)], args := [d1, d2, d3, d4] }
  | _ => none }
def ghostTellsRow : OpenClaim := { program := "ythfolocjkpiljaagreatdoor", sum := "b5ddfc4eaa05e894b5f47b22d049d1e9f4b5bacfd4d197cdd8dbbd83cde8ed30", func := "sexton/sextonlaw06.GhostTells", spec := "ghostTells", unfollowed := true, recurses := true, named := ["unicode/utf8.first", "unicode/utf8.acceptRanges"], apart := false, laid := [("unicode/utf8.acceptRanges", laid_unicode_utf8_acceptRanges), ("unicode/utf8.first", laid_unicode_utf8_first)] }
def GhostTellsSaid : Prop := ghostTellsRow.holds Tryz.pinned (OpenSpec.ofChange ghostTellsSpec)

/-- ITS FALSE NEIGHBOUR: 'it returns false'. Refute it at one input. -/
def ghostTellsWrong : ChangeSpec := { name := "ghostTells", fn := fun _ => fun
  | [d1, d2, d3, d4] => { results := [.lit (.bool false)], args := [d1, d2, d3, d4] }
  | _ => none }
def GhostTellsWrongFalsely : Prop := ghostTellsRow.holds Tryz.pinned (OpenSpec.ofChange ghostTellsWrong)

/-- 'sextonlaw07.CellPlays': WHATEVER THE INPUT: true; the input reads as it did. -/
def cellPlaysSpec : ChangeSpec := { name := "cellPlays", fn := fun _ => fun
  | [d1, d2, d3] => { results := [.lit (.bool true)], args := [d1, d2, d3] }
  | _ => none }
def cellPlaysRow : OpenClaim := { program := "ythfolocjkpiljaagreatdoor", sum := "b5ddfc4eaa05e894b5f47b22d049d1e9f4b5bacfd4d197cdd8dbbd83cde8ed30", func := "sexton/sextonlaw07.CellPlays", spec := "cellPlays", unfollowed := true, recurses := true, named := ["unicode/utf8.first", "unicode/utf8.acceptRanges"], apart := false, laid := [("unicode/utf8.acceptRanges", laid_unicode_utf8_acceptRanges), ("unicode/utf8.first", laid_unicode_utf8_first)] }
def CellPlaysSaid : Prop := cellPlaysRow.holds Tryz.pinned (OpenSpec.ofChange cellPlaysSpec)

/-- ITS FALSE NEIGHBOUR: 'it returns false'. Refute it at one input. -/
def cellPlaysWrong : ChangeSpec := { name := "cellPlays", fn := fun _ => fun
  | [d1, d2, d3] => { results := [.lit (.bool false)], args := [d1, d2, d3] }
  | _ => none }
def CellPlaysWrongFalsely : Prop := cellPlaysRow.holds Tryz.pinned (OpenSpec.ofChange cellPlaysWrong)

/-- 'sextonlaw08.MetaPlays': WHATEVER THE INPUT: true; the input reads as it did. -/
def metaPlaysSpec : ChangeSpec := { name := "metaPlays", fn := fun _ => fun
  | [d1, d2, d3] => { results := [.lit (.bool true)], args := [d1, d2, d3] }
  | _ => none }
def metaPlaysRow : OpenClaim := { program := "ythfolocjkpiljaagreatdoor", sum := "b5ddfc4eaa05e894b5f47b22d049d1e9f4b5bacfd4d197cdd8dbbd83cde8ed30", func := "sexton/sextonlaw08.MetaPlays", spec := "metaPlays", unfollowed := true, recurses := true, named := ["unicode/utf8.first", "unicode/utf8.acceptRanges"], apart := false, laid := [("unicode/utf8.acceptRanges", laid_unicode_utf8_acceptRanges), ("unicode/utf8.first", laid_unicode_utf8_first)] }
def MetaPlaysSaid : Prop := metaPlaysRow.holds Tryz.pinned (OpenSpec.ofChange metaPlaysSpec)

/-- ITS FALSE NEIGHBOUR: 'it returns false'. Refute it at one input. -/
def metaPlaysWrong : ChangeSpec := { name := "metaPlays", fn := fun _ => fun
  | [d1, d2, d3] => { results := [.lit (.bool false)], args := [d1, d2, d3] }
  | _ => none }
def MetaPlaysWrongFalsely : Prop := metaPlaysRow.holds Tryz.pinned (OpenSpec.ofChange metaPlaysWrong)

/-- 'sextonlaw11.WalRound': WHATEVER THE INPUT: true; the input reads as it did. -/
def walRoundSpec : ChangeSpec := { name := "walRound", fn := fun _ => fun
  | [d1, d2] => { results := [.lit (.bool true)], args := [d1, d2] }
  | _ => none }
def walRoundRow : OpenClaim := { program := "ythfolocjkpiljaagreatdoor", sum := "b5ddfc4eaa05e894b5f47b22d049d1e9f4b5bacfd4d197cdd8dbbd83cde8ed30", func := "sexton/sextonlaw11.WalRound", spec := "walRound", unfollowed := true, recurses := true, named := ["unicode/utf8.first", "unicode/utf8.acceptRanges"], apart := false, laid := [("unicode/utf8.acceptRanges", laid_unicode_utf8_acceptRanges), ("unicode/utf8.first", laid_unicode_utf8_first)] }
def WalRoundSaid : Prop := walRoundRow.holds Tryz.pinned (OpenSpec.ofChange walRoundSpec)

/-- ITS FALSE NEIGHBOUR: 'it returns false'. Refute it at one input. -/
def walRoundWrong : ChangeSpec := { name := "walRound", fn := fun _ => fun
  | [d1, d2] => { results := [.lit (.bool false)], args := [d1, d2] }
  | _ => none }
def WalRoundWrongFalsely : Prop := walRoundRow.holds Tryz.pinned (OpenSpec.ofChange walRoundWrong)

/-- 'sextonlaw13.SnapEither': WHATEVER THE INPUT: true; the input reads as it did. -/
def snapEitherSpec : ChangeSpec := { name := "snapEither", fn := fun _ => fun
  | [d1, d2, d3, d4] => { results := [.lit (.bool true)], args := [d1, d2, d3, d4] }
  | _ => none }
def snapEitherRow : OpenClaim := { program := "ythfolocjkpiljaagreatdoor", sum := "b5ddfc4eaa05e894b5f47b22d049d1e9f4b5bacfd4d197cdd8dbbd83cde8ed30", func := "sexton/sextonlaw13.SnapEither", spec := "snapEither", unfollowed := true, recurses := true, named := ["unicode/utf8.first", "unicode/utf8.acceptRanges"], apart := false, laid := [("unicode/utf8.acceptRanges", laid_unicode_utf8_acceptRanges), ("unicode/utf8.first", laid_unicode_utf8_first)] }
def SnapEitherSaid : Prop := snapEitherRow.holds Tryz.pinned (OpenSpec.ofChange snapEitherSpec)

/-- ITS FALSE NEIGHBOUR: 'it returns false'. Refute it at one input. -/
def snapEitherWrong : ChangeSpec := { name := "snapEither", fn := fun _ => fun
  | [d1, d2, d3, d4] => { results := [.lit (.bool false)], args := [d1, d2, d3, d4] }
  | _ => none }
def SnapEitherWrongFalsely : Prop := snapEitherRow.holds Tryz.pinned (OpenSpec.ofChange snapEitherWrong)

/-- 'sextonlaw11.WalApart': WHATEVER THE INPUT: true; the input reads as it did. -/
def walApartSpec : ChangeSpec := { name := "walApart", fn := fun _ => fun
  | [d1, d2, d3] => { results := [.lit (.bool true)], args := [d1, d2, d3] }
  | _ => none }
def walApartRow : OpenClaim := { program := "ythfolocjkpiljaagreatdoor", sum := "b5ddfc4eaa05e894b5f47b22d049d1e9f4b5bacfd4d197cdd8dbbd83cde8ed30", func := "sexton/sextonlaw11.WalApart", spec := "walApart", unfollowed := true, recurses := true, named := ["unicode/utf8.first", "unicode/utf8.acceptRanges"], apart := false, laid := [("unicode/utf8.acceptRanges", laid_unicode_utf8_acceptRanges), ("unicode/utf8.first", laid_unicode_utf8_first)] }
def WalApartSaid : Prop := walApartRow.holds Tryz.pinned (OpenSpec.ofChange walApartSpec)

/-- ITS FALSE NEIGHBOUR: 'it returns false'. Refute it at one input. -/
def walApartWrong : ChangeSpec := { name := "walApart", fn := fun _ => fun
  | [d1, d2, d3] => { results := [.lit (.bool false)], args := [d1, d2, d3] }
  | _ => none }
def WalApartWrongFalsely : Prop := walApartRow.holds Tryz.pinned (OpenSpec.ofChange walApartWrong)

/-- 'sextonlaw13.SnapPlays': WHATEVER THE INPUT: true; the input reads as it did. -/
def snapPlaysSpec : ChangeSpec := { name := "snapPlays", fn := fun _ => fun
  | [d1, d2, d3] => { results := [.lit (.bool true)], args := [d1, d2, d3] }
  | _ => none }
def snapPlaysRow : OpenClaim := { program := "ythfolocjkpiljaagreatdoor", sum := "b5ddfc4eaa05e894b5f47b22d049d1e9f4b5bacfd4d197cdd8dbbd83cde8ed30", func := "sexton/sextonlaw13.SnapPlays", spec := "snapPlays", unfollowed := true, recurses := true, named := ["unicode/utf8.first", "unicode/utf8.acceptRanges"], apart := false, laid := [("unicode/utf8.acceptRanges", laid_unicode_utf8_acceptRanges), ("unicode/utf8.first", laid_unicode_utf8_first)] }
def SnapPlaysSaid : Prop := snapPlaysRow.holds Tryz.pinned (OpenSpec.ofChange snapPlaysSpec)

/-- ITS FALSE NEIGHBOUR: 'it returns false'. Refute it at one input. -/
def snapPlaysWrong : ChangeSpec := { name := "snapPlays", fn := fun _ => fun
  | [d1, d2, d3] => { results := [.lit (.bool false)], args := [d1, d2, d3] }
  | _ => none }
def SnapPlaysWrongFalsely : Prop := snapPlaysRow.holds Tryz.pinned (OpenSpec.ofChange snapPlaysWrong)

/-- 'sextonlaw11.WalPlays': WHATEVER THE INPUT: true; the input reads as it did. -/
def walPlaysSpec : ChangeSpec := { name := "walPlays", fn := fun _ => fun
  | [d1, d2, d3, d4, d5] => { results := [.lit (.bool true)], args := [d1, d2, d3, d4, d5] }
  | _ => none }
def walPlaysRow : OpenClaim := { program := "ythfolocjkpiljaagreatdoor", sum := "b5ddfc4eaa05e894b5f47b22d049d1e9f4b5bacfd4d197cdd8dbbd83cde8ed30", func := "sexton/sextonlaw11.WalPlays", spec := "walPlays", unfollowed := true, recurses := true, named := ["unicode/utf8.first", "unicode/utf8.acceptRanges"], apart := false, laid := [("unicode/utf8.acceptRanges", laid_unicode_utf8_acceptRanges), ("unicode/utf8.first", laid_unicode_utf8_first)] }
def WalPlaysSaid : Prop := walPlaysRow.holds Tryz.pinned (OpenSpec.ofChange walPlaysSpec)

/-- ITS FALSE NEIGHBOUR: 'it returns false'. Refute it at one input. -/
def walPlaysWrong : ChangeSpec := { name := "walPlays", fn := fun _ => fun
  | [d1, d2, d3, d4, d5] => { results := [.lit (.bool false)], args := [d1, d2, d3, d4, d5] }
  | _ => none }
def WalPlaysWrongFalsely : Prop := walPlaysRow.holds Tryz.pinned (OpenSpec.ofChange walPlaysWrong)

/-- 'sextonlaw11.WalNothing': WHATEVER THE INPUT: true; the input reads as it did. -/
def walNothingSpec : ChangeSpec := { name := "walNothing", fn := fun _ => fun
  | [d1, d2] => { results := [.lit (.bool true)], args := [d1, d2] }
  | _ => none }
def walNothingRow : OpenClaim := { program := "ythfolocjkpiljaagreatdoor", sum := "b5ddfc4eaa05e894b5f47b22d049d1e9f4b5bacfd4d197cdd8dbbd83cde8ed30", func := "sexton/sextonlaw11.WalNothing", spec := "walNothing", unfollowed := true, recurses := true, named := ["unicode/utf8.first", "unicode/utf8.acceptRanges"], apart := false, laid := [("unicode/utf8.acceptRanges", laid_unicode_utf8_acceptRanges), ("unicode/utf8.first", laid_unicode_utf8_first)] }
def WalNothingSaid : Prop := walNothingRow.holds Tryz.pinned (OpenSpec.ofChange walNothingSpec)

/-- ITS FALSE NEIGHBOUR: 'it returns false'. Refute it at one input. -/
def walNothingWrong : ChangeSpec := { name := "walNothing", fn := fun _ => fun
  | [d1, d2] => { results := [.lit (.bool false)], args := [d1, d2] }
  | _ => none }
def WalNothingWrongFalsely : Prop := walNothingRow.holds Tryz.pinned (OpenSpec.ofChange walNothingWrong)

/-- 'sextonlaw13.SnapNothing': WHATEVER THE INPUT: true; the input reads as it did. -/
def snapNothingSpec : ChangeSpec := { name := "snapNothing", fn := fun _ => fun
  | [d1, d2] => { results := [.lit (.bool true)], args := [d1, d2] }
  | _ => none }
def snapNothingRow : OpenClaim := { program := "ythfolocjkpiljaagreatdoor", sum := "b5ddfc4eaa05e894b5f47b22d049d1e9f4b5bacfd4d197cdd8dbbd83cde8ed30", func := "sexton/sextonlaw13.SnapNothing", spec := "snapNothing", unfollowed := true, recurses := true, named := ["unicode/utf8.first", "unicode/utf8.acceptRanges"], apart := false, laid := [("unicode/utf8.acceptRanges", laid_unicode_utf8_acceptRanges), ("unicode/utf8.first", laid_unicode_utf8_first)] }
def SnapNothingSaid : Prop := snapNothingRow.holds Tryz.pinned (OpenSpec.ofChange snapNothingSpec)

/-- ITS FALSE NEIGHBOUR: 'it returns false'. Refute it at one input. -/
def snapNothingWrong : ChangeSpec := { name := "snapNothing", fn := fun _ => fun
  | [d1, d2] => { results := [.lit (.bool false)], args := [d1, d2] }
  | _ => none }
def SnapNothingWrongFalsely : Prop := snapNothingRow.holds Tryz.pinned (OpenSpec.ofChange snapNothingWrong)

/- THE SECOND FORM. 'bulk': how many values and letters a reading holds, each counted each time it is reached (what is shared counts as often as it is met; a slice's spare places count too). A statement '..UptoSaid' is the law's where the arguments, and the package variables that the reading takes, are together of bulk at most 1048576: NARROWER than '..Said'. Prove '..Said' where nothing that the law and all that it calls make is longer than what came in: it says more and counts as full. Else prove '..UptoSaid'. A law counts once. -/
mutual
def uptoBulk {H : Type} : DataW H → Nat
  | .lit (.string bytes) => bytes.length + 1
  | .lit _ => 1
  | .nil => 1
  | .ptr d => uptoBulk d + 1
  | .slice elems spare => uptoBulkAll elems + uptoBulkAll spare + 1
  | .agg parts => uptoBulkAll parts + 1
  | .iface _ d => uptoBulk d + 1
  | .map entries => uptoBulkEntries entries + 1
  | .held _ => 1
def uptoBulkAll {H : Type} : List (DataW H) → Nat
  | [] => 0
  | d :: r => uptoBulk d + uptoBulkAll r
def uptoBulkEntries {H : Type} : List (Lit × DataW H) → Nat
  | [] => 0
  | x :: r => uptoBulkEntry x + uptoBulkEntries r
def uptoBulkEntry {H : Type} : Lit × DataW H → Nat
  | (.string bytes, d) => bytes.length + uptoBulk d + 1
  | (_, d) => uptoBulk d + 1
 end
def uptoSmall : (H : Type) → List (DataW H) → Bool := fun _ ds => decide (uptoBulkAll ds ≤ 1048576)
def OpenSpec.upto (s : _root_.Go.ChangeSpec) : _root_.Go.OpenSpec := { _root_.Go.OpenSpec.ofChange s with cond := some uptoSmall }

/-- 'sextonlaw06.GhostTells', WHERE WHAT IT READS IS OF BULK AT MOST 1048576: true; the input reads as it did. -/
def ghostTellsUptoRow : OpenClaim := { program := "ythfolocjkpiljaagreatdoor", sum := "b5ddfc4eaa05e894b5f47b22d049d1e9f4b5bacfd4d197cdd8dbbd83cde8ed30", func := "sexton/sextonlaw06.GhostTells", spec := "ghostTells", unfollowed := true, recurses := true, named := ["unicode/utf8.first", "unicode/utf8.acceptRanges"], apart := false, laid := [("unicode/utf8.acceptRanges", laid_unicode_utf8_acceptRanges), ("unicode/utf8.first", laid_unicode_utf8_first)], narrowed := true }
def GhostTellsUptoSaid : Prop := ghostTellsUptoRow.holds Tryz.pinned (OpenSpec.upto ghostTellsSpec)

/-- 'sextonlaw07.CellPlays', WHERE WHAT IT READS IS OF BULK AT MOST 1048576: true; the input reads as it did. -/
def cellPlaysUptoRow : OpenClaim := { program := "ythfolocjkpiljaagreatdoor", sum := "b5ddfc4eaa05e894b5f47b22d049d1e9f4b5bacfd4d197cdd8dbbd83cde8ed30", func := "sexton/sextonlaw07.CellPlays", spec := "cellPlays", unfollowed := true, recurses := true, named := ["unicode/utf8.first", "unicode/utf8.acceptRanges"], apart := false, laid := [("unicode/utf8.acceptRanges", laid_unicode_utf8_acceptRanges), ("unicode/utf8.first", laid_unicode_utf8_first)], narrowed := true }
def CellPlaysUptoSaid : Prop := cellPlaysUptoRow.holds Tryz.pinned (OpenSpec.upto cellPlaysSpec)

/-- 'sextonlaw08.MetaPlays', WHERE WHAT IT READS IS OF BULK AT MOST 1048576: true; the input reads as it did. -/
def metaPlaysUptoRow : OpenClaim := { program := "ythfolocjkpiljaagreatdoor", sum := "b5ddfc4eaa05e894b5f47b22d049d1e9f4b5bacfd4d197cdd8dbbd83cde8ed30", func := "sexton/sextonlaw08.MetaPlays", spec := "metaPlays", unfollowed := true, recurses := true, named := ["unicode/utf8.first", "unicode/utf8.acceptRanges"], apart := false, laid := [("unicode/utf8.acceptRanges", laid_unicode_utf8_acceptRanges), ("unicode/utf8.first", laid_unicode_utf8_first)], narrowed := true }
def MetaPlaysUptoSaid : Prop := metaPlaysUptoRow.holds Tryz.pinned (OpenSpec.upto metaPlaysSpec)

/-- 'sextonlaw11.WalRound', WHERE WHAT IT READS IS OF BULK AT MOST 1048576: true; the input reads as it did. -/
def walRoundUptoRow : OpenClaim := { program := "ythfolocjkpiljaagreatdoor", sum := "b5ddfc4eaa05e894b5f47b22d049d1e9f4b5bacfd4d197cdd8dbbd83cde8ed30", func := "sexton/sextonlaw11.WalRound", spec := "walRound", unfollowed := true, recurses := true, named := ["unicode/utf8.first", "unicode/utf8.acceptRanges"], apart := false, laid := [("unicode/utf8.acceptRanges", laid_unicode_utf8_acceptRanges), ("unicode/utf8.first", laid_unicode_utf8_first)], narrowed := true }
def WalRoundUptoSaid : Prop := walRoundUptoRow.holds Tryz.pinned (OpenSpec.upto walRoundSpec)

/-- 'sextonlaw13.SnapEither', WHERE WHAT IT READS IS OF BULK AT MOST 1048576: true; the input reads as it did. -/
def snapEitherUptoRow : OpenClaim := { program := "ythfolocjkpiljaagreatdoor", sum := "b5ddfc4eaa05e894b5f47b22d049d1e9f4b5bacfd4d197cdd8dbbd83cde8ed30", func := "sexton/sextonlaw13.SnapEither", spec := "snapEither", unfollowed := true, recurses := true, named := ["unicode/utf8.first", "unicode/utf8.acceptRanges"], apart := false, laid := [("unicode/utf8.acceptRanges", laid_unicode_utf8_acceptRanges), ("unicode/utf8.first", laid_unicode_utf8_first)], narrowed := true }
def SnapEitherUptoSaid : Prop := snapEitherUptoRow.holds Tryz.pinned (OpenSpec.upto snapEitherSpec)

/-- 'sextonlaw11.WalApart', WHERE WHAT IT READS IS OF BULK AT MOST 1048576: true; the input reads as it did. -/
def walApartUptoRow : OpenClaim := { program := "ythfolocjkpiljaagreatdoor", sum := "b5ddfc4eaa05e894b5f47b22d049d1e9f4b5bacfd4d197cdd8dbbd83cde8ed30", func := "sexton/sextonlaw11.WalApart", spec := "walApart", unfollowed := true, recurses := true, named := ["unicode/utf8.first", "unicode/utf8.acceptRanges"], apart := false, laid := [("unicode/utf8.acceptRanges", laid_unicode_utf8_acceptRanges), ("unicode/utf8.first", laid_unicode_utf8_first)], narrowed := true }
def WalApartUptoSaid : Prop := walApartUptoRow.holds Tryz.pinned (OpenSpec.upto walApartSpec)

/-- 'sextonlaw13.SnapPlays', WHERE WHAT IT READS IS OF BULK AT MOST 1048576: true; the input reads as it did. -/
def snapPlaysUptoRow : OpenClaim := { program := "ythfolocjkpiljaagreatdoor", sum := "b5ddfc4eaa05e894b5f47b22d049d1e9f4b5bacfd4d197cdd8dbbd83cde8ed30", func := "sexton/sextonlaw13.SnapPlays", spec := "snapPlays", unfollowed := true, recurses := true, named := ["unicode/utf8.first", "unicode/utf8.acceptRanges"], apart := false, laid := [("unicode/utf8.acceptRanges", laid_unicode_utf8_acceptRanges), ("unicode/utf8.first", laid_unicode_utf8_first)], narrowed := true }
def SnapPlaysUptoSaid : Prop := snapPlaysUptoRow.holds Tryz.pinned (OpenSpec.upto snapPlaysSpec)

/-- 'sextonlaw11.WalPlays', WHERE WHAT IT READS IS OF BULK AT MOST 1048576: true; the input reads as it did. -/
def walPlaysUptoRow : OpenClaim := { program := "ythfolocjkpiljaagreatdoor", sum := "b5ddfc4eaa05e894b5f47b22d049d1e9f4b5bacfd4d197cdd8dbbd83cde8ed30", func := "sexton/sextonlaw11.WalPlays", spec := "walPlays", unfollowed := true, recurses := true, named := ["unicode/utf8.first", "unicode/utf8.acceptRanges"], apart := false, laid := [("unicode/utf8.acceptRanges", laid_unicode_utf8_acceptRanges), ("unicode/utf8.first", laid_unicode_utf8_first)], narrowed := true }
def WalPlaysUptoSaid : Prop := walPlaysUptoRow.holds Tryz.pinned (OpenSpec.upto walPlaysSpec)

/-- 'sextonlaw11.WalNothing', WHERE WHAT IT READS IS OF BULK AT MOST 1048576: true; the input reads as it did. -/
def walNothingUptoRow : OpenClaim := { program := "ythfolocjkpiljaagreatdoor", sum := "b5ddfc4eaa05e894b5f47b22d049d1e9f4b5bacfd4d197cdd8dbbd83cde8ed30", func := "sexton/sextonlaw11.WalNothing", spec := "walNothing", unfollowed := true, recurses := true, named := ["unicode/utf8.first", "unicode/utf8.acceptRanges"], apart := false, laid := [("unicode/utf8.acceptRanges", laid_unicode_utf8_acceptRanges), ("unicode/utf8.first", laid_unicode_utf8_first)], narrowed := true }
def WalNothingUptoSaid : Prop := walNothingUptoRow.holds Tryz.pinned (OpenSpec.upto walNothingSpec)

/-- 'sextonlaw13.SnapNothing', WHERE WHAT IT READS IS OF BULK AT MOST 1048576: true; the input reads as it did. -/
def snapNothingUptoRow : OpenClaim := { program := "ythfolocjkpiljaagreatdoor", sum := "b5ddfc4eaa05e894b5f47b22d049d1e9f4b5bacfd4d197cdd8dbbd83cde8ed30", func := "sexton/sextonlaw13.SnapNothing", spec := "snapNothing", unfollowed := true, recurses := true, named := ["unicode/utf8.first", "unicode/utf8.acceptRanges"], apart := false, laid := [("unicode/utf8.acceptRanges", laid_unicode_utf8_acceptRanges), ("unicode/utf8.first", laid_unicode_utf8_first)], narrowed := true }
def SnapNothingUptoSaid : Prop := snapNothingUptoRow.holds Tryz.pinned (OpenSpec.upto snapNothingSpec)

end Rows
end Go.Proofs.YthfolocjkpiljaaGreatDoor
