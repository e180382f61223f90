/-
  NARROWER THAN 'FOR EVERY INPUT', by the rows' own cells (each row's printed sentence says how): GhostNone: laid · GhostNothing: laid · CellApart: laid · GhostHonest: laid · GhostHealed: laid · CellOne: laid · CellEither: laid · CellHealed: laid · MetaBack: laid · MetaDamage: laid · MetaRises: laid.
  DERIVED. THE GIVEN ROWS OF THIS SEAT. 11 by the template 'for every input the law returns true; each argument reads behind the call as it read before'; 0 by the template 'total and deterministic' (their statements: YtejjneamngkmoaaDoorTotals.lean).
  GIVEN WITH THE SEED: the statements are not yours to turn. If you find one false, say at which input.
  Laid BY PROGRAM, IN A SANDBOX (cutbox-rows.mjs): the forced cells as the released guide's own fill.sh prints them over the translation 3c3b540634bda26a… (all of the seat's roots in one cut). By AI agents, Wed Nov 11 2026. No macro, syntax, notation, axiom, sorry.
-/
import Derived.Test.YtejjneamngkmoaaDoorChecked
import GoSem.PinnedTables
import GoSem.Claim
import GoSem.ClaimJoined
import GoSem.ClaimMapViews
import Derived.JoinedTies
import Derived.KernelRfl
namespace Go.Proofs.YtejjneamngkmoaaDoor
/- THE CELL 'sum', in the pinned program and in every row, IS THE sha256 OF THE DUMP (.gsa) THAT YtejjneamngkmoaaDoorProg.lean LOADS. Nothing in Lean hashes anything: it is a label: what it is worth is what the hold of that sum in a sandbox is worth. -/
noncomputable def Tryd.pinned : Pinned := { name := "ytejjneamngkmoaadoor", sum := "3c3b540634bda26ad106367d6713d3c695afe161cf6efaafadcbaf3c9cf71a44", checked := Tryd.checked }
namespace Rows
def none {H : Type} : Left H := { results := [], args := [] }

/- WHAT THE LISTED PACKAGE-LEVEL VARIABLES READ AS WHEN THE CALL BEGINS. Each datum BY PROGRAM (the guide's laid-datum.mjs) off the statement by which the dump's own 'gosem.cut.vars' lays the variable. In a bare row this is a premise. The card (YtejjneamngkmoaaDoorCards.lean) ties it to the program's text. -/
def laid_unicode_utf8_acceptRanges {H : Type} : DataW H := .agg [.agg [.lit (.int .u8 128), .lit (.int .u8 191)], .agg [.lit (.int .u8 160), .lit (.int .u8 191)], .agg [.lit (.int .u8 128), .lit (.int .u8 159)], .agg [.lit (.int .u8 144), .lit (.int .u8 191)], .agg [.lit (.int .u8 128), .lit (.int .u8 143)], .agg [.lit (.int .u8 0), .lit (.int .u8 0)], .agg [.lit (.int .u8 0), .lit (.int .u8 0)], .agg [.lit (.int .u8 0), .lit (.int .u8 0)], .agg [.lit (.int .u8 0), .lit (.int .u8 0)], .agg [.lit (.int .u8 0), .lit (.int .u8 0)], .agg [.lit (.int .u8 0), .lit (.int .u8 0)], .agg [.lit (.int .u8 0), .lit (.int .u8 0)], .agg [.lit (.int .u8 0), .lit (.int .u8 0)], .agg [.lit (.int .u8 0), .lit (.int .u8 0)], .agg [.lit (.int .u8 0), .lit (.int .u8 0)], .agg [.lit (.int .u8 0), .lit (.int .u8 0)]]
/-- One of Go's own tables, pinned by name: the form's constant. -/
def laid_unicode_utf8_first : DataW Unit := Go.Pinned.utf8First

/-- 'sextonlaw06.GhostNone': WHATEVER THE INPUT: true; the input reads as it did. -/
def ghostNoneSpec : ChangeSpec := { name := "ghostNone", fn := fun _ => fun
  | [d1, d2, d3, d4] => { results := [.lit (.bool true)], args := [d1, d2, d3, d4] }
  | _ => none }
def ghostNoneRow : OpenClaim := { program := "ytejjneamngkmoaadoor", sum := "3c3b540634bda26ad106367d6713d3c695afe161cf6efaafadcbaf3c9cf71a44", func := "sexton/sextonlaw06.GhostNone", spec := "ghostNone", unfollowed := true, recurses := true, named := ["unicode/utf8.first", "unicode/utf8.acceptRanges"], apart := false, laid := [("unicode/utf8.acceptRanges", laid_unicode_utf8_acceptRanges), ("unicode/utf8.first", laid_unicode_utf8_first)] }
def GhostNoneSaid : Prop := ghostNoneRow.holds Tryd.pinned (OpenSpec.ofChange ghostNoneSpec)

/-- ITS FALSE NEIGHBOUR: 'it returns false'. Refute it at one input. -/
def ghostNoneWrong : ChangeSpec := { name := "ghostNone", fn := fun _ => fun
  | [d1, d2, d3, d4] => { results := [.lit (.bool false)], args := [d1, d2, d3, d4] }
  | _ => none }
def GhostNoneWrongFalsely : Prop := ghostNoneRow.holds Tryd.pinned (OpenSpec.ofChange ghostNoneWrong)

/-- 'sextonlaw06.GhostNothing': WHATEVER THE INPUT: true; the input reads as it did. -/
def ghostNothingSpec : ChangeSpec := { name := "ghostNothing", fn := fun _ => fun
  | [d1, d2] => { results := [.lit (.bool true)], args := [d1, d2] }
  | _ => none }
def ghostNothingRow : OpenClaim := { program := "ytejjneamngkmoaadoor", sum := "3c3b540634bda26ad106367d6713d3c695afe161cf6efaafadcbaf3c9cf71a44", func := "sexton/sextonlaw06.GhostNothing", spec := "ghostNothing", unfollowed := true, recurses := true, named := ["unicode/utf8.first", "unicode/utf8.acceptRanges"], apart := false, laid := [("unicode/utf8.acceptRanges", laid_unicode_utf8_acceptRanges), ("unicode/utf8.first", laid_unicode_utf8_first)] }
def GhostNothingSaid : Prop := ghostNothingRow.holds Tryd.pinned (OpenSpec.ofChange ghostNothingSpec)

/-- ITS FALSE NEIGHBOUR: 'it returns false'. Refute it at one input. -/
def ghostNothingWrong : ChangeSpec := { name := "ghostNothing", fn := fun _ => fun
  | [d1, d2] => { results := [.lit (.bool false)], args := [d1, d2] }
  | _ => none }
def GhostNothingWrongFalsely : Prop := ghostNothingRow.holds Tryd.pinned (OpenSpec.ofChange ghostNothingWrong)

/-- 'sextonlaw07.CellApart': WHATEVER THE INPUT: true; the input reads as it did. -/
def cellApartSpec : ChangeSpec := { name := "cellApart", fn := fun _ => fun
  | [d1, d2] => { results := [.lit (.bool true)], args := [d1, d2] }
  | _ => none }
def cellApartRow : OpenClaim := { program := "ytejjneamngkmoaadoor", sum := "3c3b540634bda26ad106367d6713d3c695afe161cf6efaafadcbaf3c9cf71a44", func := "sexton/sextonlaw07.CellApart", spec := "cellApart", unfollowed := true, recurses := true, named := ["unicode/utf8.first", "unicode/utf8.acceptRanges"], apart := false, laid := [("unicode/utf8.acceptRanges", laid_unicode_utf8_acceptRanges), ("unicode/utf8.first", laid_unicode_utf8_first)] }
def CellApartSaid : Prop := cellApartRow.holds Tryd.pinned (OpenSpec.ofChange cellApartSpec)

/-- ITS FALSE NEIGHBOUR: 'it returns false'. Refute it at one input. -/
def cellApartWrong : ChangeSpec := { name := "cellApart", fn := fun _ => fun
  | [d1, d2] => { results := [.lit (.bool false)], args := [d1, d2] }
  | _ => none }
def CellApartWrongFalsely : Prop := cellApartRow.holds Tryd.pinned (OpenSpec.ofChange cellApartWrong)

/-- 'sextonlaw06.GhostHonest': WHATEVER THE INPUT: true; the input reads as it did. -/
def ghostHonestSpec : ChangeSpec := { name := "ghostHonest", fn := fun _ => fun
  | [d1, d2, d3] => { results := [.lit (.bool true)], args := [d1, d2, d3] }
  | _ => none }
def ghostHonestRow : OpenClaim := { program := "ytejjneamngkmoaadoor", sum := "3c3b540634bda26ad106367d6713d3c695afe161cf6efaafadcbaf3c9cf71a44", func := "sexton/sextonlaw06.GhostHonest", spec := "ghostHonest", unfollowed := true, recurses := true, named := ["unicode/utf8.first", "unicode/utf8.acceptRanges"], apart := false, laid := [("unicode/utf8.acceptRanges", laid_unicode_utf8_acceptRanges), ("unicode/utf8.first", laid_unicode_utf8_first)] }
def GhostHonestSaid : Prop := ghostHonestRow.holds Tryd.pinned (OpenSpec.ofChange ghostHonestSpec)

/-- ITS FALSE NEIGHBOUR: 'it returns false'. Refute it at one input. -/
def ghostHonestWrong : ChangeSpec := { name := "ghostHonest", fn := fun _ => fun
  | [d1, d2, d3] => { results := [.lit (.bool false)], args := [d1, d2, d3] }
  | _ => none }
def GhostHonestWrongFalsely : Prop := ghostHonestRow.holds Tryd.pinned (OpenSpec.ofChange ghostHonestWrong)

/-- 'sextonlaw06.GhostHealed': WHATEVER THE INPUT: true; the input reads as it did. -/
def ghostHealedSpec : ChangeSpec := { name := "ghostHealed", fn := fun _ => fun
  | [d1, d2, d3] => { results := [.lit (.bool true)], args := [d1, d2, d3] }
  | _ => none }
def ghostHealedRow : OpenClaim := { program := "ytejjneamngkmoaadoor", sum := "3c3b540634bda26ad106367d6713d3c695afe161cf6efaafadcbaf3c9cf71a44", func := "sexton/sextonlaw06.GhostHealed", spec := "ghostHealed", unfollowed := true, recurses := true, named := ["unicode/utf8.first", "unicode/utf8.acceptRanges"], apart := false, laid := [("unicode/utf8.acceptRanges", laid_unicode_utf8_acceptRanges), ("unicode/utf8.first", laid_unicode_utf8_first)] }
def GhostHealedSaid : Prop := ghostHealedRow.holds Tryd.pinned (OpenSpec.ofChange ghostHealedSpec)

/-- ITS FALSE NEIGHBOUR: 'it returns false'. Refute it at one input. -/
def ghostHealedWrong : ChangeSpec := { name := "ghostHealed", fn := fun _ => fun
  | [d1, d2, d3] => { results := [.lit (.bool false)], args := [d1, d2, d3] }
  | _ => none }
def GhostHealedWrongFalsely : Prop := ghostHealedRow.holds Tryd.pinned (OpenSpec.ofChange ghostHealedWrong)

/-- 'sextonlaw07.CellOne': WHATEVER THE INPUT: true; the input reads as it did. -/
def cellOneSpec : ChangeSpec := { name := "cellOne", fn := fun _ => fun
  | [d1, d2, d3, d4, d5] => { results := [.lit (.bool true)], args := [d1, d2, d3, d4, d5] }
  | _ => none }
def cellOneRow : OpenClaim := { program := "ytejjneamngkmoaadoor", sum := "3c3b540634bda26ad106367d6713d3c695afe161cf6efaafadcbaf3c9cf71a44", func := "sexton/sextonlaw07.CellOne", spec := "cellOne", unfollowed := true, recurses := true, named := ["unicode/utf8.first", "unicode/utf8.acceptRanges"], apart := false, laid := [("unicode/utf8.acceptRanges", laid_unicode_utf8_acceptRanges), ("unicode/utf8.first", laid_unicode_utf8_first)] }
def CellOneSaid : Prop := cellOneRow.holds Tryd.pinned (OpenSpec.ofChange cellOneSpec)

/-- ITS FALSE NEIGHBOUR: 'it returns false'. Refute it at one input. -/
def cellOneWrong : ChangeSpec := { name := "cellOne", fn := fun _ => fun
  | [d1, d2, d3, d4, d5] => { results := [.lit (.bool false)], args := [d1, d2, d3, d4, d5] }
  | _ => none }
def CellOneWrongFalsely : Prop := cellOneRow.holds Tryd.pinned (OpenSpec.ofChange cellOneWrong)

/-- 'sextonlaw07.CellEither': WHATEVER THE INPUT: true; the input reads as it did. -/
def cellEitherSpec : ChangeSpec := { name := "cellEither", fn := fun _ => fun
  | [d1, d2, d3, d4, d5] => { results := [.lit (.bool true)], args := [d1, d2, d3, d4, d5] }
  | _ => none }
def cellEitherRow : OpenClaim := { program := "ytejjneamngkmoaadoor", sum := "3c3b540634bda26ad106367d6713d3c695afe161cf6efaafadcbaf3c9cf71a44", func := "sexton/sextonlaw07.CellEither", spec := "cellEither", unfollowed := true, recurses := true, named := ["unicode/utf8.first", "unicode/utf8.acceptRanges"], apart := false, laid := [("unicode/utf8.acceptRanges", laid_unicode_utf8_acceptRanges), ("unicode/utf8.first", laid_unicode_utf8_first)] }
def CellEitherSaid : Prop := cellEitherRow.holds Tryd.pinned (OpenSpec.ofChange cellEitherSpec)

/-- ITS FALSE NEIGHBOUR: 'it returns false'. Refute it at one input. -/
def cellEitherWrong : ChangeSpec := { name := "cellEither", fn := fun _ => fun
  | [d1, d2, d3, d4, d5] => { results := [.lit (.bool false)], args := [d1, d2, d3, d4, d5] }
  | _ => none }
def CellEitherWrongFalsely : Prop := cellEitherRow.holds Tryd.pinned (OpenSpec.ofChange cellEitherWrong)

/-- 'sextonlaw07.CellHealed': WHATEVER THE INPUT: true; the input reads as it did. -/
def cellHealedSpec : ChangeSpec := { name := "cellHealed", fn := fun _ => fun
  | [d1, d2, d3, d4, d5] => { results := [.lit (.bool true)], args := [d1, d2, d3, d4, d5] }
  | _ => none }
def cellHealedRow : OpenClaim := { program := "ytejjneamngkmoaadoor", sum := "3c3b540634bda26ad106367d6713d3c695afe161cf6efaafadcbaf3c9cf71a44", func := "sexton/sextonlaw07.CellHealed", spec := "cellHealed", unfollowed := true, recurses := true, named := ["unicode/utf8.first", "unicode/utf8.acceptRanges"], apart := false, laid := [("unicode/utf8.acceptRanges", laid_unicode_utf8_acceptRanges), ("unicode/utf8.first", laid_unicode_utf8_first)] }
def CellHealedSaid : Prop := cellHealedRow.holds Tryd.pinned (OpenSpec.ofChange cellHealedSpec)

/-- ITS FALSE NEIGHBOUR: 'it returns false'. Refute it at one input. -/
def cellHealedWrong : ChangeSpec := { name := "cellHealed", fn := fun _ => fun
  | [d1, d2, d3, d4, d5] => { results := [.lit (.bool false)], args := [d1, d2, d3, d4, d5] }
  | _ => none }
def CellHealedWrongFalsely : Prop := cellHealedRow.holds Tryd.pinned (OpenSpec.ofChange cellHealedWrong)

/-- 'sextonlaw08.MetaBack': WHATEVER THE INPUT: true; the input reads as it did. -/
def metaBackSpec : ChangeSpec := { name := "metaBack", fn := fun _ => fun
  | [d1, d2] => { results := [.lit (.bool true)], args := [d1, d2] }
  | _ => none }
def metaBackRow : OpenClaim := { program := "ytejjneamngkmoaadoor", sum := "3c3b540634bda26ad106367d6713d3c695afe161cf6efaafadcbaf3c9cf71a44", func := "sexton/sextonlaw08.MetaBack", spec := "metaBack", unfollowed := true, recurses := true, named := ["unicode/utf8.first", "unicode/utf8.acceptRanges"], apart := false, laid := [("unicode/utf8.acceptRanges", laid_unicode_utf8_acceptRanges), ("unicode/utf8.first", laid_unicode_utf8_first)] }
def MetaBackSaid : Prop := metaBackRow.holds Tryd.pinned (OpenSpec.ofChange metaBackSpec)

/-- ITS FALSE NEIGHBOUR: 'it returns false'. Refute it at one input. -/
def metaBackWrong : ChangeSpec := { name := "metaBack", fn := fun _ => fun
  | [d1, d2] => { results := [.lit (.bool false)], args := [d1, d2] }
  | _ => none }
def MetaBackWrongFalsely : Prop := metaBackRow.holds Tryd.pinned (OpenSpec.ofChange metaBackWrong)

/-- 'sextonlaw08.MetaDamage': WHATEVER THE INPUT: true; the input reads as it did. -/
def metaDamageSpec : ChangeSpec := { name := "metaDamage", fn := fun _ => fun
  | [d1, d2, d3] => { results := [.lit (.bool true)], args := [d1, d2, d3] }
  | _ => none }
def metaDamageRow : OpenClaim := { program := "ytejjneamngkmoaadoor", sum := "3c3b540634bda26ad106367d6713d3c695afe161cf6efaafadcbaf3c9cf71a44", func := "sexton/sextonlaw08.MetaDamage", spec := "metaDamage", unfollowed := true, recurses := true, named := ["unicode/utf8.first", "unicode/utf8.acceptRanges"], apart := false, laid := [("unicode/utf8.acceptRanges", laid_unicode_utf8_acceptRanges), ("unicode/utf8.first", laid_unicode_utf8_first)] }
def MetaDamageSaid : Prop := metaDamageRow.holds Tryd.pinned (OpenSpec.ofChange metaDamageSpec)

/-- ITS FALSE NEIGHBOUR: 'it returns false'. Refute it at one input. -/
def metaDamageWrong : ChangeSpec := { name := "metaDamage", fn := fun _ => fun
  | [d1, d2, d3] => { results := [.lit (.bool false)], args := [d1, d2, d3] }
  | _ => none }
def MetaDamageWrongFalsely : Prop := metaDamageRow.holds Tryd.pinned (OpenSpec.ofChange metaDamageWrong)

/-- 'sextonlaw08.MetaRises': WHATEVER THE INPUT: true; the input reads as it did. -/
def metaRisesSpec : ChangeSpec := { name := "metaRises", fn := fun _ => fun
  | [d] => { results := [.lit (.bool true)], args := [d] }
  | _ => none }
def metaRisesRow : OpenClaim := { program := "ytejjneamngkmoaadoor", sum := "3c3b540634bda26ad106367d6713d3c695afe161cf6efaafadcbaf3c9cf71a44", func := "sexton/sextonlaw08.MetaRises", spec := "metaRises", unfollowed := true, recurses := true, named := ["unicode/utf8.first", "unicode/utf8.acceptRanges"], apart := false, laid := [("unicode/utf8.acceptRanges", laid_unicode_utf8_acceptRanges), ("unicode/utf8.first", laid_unicode_utf8_first)] }
def MetaRisesSaid : Prop := metaRisesRow.holds Tryd.pinned (OpenSpec.ofChange metaRisesSpec)

/-- ITS FALSE NEIGHBOUR: 'it returns false'. Refute it at one input. -/
def metaRisesWrong : ChangeSpec := { name := "metaRises", fn := fun _ => fun
  | [d] => { results := [.lit (.bool false)], args := [d] }
  | _ => none }
def MetaRisesWrongFalsely : Prop := metaRisesRow.holds Tryd.pinned (OpenSpec.ofChange metaRisesWrong)

/- THE SECOND FORM. 'bulk': how many values and letters a reading holds, each counted each time it is reached (what is shared counts as often as it is met; a slice's spare places count too). A statement '..UptoSaid' is the law's where the arguments, and the package variables that the reading takes, are together of bulk at most 1048576: NARROWER than '..Said'. Prove '..Said' where nothing that the law and all that it calls make is longer than what came in: it says more and counts as full. Else prove '..UptoSaid'. A law counts once. -/
mutual
def uptoBulk {H : Type} : DataW H → Nat
  | .lit (.string bytes) => bytes.length + 1
  | .lit _ => 1
  | .nil => 1
  | .ptr d => uptoBulk d + 1
  | .slice elems spare => uptoBulkAll elems + uptoBulkAll spare + 1
  | .agg parts => uptoBulkAll parts + 1
  | .iface _ d => uptoBulk d + 1
  | .map entries => uptoBulkEntries entries + 1
  | .held _ => 1
def uptoBulkAll {H : Type} : List (DataW H) → Nat
  | [] => 0
  | d :: r => uptoBulk d + uptoBulkAll r
def uptoBulkEntries {H : Type} : List (Lit × DataW H) → Nat
  | [] => 0
  | x :: r => uptoBulkEntry x + uptoBulkEntries r
def uptoBulkEntry {H : Type} : Lit × DataW H → Nat
  | (.string bytes, d) => bytes.length + uptoBulk d + 1
  | (_, d) => uptoBulk d + 1
 end
def uptoSmall : (H : Type) → List (DataW H) → Bool := fun _ ds => decide (uptoBulkAll ds ≤ 1048576)
def OpenSpec.upto (s : _root_.Go.ChangeSpec) : _root_.Go.OpenSpec := { _root_.Go.OpenSpec.ofChange s with cond := some uptoSmall }

/-- 'sextonlaw06.GhostNone', WHERE WHAT IT READS IS OF BULK AT MOST 1048576: true; the input reads as it did. -/
def ghostNoneUptoRow : OpenClaim := { program := "ytejjneamngkmoaadoor", sum := "3c3b540634bda26ad106367d6713d3c695afe161cf6efaafadcbaf3c9cf71a44", func := "sexton/sextonlaw06.GhostNone", spec := "ghostNone", unfollowed := true, recurses := true, named := ["unicode/utf8.first", "unicode/utf8.acceptRanges"], apart := false, laid := [("unicode/utf8.acceptRanges", laid_unicode_utf8_acceptRanges), ("unicode/utf8.first", laid_unicode_utf8_first)], narrowed := true }
def GhostNoneUptoSaid : Prop := ghostNoneUptoRow.holds Tryd.pinned (OpenSpec.upto ghostNoneSpec)

/-- 'sextonlaw06.GhostNothing', WHERE WHAT IT READS IS OF BULK AT MOST 1048576: true; the input reads as it did. -/
def ghostNothingUptoRow : OpenClaim := { program := "ytejjneamngkmoaadoor", sum := "3c3b540634bda26ad106367d6713d3c695afe161cf6efaafadcbaf3c9cf71a44", func := "sexton/sextonlaw06.GhostNothing", spec := "ghostNothing", unfollowed := true, recurses := true, named := ["unicode/utf8.first", "unicode/utf8.acceptRanges"], apart := false, laid := [("unicode/utf8.acceptRanges", laid_unicode_utf8_acceptRanges), ("unicode/utf8.first", laid_unicode_utf8_first)], narrowed := true }
def GhostNothingUptoSaid : Prop := ghostNothingUptoRow.holds Tryd.pinned (OpenSpec.upto ghostNothingSpec)

/-- 'sextonlaw07.CellApart', WHERE WHAT IT READS IS OF BULK AT MOST 1048576: true; the input reads as it did. -/
def cellApartUptoRow : OpenClaim := { program := "ytejjneamngkmoaadoor", sum := "3c3b540634bda26ad106367d6713d3c695afe161cf6efaafadcbaf3c9cf71a44", func := "sexton/sextonlaw07.CellApart", spec := "cellApart", unfollowed := true, recurses := true, named := ["unicode/utf8.first", "unicode/utf8.acceptRanges"], apart := false, laid := [("unicode/utf8.acceptRanges", laid_unicode_utf8_acceptRanges), ("unicode/utf8.first", laid_unicode_utf8_first)], narrowed := true }
def CellApartUptoSaid : Prop := cellApartUptoRow.holds Tryd.pinned (OpenSpec.upto cellApartSpec)

/-- 'sextonlaw06.GhostHonest', WHERE WHAT IT READS IS OF BULK AT MOST 1048576: true; the input reads as it did. -/
def ghostHonestUptoRow : OpenClaim := { program := "ytejjneamngkmoaadoor", sum := "3c3b540634bda26ad106367d6713d3c695afe161cf6efaafadcbaf3c9cf71a44", func := "sexton/sextonlaw06.GhostHonest", spec := "ghostHonest", unfollowed := true, recurses := true, named := ["unicode/utf8.first", "unicode/utf8.acceptRanges"], apart := false, laid := [("unicode/utf8.acceptRanges", laid_unicode_utf8_acceptRanges), ("unicode/utf8.first", laid_unicode_utf8_first)], narrowed := true }
def GhostHonestUptoSaid : Prop := ghostHonestUptoRow.holds Tryd.pinned (OpenSpec.upto ghostHonestSpec)

/-- 'sextonlaw06.GhostHealed', WHERE WHAT IT READS IS OF BULK AT MOST 1048576: true; the input reads as it did. -/
def ghostHealedUptoRow : OpenClaim := { program := "ytejjneamngkmoaadoor", sum := "3c3b540634bda26ad106367d6713d3c695afe161cf6efaafadcbaf3c9cf71a44", func := "sexton/sextonlaw06.GhostHealed", spec := "ghostHealed", unfollowed := true, recurses := true, named := ["unicode/utf8.first", "unicode/utf8.acceptRanges"], apart := false, laid := [("unicode/utf8.acceptRanges", laid_unicode_utf8_acceptRanges), ("unicode/utf8.first", laid_unicode_utf8_first)], narrowed := true }
def GhostHealedUptoSaid : Prop := ghostHealedUptoRow.holds Tryd.pinned (OpenSpec.upto ghostHealedSpec)

/-- 'sextonlaw07.CellOne', WHERE WHAT IT READS IS OF BULK AT MOST 1048576: true; the input reads as it did. -/
def cellOneUptoRow : OpenClaim := { program := "ytejjneamngkmoaadoor", sum := "3c3b540634bda26ad106367d6713d3c695afe161cf6efaafadcbaf3c9cf71a44", func := "sexton/sextonlaw07.CellOne", spec := "cellOne", unfollowed := true, recurses := true, named := ["unicode/utf8.first", "unicode/utf8.acceptRanges"], apart := false, laid := [("unicode/utf8.acceptRanges", laid_unicode_utf8_acceptRanges), ("unicode/utf8.first", laid_unicode_utf8_first)], narrowed := true }
def CellOneUptoSaid : Prop := cellOneUptoRow.holds Tryd.pinned (OpenSpec.upto cellOneSpec)

/-- 'sextonlaw07.CellEither', WHERE WHAT IT READS IS OF BULK AT MOST 1048576: true; the input reads as it did. -/
def cellEitherUptoRow : OpenClaim := { program := "ytejjneamngkmoaadoor", sum := "3c3b540634bda26ad106367d6713d3c695afe161cf6efaafadcbaf3c9cf71a44", func := "sexton/sextonlaw07.CellEither", spec := "cellEither", unfollowed := true, recurses := true, named := ["unicode/utf8.first", "unicode/utf8.acceptRanges"], apart := false, laid := [("unicode/utf8.acceptRanges", laid_unicode_utf8_acceptRanges), ("unicode/utf8.first", laid_unicode_utf8_first)], narrowed := true }
def CellEitherUptoSaid : Prop := cellEitherUptoRow.holds Tryd.pinned (OpenSpec.upto cellEitherSpec)

/-- 'sextonlaw07.CellHealed', WHERE WHAT IT READS IS OF BULK AT MOST 1048576: true; the input reads as it did. -/
def cellHealedUptoRow : OpenClaim := { program := "ytejjneamngkmoaadoor", sum := "3c3b540634bda26ad106367d6713d3c695afe161cf6efaafadcbaf3c9cf71a44", func := "sexton/sextonlaw07.CellHealed", spec := "cellHealed", unfollowed := true, recurses := true, named := ["unicode/utf8.first", "unicode/utf8.acceptRanges"], apart := false, laid := [("unicode/utf8.acceptRanges", laid_unicode_utf8_acceptRanges), ("unicode/utf8.first", laid_unicode_utf8_first)], narrowed := true }
def CellHealedUptoSaid : Prop := cellHealedUptoRow.holds Tryd.pinned (OpenSpec.upto cellHealedSpec)

/-- 'sextonlaw08.MetaBack', WHERE WHAT IT READS IS OF BULK AT MOST 1048576: true; the input reads as it did. -/
def metaBackUptoRow : OpenClaim := { program := "ytejjneamngkmoaadoor", sum := "3c3b540634bda26ad106367d6713d3c695afe161cf6efaafadcbaf3c9cf71a44", func := "sexton/sextonlaw08.MetaBack", spec := "metaBack", unfollowed := true, recurses := true, named := ["unicode/utf8.first", "unicode/utf8.acceptRanges"], apart := false, laid := [("unicode/utf8.acceptRanges", laid_unicode_utf8_acceptRanges), ("unicode/utf8.first", laid_unicode_utf8_first)], narrowed := true }
def MetaBackUptoSaid : Prop := metaBackUptoRow.holds Tryd.pinned (OpenSpec.upto metaBackSpec)

/-- 'sextonlaw08.MetaDamage', WHERE WHAT IT READS IS OF BULK AT MOST 1048576: true; the input reads as it did. -/
def metaDamageUptoRow : OpenClaim := { program := "ytejjneamngkmoaadoor", sum := "3c3b540634bda26ad106367d6713d3c695afe161cf6efaafadcbaf3c9cf71a44", func := "sexton/sextonlaw08.MetaDamage", spec := "metaDamage", unfollowed := true, recurses := true, named := ["unicode/utf8.first", "unicode/utf8.acceptRanges"], apart := false, laid := [("unicode/utf8.acceptRanges", laid_unicode_utf8_acceptRanges), ("unicode/utf8.first", laid_unicode_utf8_first)], narrowed := true }
def MetaDamageUptoSaid : Prop := metaDamageUptoRow.holds Tryd.pinned (OpenSpec.upto metaDamageSpec)

/-- 'sextonlaw08.MetaRises', WHERE WHAT IT READS IS OF BULK AT MOST 1048576: true; the input reads as it did. -/
def metaRisesUptoRow : OpenClaim := { program := "ytejjneamngkmoaadoor", sum := "3c3b540634bda26ad106367d6713d3c695afe161cf6efaafadcbaf3c9cf71a44", func := "sexton/sextonlaw08.MetaRises", spec := "metaRises", unfollowed := true, recurses := true, named := ["unicode/utf8.first", "unicode/utf8.acceptRanges"], apart := false, laid := [("unicode/utf8.acceptRanges", laid_unicode_utf8_acceptRanges), ("unicode/utf8.first", laid_unicode_utf8_first)], narrowed := true }
def MetaRisesUptoSaid : Prop := metaRisesUptoRow.holds Tryd.pinned (OpenSpec.upto metaRisesSpec)

end Rows
end Go.Proofs.YtejjneamngkmoaaDoor
