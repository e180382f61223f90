/-
  No cell of these rows narrows 'for every input' (looked for: loops, veiled, ifaces, maps, wideKeys, modest, calm, conditions, laid).
  DERIVED. THE GIVEN ROWS OF THIS SEAT. 12 by the template 'for every input the law returns true; each argument reads behind the call as it read before'; 0 by the template 'total and deterministic' (their statements: YtmnjmjbmnhppfaaTotals.lean).
  GIVEN WITH THE SEED: the statements are not yours to turn. If you find one false, say at which input.
  Laid BY PROGRAM, IN A SANDBOX (cutbox-rows.mjs): the forced cells as the released guide's own fill.sh prints them over the translation 5ab2e4ac6f67adbb… (all of the seat's roots in one cut). By AI agents, Wed Nov 11 2026. No macro, syntax, notation, axiom, sorry.
-/
import Derived.Test.YtmnjmjbmnhppfaaChecked
import GoSem.Claim
import GoSem.ClaimJoined
import GoSem.ClaimMapViews
import Derived.JoinedTies
import Derived.KernelRfl
namespace Go.Proofs.Ytmnjmjbmnhppfaa
/- THE CELL 'sum', in the pinned program and in every row, IS THE sha256 OF THE DUMP (.gsa) THAT YtmnjmjbmnhppfaaProg.lean LOADS. Nothing in Lean hashes anything: it is a label: what it is worth is what the hold of that sum in a sandbox is worth. -/
noncomputable def Try.pinned : Pinned := { name := "ytmnjmjbmnhppfaa", sum := "5ab2e4ac6f67adbb41fb4a361cbccf6608101ef910eccaaa0138219a2a4739ec", checked := Try.checked }
namespace Rows
def none {H : Type} : Left H := { results := [], args := [] }

/-- 'sextonlaw08.MetaForms': WHATEVER THE INPUT: true; the input reads as it did. -/
def metaFormsSpec : ChangeSpec := { name := "metaForms", fn := fun _ => fun
  | [d1, d2] => { results := [.lit (.bool true)], args := [d1, d2] }
  | _ => none }
def metaFormsRow : OpenClaim := { program := "ytmnjmjbmnhppfaa", sum := "5ab2e4ac6f67adbb41fb4a361cbccf6608101ef910eccaaa0138219a2a4739ec", func := "sexton/sextonlaw08.MetaForms", spec := "metaForms", apart := false }
def MetaFormsSaid : Prop := metaFormsRow.holds Try.pinned (OpenSpec.ofChange metaFormsSpec)

/-- ITS FALSE NEIGHBOUR: 'it returns false'. Refute it at one input. -/
def metaFormsWrong : ChangeSpec := { name := "metaForms", fn := fun _ => fun
  | [d1, d2] => { results := [.lit (.bool false)], args := [d1, d2] }
  | _ => none }
def MetaFormsWrongFalsely : Prop := metaFormsRow.holds Try.pinned (OpenSpec.ofChange metaFormsWrong)

/-- 'sextonlaw23.ImageBytes': WHATEVER THE INPUT: true; the input reads as it did. -/
def imageBytesSpec : ChangeSpec := { name := "imageBytes", fn := fun _ => fun
  | [d1, d2] => { results := [.lit (.bool true)], args := [d1, d2] }
  | _ => none }
def imageBytesRow : OpenClaim := { program := "ytmnjmjbmnhppfaa", sum := "5ab2e4ac6f67adbb41fb4a361cbccf6608101ef910eccaaa0138219a2a4739ec", func := "sexton/sextonlaw23.ImageBytes", spec := "imageBytes", unfollowed := true, recurses := true, apart := false }
def ImageBytesSaid : Prop := imageBytesRow.holds Try.pinned (OpenSpec.ofChange imageBytesSpec)

/-- ITS FALSE NEIGHBOUR: 'it returns false'. Refute it at one input. -/
def imageBytesWrong : ChangeSpec := { name := "imageBytes", fn := fun _ => fun
  | [d1, d2] => { results := [.lit (.bool false)], args := [d1, d2] }
  | _ => none }
def ImageBytesWrongFalsely : Prop := imageBytesRow.holds Try.pinned (OpenSpec.ofChange imageBytesWrong)

/-- 'sextonlaw21.KvSwaps': WHATEVER THE INPUT: true; the input reads as it did. -/
def kvSwapsSpec : ChangeSpec := { name := "kvSwaps", fn := fun _ => fun
  | [d1, d2, d3, d4, d5] => { results := [.lit (.bool true)], args := [d1, d2, d3, d4, d5] }
  | _ => none }
def kvSwapsRow : OpenClaim := { program := "ytmnjmjbmnhppfaa", sum := "5ab2e4ac6f67adbb41fb4a361cbccf6608101ef910eccaaa0138219a2a4739ec", func := "sexton/sextonlaw21.KvSwaps", spec := "kvSwaps", inPlace := ["slices.overlaps[sexton/kv.Pair]"], unfollowed := true, recurses := true, apart := false }
def KvSwapsSaid : Prop := kvSwapsRow.holds Try.pinned (OpenSpec.ofChange kvSwapsSpec)

/-- ITS FALSE NEIGHBOUR: 'it returns false'. Refute it at one input. -/
def kvSwapsWrong : ChangeSpec := { name := "kvSwaps", fn := fun _ => fun
  | [d1, d2, d3, d4, d5] => { results := [.lit (.bool false)], args := [d1, d2, d3, d4, d5] }
  | _ => none }
def KvSwapsWrongFalsely : Prop := kvSwapsRow.holds Try.pinned (OpenSpec.ofChange kvSwapsWrong)

/-- 'sextonlaw21.KvApart': WHATEVER THE INPUT: true; the input reads as it did. -/
def kvApartSpec : ChangeSpec := { name := "kvApart", fn := fun _ => fun
  | [d1, d2, d3] => { results := [.lit (.bool true)], args := [d1, d2, d3] }
  | _ => none }
def kvApartRow : OpenClaim := { program := "ytmnjmjbmnhppfaa", sum := "5ab2e4ac6f67adbb41fb4a361cbccf6608101ef910eccaaa0138219a2a4739ec", func := "sexton/sextonlaw21.KvApart", spec := "kvApart", inPlace := ["slices.overlaps[sexton/kv.Pair]"], unfollowed := true, recurses := true, apart := false }
def KvApartSaid : Prop := kvApartRow.holds Try.pinned (OpenSpec.ofChange kvApartSpec)

/-- ITS FALSE NEIGHBOUR: 'it returns false'. Refute it at one input. -/
def kvApartWrong : ChangeSpec := { name := "kvApart", fn := fun _ => fun
  | [d1, d2, d3] => { results := [.lit (.bool false)], args := [d1, d2, d3] }
  | _ => none }
def KvApartWrongFalsely : Prop := kvApartRow.holds Try.pinned (OpenSpec.ofChange kvApartWrong)

/-- 'sextonlaw21.KvOver': WHATEVER THE INPUT: true; the input reads as it did. -/
def kvOverSpec : ChangeSpec := { name := "kvOver", fn := fun _ => fun
  | [d1, d2, d3] => { results := [.lit (.bool true)], args := [d1, d2, d3] }
  | _ => none }
def kvOverRow : OpenClaim := { program := "ytmnjmjbmnhppfaa", sum := "5ab2e4ac6f67adbb41fb4a361cbccf6608101ef910eccaaa0138219a2a4739ec", func := "sexton/sextonlaw21.KvOver", spec := "kvOver", inPlace := ["slices.overlaps[sexton/kv.Pair]"], unfollowed := true, recurses := true, apart := false }
def KvOverSaid : Prop := kvOverRow.holds Try.pinned (OpenSpec.ofChange kvOverSpec)

/-- ITS FALSE NEIGHBOUR: 'it returns false'. Refute it at one input. -/
def kvOverWrong : ChangeSpec := { name := "kvOver", fn := fun _ => fun
  | [d1, d2, d3] => { results := [.lit (.bool false)], args := [d1, d2, d3] }
  | _ => none }
def KvOverWrongFalsely : Prop := kvOverRow.holds Try.pinned (OpenSpec.ofChange kvOverWrong)

/-- 'sextonlaw21.KvDoes': WHATEVER THE INPUT: true; the input reads as it did. -/
def kvDoesSpec : ChangeSpec := { name := "kvDoes", fn := fun _ => fun
  | [d1, d2, d3] => { results := [.lit (.bool true)], args := [d1, d2, d3] }
  | _ => none }
def kvDoesRow : OpenClaim := { program := "ytmnjmjbmnhppfaa", sum := "5ab2e4ac6f67adbb41fb4a361cbccf6608101ef910eccaaa0138219a2a4739ec", func := "sexton/sextonlaw21.KvDoes", spec := "kvDoes", inPlace := ["slices.overlaps[sexton/kv.Pair]"], unfollowed := true, recurses := true, apart := false }
def KvDoesSaid : Prop := kvDoesRow.holds Try.pinned (OpenSpec.ofChange kvDoesSpec)

/-- ITS FALSE NEIGHBOUR: 'it returns false'. Refute it at one input. -/
def kvDoesWrong : ChangeSpec := { name := "kvDoes", fn := fun _ => fun
  | [d1, d2, d3] => { results := [.lit (.bool false)], args := [d1, d2, d3] }
  | _ => none }
def KvDoesWrongFalsely : Prop := kvDoesRow.holds Try.pinned (OpenSpec.ofChange kvDoesWrong)

/-- 'sextonlaw21.KvStays': WHATEVER THE INPUT: true; the input reads as it did. -/
def kvStaysSpec : ChangeSpec := { name := "kvStays", fn := fun _ => fun
  | [d1, d2] => { results := [.lit (.bool true)], args := [d1, d2] }
  | _ => none }
def kvStaysRow : OpenClaim := { program := "ytmnjmjbmnhppfaa", sum := "5ab2e4ac6f67adbb41fb4a361cbccf6608101ef910eccaaa0138219a2a4739ec", func := "sexton/sextonlaw21.KvStays", spec := "kvStays", inPlace := ["slices.overlaps[sexton/kv.Pair]"], unfollowed := true, recurses := true, apart := false }
def KvStaysSaid : Prop := kvStaysRow.holds Try.pinned (OpenSpec.ofChange kvStaysSpec)

/-- ITS FALSE NEIGHBOUR: 'it returns false'. Refute it at one input. -/
def kvStaysWrong : ChangeSpec := { name := "kvStays", fn := fun _ => fun
  | [d1, d2] => { results := [.lit (.bool false)], args := [d1, d2] }
  | _ => none }
def KvStaysWrongFalsely : Prop := kvStaysRow.holds Try.pinned (OpenSpec.ofChange kvStaysWrong)

/-- 'sextonlaw23.ImageApplies': WHATEVER THE INPUT: true; the input reads as it did. -/
def imageAppliesSpec : ChangeSpec := { name := "imageApplies", fn := fun _ => fun
  | [d1, d2, d3] => { results := [.lit (.bool true)], args := [d1, d2, d3] }
  | _ => none }
def imageAppliesRow : OpenClaim := { program := "ytmnjmjbmnhppfaa", sum := "5ab2e4ac6f67adbb41fb4a361cbccf6608101ef910eccaaa0138219a2a4739ec", func := "sexton/sextonlaw23.ImageApplies", spec := "imageApplies", inPlace := ["slices.overlaps[sexton/kv.Pair]"], unfollowed := true, recurses := true, apart := false }
def ImageAppliesSaid : Prop := imageAppliesRow.holds Try.pinned (OpenSpec.ofChange imageAppliesSpec)

/-- ITS FALSE NEIGHBOUR: 'it returns false'. Refute it at one input. -/
def imageAppliesWrong : ChangeSpec := { name := "imageApplies", fn := fun _ => fun
  | [d1, d2, d3] => { results := [.lit (.bool false)], args := [d1, d2, d3] }
  | _ => none }
def ImageAppliesWrongFalsely : Prop := imageAppliesRow.holds Try.pinned (OpenSpec.ofChange imageAppliesWrong)

/-- 'sextonlaw23.ImageOnce': WHATEVER THE INPUT: true; the input reads as it did. -/
def imageOnceSpec : ChangeSpec := { name := "imageOnce", fn := fun _ => fun
  | [d1, d2, d3] => { results := [.lit (.bool true)], args := [d1, d2, d3] }
  | _ => none }
def imageOnceRow : OpenClaim := { program := "ytmnjmjbmnhppfaa", sum := "5ab2e4ac6f67adbb41fb4a361cbccf6608101ef910eccaaa0138219a2a4739ec", func := "sexton/sextonlaw23.ImageOnce", spec := "imageOnce", inPlace := ["slices.overlaps[sexton/kv.Pair]"], unfollowed := true, recurses := true, apart := false }
def ImageOnceSaid : Prop := imageOnceRow.holds Try.pinned (OpenSpec.ofChange imageOnceSpec)

/-- ITS FALSE NEIGHBOUR: 'it returns false'. Refute it at one input. -/
def imageOnceWrong : ChangeSpec := { name := "imageOnce", fn := fun _ => fun
  | [d1, d2, d3] => { results := [.lit (.bool false)], args := [d1, d2, d3] }
  | _ => none }
def ImageOnceWrongFalsely : Prop := imageOnceRow.holds Try.pinned (OpenSpec.ofChange imageOnceWrong)

/-- 'sextonlaw23.ImageTorn': WHATEVER THE INPUT: true; the input reads as it did. -/
def imageTornSpec : ChangeSpec := { name := "imageTorn", fn := fun _ => fun
  | [d1, d2, d3] => { results := [.lit (.bool true)], args := [d1, d2, d3] }
  | _ => none }
def imageTornRow : OpenClaim := { program := "ytmnjmjbmnhppfaa", sum := "5ab2e4ac6f67adbb41fb4a361cbccf6608101ef910eccaaa0138219a2a4739ec", func := "sexton/sextonlaw23.ImageTorn", spec := "imageTorn", inPlace := ["slices.overlaps[sexton/kv.Pair]"], unfollowed := true, recurses := true, apart := false }
def ImageTornSaid : Prop := imageTornRow.holds Try.pinned (OpenSpec.ofChange imageTornSpec)

/-- ITS FALSE NEIGHBOUR: 'it returns false'. Refute it at one input. -/
def imageTornWrong : ChangeSpec := { name := "imageTorn", fn := fun _ => fun
  | [d1, d2, d3] => { results := [.lit (.bool false)], args := [d1, d2, d3] }
  | _ => none }
def ImageTornWrongFalsely : Prop := imageTornRow.holds Try.pinned (OpenSpec.ofChange imageTornWrong)

/-- 'sextonlaw23.ImageBack': WHATEVER THE INPUT: true; the input reads as it did. -/
def imageBackSpec : ChangeSpec := { name := "imageBack", fn := fun _ => fun
  | [d1, d2] => { results := [.lit (.bool true)], args := [d1, d2] }
  | _ => none }
def imageBackRow : OpenClaim := { program := "ytmnjmjbmnhppfaa", sum := "5ab2e4ac6f67adbb41fb4a361cbccf6608101ef910eccaaa0138219a2a4739ec", func := "sexton/sextonlaw23.ImageBack", spec := "imageBack", inPlace := ["slices.overlaps[sexton/kv.Pair]"], unfollowed := true, recurses := true, apart := false }
def ImageBackSaid : Prop := imageBackRow.holds Try.pinned (OpenSpec.ofChange imageBackSpec)

/-- ITS FALSE NEIGHBOUR: 'it returns false'. Refute it at one input. -/
def imageBackWrong : ChangeSpec := { name := "imageBack", fn := fun _ => fun
  | [d1, d2] => { results := [.lit (.bool false)], args := [d1, d2] }
  | _ => none }
def ImageBackWrongFalsely : Prop := imageBackRow.holds Try.pinned (OpenSpec.ofChange imageBackWrong)

/-- 'sextonlaw23.ImageAlike': WHATEVER THE INPUT: true; the input reads as it did. -/
def imageAlikeSpec : ChangeSpec := { name := "imageAlike", fn := fun _ => fun
  | [d1, d2, d3] => { results := [.lit (.bool true)], args := [d1, d2, d3] }
  | _ => none }
def imageAlikeRow : OpenClaim := { program := "ytmnjmjbmnhppfaa", sum := "5ab2e4ac6f67adbb41fb4a361cbccf6608101ef910eccaaa0138219a2a4739ec", func := "sexton/sextonlaw23.ImageAlike", spec := "imageAlike", inPlace := ["slices.overlaps[sexton/kv.Pair]"], unfollowed := true, recurses := true, apart := false }
def ImageAlikeSaid : Prop := imageAlikeRow.holds Try.pinned (OpenSpec.ofChange imageAlikeSpec)

/-- ITS FALSE NEIGHBOUR: 'it returns false'. Refute it at one input. -/
def imageAlikeWrong : ChangeSpec := { name := "imageAlike", fn := fun _ => fun
  | [d1, d2, d3] => { results := [.lit (.bool false)], args := [d1, d2, d3] }
  | _ => none }
def ImageAlikeWrongFalsely : Prop := imageAlikeRow.holds Try.pinned (OpenSpec.ofChange imageAlikeWrong)

/- THE SECOND FORM. 'bulk': how many values and letters a reading holds, each counted each time it is reached (what is shared counts as often as it is met; a slice's spare places count too). A statement '..UptoSaid' is the law's where the arguments, and the package variables that the reading takes, are together of bulk at most 1048576: NARROWER than '..Said'. Prove '..Said' where nothing that the law and all that it calls make is longer than what came in: it says more and counts as full. Else prove '..UptoSaid'. A law counts once. -/
mutual
def uptoBulk {H : Type} : DataW H → Nat
  | .lit (.string bytes) => bytes.length + 1
  | .lit _ => 1
  | .nil => 1
  | .ptr d => uptoBulk d + 1
  | .slice elems spare => uptoBulkAll elems + uptoBulkAll spare + 1
  | .agg parts => uptoBulkAll parts + 1
  | .iface _ d => uptoBulk d + 1
  | .map entries => uptoBulkEntries entries + 1
  | .held _ => 1
def uptoBulkAll {H : Type} : List (DataW H) → Nat
  | [] => 0
  | d :: r => uptoBulk d + uptoBulkAll r
def uptoBulkEntries {H : Type} : List (Lit × DataW H) → Nat
  | [] => 0
  | x :: r => uptoBulkEntry x + uptoBulkEntries r
def uptoBulkEntry {H : Type} : Lit × DataW H → Nat
  | (.string bytes, d) => bytes.length + uptoBulk d + 1
  | (_, d) => uptoBulk d + 1
 end
def uptoSmall : (H : Type) → List (DataW H) → Bool := fun _ ds => decide (uptoBulkAll ds ≤ 1048576)
def OpenSpec.upto (s : _root_.Go.ChangeSpec) : _root_.Go.OpenSpec := { _root_.Go.OpenSpec.ofChange s with cond := some uptoSmall }

/-- 'sextonlaw08.MetaForms', WHERE WHAT IT READS IS OF BULK AT MOST 1048576: true; the input reads as it did. -/
def metaFormsUptoRow : OpenClaim := { program := "ytmnjmjbmnhppfaa", sum := "5ab2e4ac6f67adbb41fb4a361cbccf6608101ef910eccaaa0138219a2a4739ec", func := "sexton/sextonlaw08.MetaForms", spec := "metaForms", apart := false, narrowed := true }
def MetaFormsUptoSaid : Prop := metaFormsUptoRow.holds Try.pinned (OpenSpec.upto metaFormsSpec)

/-- 'sextonlaw23.ImageBytes', WHERE WHAT IT READS IS OF BULK AT MOST 1048576: true; the input reads as it did. -/
def imageBytesUptoRow : OpenClaim := { program := "ytmnjmjbmnhppfaa", sum := "5ab2e4ac6f67adbb41fb4a361cbccf6608101ef910eccaaa0138219a2a4739ec", func := "sexton/sextonlaw23.ImageBytes", spec := "imageBytes", unfollowed := true, recurses := true, apart := false, narrowed := true }
def ImageBytesUptoSaid : Prop := imageBytesUptoRow.holds Try.pinned (OpenSpec.upto imageBytesSpec)

/-- 'sextonlaw21.KvSwaps', WHERE WHAT IT READS IS OF BULK AT MOST 1048576: true; the input reads as it did. -/
def kvSwapsUptoRow : OpenClaim := { program := "ytmnjmjbmnhppfaa", sum := "5ab2e4ac6f67adbb41fb4a361cbccf6608101ef910eccaaa0138219a2a4739ec", func := "sexton/sextonlaw21.KvSwaps", spec := "kvSwaps", inPlace := ["slices.overlaps[sexton/kv.Pair]"], unfollowed := true, recurses := true, apart := false, narrowed := true }
def KvSwapsUptoSaid : Prop := kvSwapsUptoRow.holds Try.pinned (OpenSpec.upto kvSwapsSpec)

/-- 'sextonlaw21.KvApart', WHERE WHAT IT READS IS OF BULK AT MOST 1048576: true; the input reads as it did. -/
def kvApartUptoRow : OpenClaim := { program := "ytmnjmjbmnhppfaa", sum := "5ab2e4ac6f67adbb41fb4a361cbccf6608101ef910eccaaa0138219a2a4739ec", func := "sexton/sextonlaw21.KvApart", spec := "kvApart", inPlace := ["slices.overlaps[sexton/kv.Pair]"], unfollowed := true, recurses := true, apart := false, narrowed := true }
def KvApartUptoSaid : Prop := kvApartUptoRow.holds Try.pinned (OpenSpec.upto kvApartSpec)

/-- 'sextonlaw21.KvOver', WHERE WHAT IT READS IS OF BULK AT MOST 1048576: true; the input reads as it did. -/
def kvOverUptoRow : OpenClaim := { program := "ytmnjmjbmnhppfaa", sum := "5ab2e4ac6f67adbb41fb4a361cbccf6608101ef910eccaaa0138219a2a4739ec", func := "sexton/sextonlaw21.KvOver", spec := "kvOver", inPlace := ["slices.overlaps[sexton/kv.Pair]"], unfollowed := true, recurses := true, apart := false, narrowed := true }
def KvOverUptoSaid : Prop := kvOverUptoRow.holds Try.pinned (OpenSpec.upto kvOverSpec)

/-- 'sextonlaw21.KvDoes', WHERE WHAT IT READS IS OF BULK AT MOST 1048576: true; the input reads as it did. -/
def kvDoesUptoRow : OpenClaim := { program := "ytmnjmjbmnhppfaa", sum := "5ab2e4ac6f67adbb41fb4a361cbccf6608101ef910eccaaa0138219a2a4739ec", func := "sexton/sextonlaw21.KvDoes", spec := "kvDoes", inPlace := ["slices.overlaps[sexton/kv.Pair]"], unfollowed := true, recurses := true, apart := false, narrowed := true }
def KvDoesUptoSaid : Prop := kvDoesUptoRow.holds Try.pinned (OpenSpec.upto kvDoesSpec)

/-- 'sextonlaw21.KvStays', WHERE WHAT IT READS IS OF BULK AT MOST 1048576: true; the input reads as it did. -/
def kvStaysUptoRow : OpenClaim := { program := "ytmnjmjbmnhppfaa", sum := "5ab2e4ac6f67adbb41fb4a361cbccf6608101ef910eccaaa0138219a2a4739ec", func := "sexton/sextonlaw21.KvStays", spec := "kvStays", inPlace := ["slices.overlaps[sexton/kv.Pair]"], unfollowed := true, recurses := true, apart := false, narrowed := true }
def KvStaysUptoSaid : Prop := kvStaysUptoRow.holds Try.pinned (OpenSpec.upto kvStaysSpec)

/-- 'sextonlaw23.ImageApplies', WHERE WHAT IT READS IS OF BULK AT MOST 1048576: true; the input reads as it did. -/
def imageAppliesUptoRow : OpenClaim := { program := "ytmnjmjbmnhppfaa", sum := "5ab2e4ac6f67adbb41fb4a361cbccf6608101ef910eccaaa0138219a2a4739ec", func := "sexton/sextonlaw23.ImageApplies", spec := "imageApplies", inPlace := ["slices.overlaps[sexton/kv.Pair]"], unfollowed := true, recurses := true, apart := false, narrowed := true }
def ImageAppliesUptoSaid : Prop := imageAppliesUptoRow.holds Try.pinned (OpenSpec.upto imageAppliesSpec)

/-- 'sextonlaw23.ImageOnce', WHERE WHAT IT READS IS OF BULK AT MOST 1048576: true; the input reads as it did. -/
def imageOnceUptoRow : OpenClaim := { program := "ytmnjmjbmnhppfaa", sum := "5ab2e4ac6f67adbb41fb4a361cbccf6608101ef910eccaaa0138219a2a4739ec", func := "sexton/sextonlaw23.ImageOnce", spec := "imageOnce", inPlace := ["slices.overlaps[sexton/kv.Pair]"], unfollowed := true, recurses := true, apart := false, narrowed := true }
def ImageOnceUptoSaid : Prop := imageOnceUptoRow.holds Try.pinned (OpenSpec.upto imageOnceSpec)

/-- 'sextonlaw23.ImageTorn', WHERE WHAT IT READS IS OF BULK AT MOST 1048576: true; the input reads as it did. -/
def imageTornUptoRow : OpenClaim := { program := "ytmnjmjbmnhppfaa", sum := "5ab2e4ac6f67adbb41fb4a361cbccf6608101ef910eccaaa0138219a2a4739ec", func := "sexton/sextonlaw23.ImageTorn", spec := "imageTorn", inPlace := ["slices.overlaps[sexton/kv.Pair]"], unfollowed := true, recurses := true, apart := false, narrowed := true }
def ImageTornUptoSaid : Prop := imageTornUptoRow.holds Try.pinned (OpenSpec.upto imageTornSpec)

/-- 'sextonlaw23.ImageBack', WHERE WHAT IT READS IS OF BULK AT MOST 1048576: true; the input reads as it did. -/
def imageBackUptoRow : OpenClaim := { program := "ytmnjmjbmnhppfaa", sum := "5ab2e4ac6f67adbb41fb4a361cbccf6608101ef910eccaaa0138219a2a4739ec", func := "sexton/sextonlaw23.ImageBack", spec := "imageBack", inPlace := ["slices.overlaps[sexton/kv.Pair]"], unfollowed := true, recurses := true, apart := false, narrowed := true }
def ImageBackUptoSaid : Prop := imageBackUptoRow.holds Try.pinned (OpenSpec.upto imageBackSpec)

/-- 'sextonlaw23.ImageAlike', WHERE WHAT IT READS IS OF BULK AT MOST 1048576: true; the input reads as it did. -/
def imageAlikeUptoRow : OpenClaim := { program := "ytmnjmjbmnhppfaa", sum := "5ab2e4ac6f67adbb41fb4a361cbccf6608101ef910eccaaa0138219a2a4739ec", func := "sexton/sextonlaw23.ImageAlike", spec := "imageAlike", inPlace := ["slices.overlaps[sexton/kv.Pair]"], unfollowed := true, recurses := true, apart := false, narrowed := true }
def ImageAlikeUptoSaid : Prop := imageAlikeUptoRow.holds Try.pinned (OpenSpec.upto imageAlikeSpec)

end Rows
end Go.Proofs.Ytmnjmjbmnhppfaa
