/-
  No cell of these rows narrows 'for every input' (looked for: loops, veiled, ifaces, maps, wideKeys, modest, calm, conditions, laid).
  DERIVED. THE GIVEN ROWS OF THIS SEAT. 4 by the template 'for every input the law returns true; each argument reads behind the call as it read before'; 0 by the template 'total and deterministic' (their statements: YtjolhdlnjdmbeaaTotals.lean).
  GIVEN WITH THE SEED: the statements are not yours to turn. If you find one false, say at which input.
  Laid BY PROGRAM, IN A SANDBOX (cutbox-rows.mjs): the forced cells as the released guide's own fill.sh prints them over the translation ff022ce691397436… (all of the seat's roots in one cut). By AI agents, Wed Nov 11 2026. No macro, syntax, notation, axiom, sorry.
-/
import Derived.Test.YtjolhdlnjdmbeaaChecked
import GoSem.Claim
import GoSem.ClaimJoined
import GoSem.ClaimMapViews
import Derived.JoinedTies
import Derived.KernelRfl
namespace Go.Proofs.Ytjolhdlnjdmbeaa
/- THE CELL 'sum', in the pinned program and in every row, IS THE sha256 OF THE DUMP (.gsa) THAT YtjolhdlnjdmbeaaProg.lean LOADS. Nothing in Lean hashes anything: it is a label: what it is worth is what the hold of that sum in a sandbox is worth. -/
noncomputable def Try.pinned : Pinned := { name := "ytjolhdlnjdmbeaa", sum := "ff022ce691397436463c81731e277f6b65364dcf1eb800f5f57b24ec8df546a6", checked := Try.checked }
namespace Rows
def none {H : Type} : Left H := { results := [], args := [] }

/-- 'sextonlaw26.ScrubLooks': WHATEVER THE INPUT: true; the input reads as it did. -/
def scrubLooksSpec : ChangeSpec := { name := "scrubLooks", fn := fun _ => fun
  | [d1, d2, d3] => { results := [.lit (.bool true)], args := [d1, d2, d3] }
  | _ => none }
def scrubLooksRow : OpenClaim := { program := "ytjolhdlnjdmbeaa", sum := "ff022ce691397436463c81731e277f6b65364dcf1eb800f5f57b24ec8df546a6", func := "sexton/sextonlaw26.ScrubLooks", spec := "scrubLooks", apart := false }
def ScrubLooksSaid : Prop := scrubLooksRow.holds Try.pinned (OpenSpec.ofChange scrubLooksSpec)

/-- ITS FALSE NEIGHBOUR: 'it returns false'. Refute it at one input. -/
def scrubLooksWrong : ChangeSpec := { name := "scrubLooks", fn := fun _ => fun
  | [d1, d2, d3] => { results := [.lit (.bool false)], args := [d1, d2, d3] }
  | _ => none }
def ScrubLooksWrongFalsely : Prop := scrubLooksRow.holds Try.pinned (OpenSpec.ofChange scrubLooksWrong)

/-- 'sextonlaw26.ScrubNotes': WHATEVER THE INPUT: true; the input reads as it did. -/
def scrubNotesSpec : ChangeSpec := { name := "scrubNotes", fn := fun _ => fun
  | [d1, d2, d3, d4] => { results := [.lit (.bool true)], args := [d1, d2, d3, d4] }
  | _ => none }
def scrubNotesRow : OpenClaim := { program := "ytjolhdlnjdmbeaa", sum := "ff022ce691397436463c81731e277f6b65364dcf1eb800f5f57b24ec8df546a6", func := "sexton/sextonlaw26.ScrubNotes", spec := "scrubNotes", inPlace := ["slices.overlaps[int]"], unfollowed := true, recurses := true, apart := false }
def ScrubNotesSaid : Prop := scrubNotesRow.holds Try.pinned (OpenSpec.ofChange scrubNotesSpec)

/-- ITS FALSE NEIGHBOUR: 'it returns false'. Refute it at one input. -/
def scrubNotesWrong : ChangeSpec := { name := "scrubNotes", fn := fun _ => fun
  | [d1, d2, d3, d4] => { results := [.lit (.bool false)], args := [d1, d2, d3, d4] }
  | _ => none }
def ScrubNotesWrongFalsely : Prop := scrubNotesRow.holds Try.pinned (OpenSpec.ofChange scrubNotesWrong)

/-- 'sextonlaw26.ScrubFound': WHATEVER THE INPUT: true; the input reads as it did. -/
def scrubFoundSpec : ChangeSpec := { name := "scrubFound", fn := fun _ => fun
  | [d1, d2, d3] => { results := [.lit (.bool true)], args := [d1, d2, d3] }
  | _ => none }
def scrubFoundRow : OpenClaim := { program := "ytjolhdlnjdmbeaa", sum := "ff022ce691397436463c81731e277f6b65364dcf1eb800f5f57b24ec8df546a6", func := "sexton/sextonlaw26.ScrubFound", spec := "scrubFound", inPlace := ["slices.overlaps[int]"], unfollowed := true, recurses := true, apart := false }
def ScrubFoundSaid : Prop := scrubFoundRow.holds Try.pinned (OpenSpec.ofChange scrubFoundSpec)

/-- ITS FALSE NEIGHBOUR: 'it returns false'. Refute it at one input. -/
def scrubFoundWrong : ChangeSpec := { name := "scrubFound", fn := fun _ => fun
  | [d1, d2, d3] => { results := [.lit (.bool false)], args := [d1, d2, d3] }
  | _ => none }
def ScrubFoundWrongFalsely : Prop := scrubFoundRow.holds Try.pinned (OpenSpec.ofChange scrubFoundWrong)

/-- 'sextonlaw26.ScrubAll': WHATEVER THE INPUT: true; the input reads as it did. -/
def scrubAllSpec : ChangeSpec := { name := "scrubAll", fn := fun _ => fun
  | [d1, d2, d3] => { results := [.lit (.bool true)], args := [d1, d2, d3] }
  | _ => none }
def scrubAllRow : OpenClaim := { program := "ytjolhdlnjdmbeaa", sum := "ff022ce691397436463c81731e277f6b65364dcf1eb800f5f57b24ec8df546a6", func := "sexton/sextonlaw26.ScrubAll", spec := "scrubAll", inPlace := ["slices.overlaps[int]"], unfollowed := true, recurses := true, apart := false }
def ScrubAllSaid : Prop := scrubAllRow.holds Try.pinned (OpenSpec.ofChange scrubAllSpec)

/-- ITS FALSE NEIGHBOUR: 'it returns false'. Refute it at one input. -/
def scrubAllWrong : ChangeSpec := { name := "scrubAll", fn := fun _ => fun
  | [d1, d2, d3] => { results := [.lit (.bool false)], args := [d1, d2, d3] }
  | _ => none }
def ScrubAllWrongFalsely : Prop := scrubAllRow.holds Try.pinned (OpenSpec.ofChange scrubAllWrong)

/- THE SECOND FORM. 'bulk': how many values and letters a reading holds, each counted each time it is reached (what is shared counts as often as it is met; a slice's spare places count too). A statement '..UptoSaid' is the law's where the arguments, and the package variables that the reading takes, are together of bulk at most 1048576: NARROWER than '..Said'. Prove '..Said' where nothing that the law and all that it calls make is longer than what came in: it says more and counts as full. Else prove '..UptoSaid'. A law counts once. -/
mutual
def uptoBulk {H : Type} : DataW H → Nat
  | .lit (.string bytes) => bytes.length + 1
  | .lit _ => 1
  | .nil => 1
  | .ptr d => uptoBulk d + 1
  | .slice elems spare => uptoBulkAll elems + uptoBulkAll spare + 1
  | .agg parts => uptoBulkAll parts + 1
  | .iface _ d => uptoBulk d + 1
  | .map entries => uptoBulkEntries entries + 1
  | .held _ => 1
def uptoBulkAll {H : Type} : List (DataW H) → Nat
  | [] => 0
  | d :: r => uptoBulk d + uptoBulkAll r
def uptoBulkEntries {H : Type} : List (Lit × DataW H) → Nat
  | [] => 0
  | x :: r => uptoBulkEntry x + uptoBulkEntries r
def uptoBulkEntry {H : Type} : Lit × DataW H → Nat
  | (.string bytes, d) => bytes.length + uptoBulk d + 1
  | (_, d) => uptoBulk d + 1
 end
def uptoSmall : (H : Type) → List (DataW H) → Bool := fun _ ds => decide (uptoBulkAll ds ≤ 1048576)
def OpenSpec.upto (s : _root_.Go.ChangeSpec) : _root_.Go.OpenSpec := { _root_.Go.OpenSpec.ofChange s with cond := some uptoSmall }

/-- 'sextonlaw26.ScrubLooks', WHERE WHAT IT READS IS OF BULK AT MOST 1048576: true; the input reads as it did. -/
def scrubLooksUptoRow : OpenClaim := { program := "ytjolhdlnjdmbeaa", sum := "ff022ce691397436463c81731e277f6b65364dcf1eb800f5f57b24ec8df546a6", func := "sexton/sextonlaw26.ScrubLooks", spec := "scrubLooks", apart := false, narrowed := true }
def ScrubLooksUptoSaid : Prop := scrubLooksUptoRow.holds Try.pinned (OpenSpec.upto scrubLooksSpec)

/-- 'sextonlaw26.ScrubNotes', WHERE WHAT IT READS IS OF BULK AT MOST 1048576: true; the input reads as it did. -/
def scrubNotesUptoRow : OpenClaim := { program := "ytjolhdlnjdmbeaa", sum := "ff022ce691397436463c81731e277f6b65364dcf1eb800f5f57b24ec8df546a6", func := "sexton/sextonlaw26.ScrubNotes", spec := "scrubNotes", inPlace := ["slices.overlaps[int]"], unfollowed := true, recurses := true, apart := false, narrowed := true }
def ScrubNotesUptoSaid : Prop := scrubNotesUptoRow.holds Try.pinned (OpenSpec.upto scrubNotesSpec)

/-- 'sextonlaw26.ScrubFound', WHERE WHAT IT READS IS OF BULK AT MOST 1048576: true; the input reads as it did. -/
def scrubFoundUptoRow : OpenClaim := { program := "ytjolhdlnjdmbeaa", sum := "ff022ce691397436463c81731e277f6b65364dcf1eb800f5f57b24ec8df546a6", func := "sexton/sextonlaw26.ScrubFound", spec := "scrubFound", inPlace := ["slices.overlaps[int]"], unfollowed := true, recurses := true, apart := false, narrowed := true }
def ScrubFoundUptoSaid : Prop := scrubFoundUptoRow.holds Try.pinned (OpenSpec.upto scrubFoundSpec)

/-- 'sextonlaw26.ScrubAll', WHERE WHAT IT READS IS OF BULK AT MOST 1048576: true; the input reads as it did. -/
def scrubAllUptoRow : OpenClaim := { program := "ytjolhdlnjdmbeaa", sum := "ff022ce691397436463c81731e277f6b65364dcf1eb800f5f57b24ec8df546a6", func := "sexton/sextonlaw26.ScrubAll", spec := "scrubAll", inPlace := ["slices.overlaps[int]"], unfollowed := true, recurses := true, apart := false, narrowed := true }
def ScrubAllUptoSaid : Prop := scrubAllUptoRow.holds Try.pinned (OpenSpec.upto scrubAllSpec)

end Rows
end Go.Proofs.Ytjolhdlnjdmbeaa
