/-
  No cell of these rows narrows 'for every input' (looked for: loops, veiled, ifaces, maps, wideKeys, modest, calm, conditions, laid).
  DERIVED. THE GIVEN ROWS OF THIS SEAT. 5 by the template 'for every input the law returns true; each argument reads behind the call as it read before'; 0 by the template 'total and deterministic' (their statements: YtkkoookmnnmiiaaTotals.lean).
  GIVEN WITH THE SEED: the statements are not yours to turn. If you find one false, say at which input.
  Laid BY PROGRAM, IN A SANDBOX (cutbox-rows.mjs): the forced cells as the released guide's own fill.sh prints them over the translation 0916d8c393678b64… (all of the seat's roots in one cut). By AI agents, Wed Nov 11 2026. No macro, syntax, notation, axiom, sorry.
-/
import Derived.Test.YtkkoookmnnmiiaaChecked
import GoSem.Claim
import GoSem.ClaimJoined
import GoSem.ClaimMapViews
import Derived.JoinedTies
import Derived.KernelRfl
namespace Go.Proofs.Ytkkoookmnnmiiaa
/- THE CELL 'sum', in the pinned program and in every row, IS THE sha256 OF THE DUMP (.gsa) THAT YtkkoookmnnmiiaaProg.lean LOADS. Nothing in Lean hashes anything: it is a label: what it is worth is what the hold of that sum in a sandbox is worth. -/
noncomputable def Try.pinned : Pinned := { name := "ytkkoookmnnmiiaa", sum := "0916d8c393678b64179a6c73b0133ba9d99cee69cc2bf52a2ae7681c9fa5c60c", checked := Try.checked }
namespace Rows
def none {H : Type} : Left H := { results := [], args := [] }

/-- 'sextonlaw31.JudgePieces': WHATEVER THE INPUT: true; the input reads as it did. -/
def judgePiecesSpec : ChangeSpec := { name := "judgePieces", fn := fun _ => fun
  | [d1, d2, d3, d4] => { results := [.lit (.bool true)], args := [d1, d2, d3, d4] }
  | _ => none }
def judgePiecesRow : OpenClaim := { program := "ytkkoookmnnmiiaa", sum := "0916d8c393678b64179a6c73b0133ba9d99cee69cc2bf52a2ae7681c9fa5c60c", func := "sexton/sextonlaw31.JudgePieces", spec := "judgePieces", unfollowed := true, recurses := true, apart := false }
def JudgePiecesSaid : Prop := judgePiecesRow.holds Try.pinned (OpenSpec.ofChange judgePiecesSpec)

/-- ITS FALSE NEIGHBOUR: 'it returns false'. Refute it at one input. -/
def judgePiecesWrong : ChangeSpec := { name := "judgePieces", fn := fun _ => fun
  | [d1, d2, d3, d4] => { results := [.lit (.bool false)], args := [d1, d2, d3, d4] }
  | _ => none }
def JudgePiecesWrongFalsely : Prop := judgePiecesRow.holds Try.pinned (OpenSpec.ofChange judgePiecesWrong)

/-- 'sextonlaw31.JudgePairs': WHATEVER THE INPUT: true; the input reads as it did. -/
def judgePairsSpec : ChangeSpec := { name := "judgePairs", fn := fun _ => fun
  | [d1, d2] => { results := [.lit (.bool true)], args := [d1, d2] }
  | _ => none }
def judgePairsRow : OpenClaim := { program := "ytkkoookmnnmiiaa", sum := "0916d8c393678b64179a6c73b0133ba9d99cee69cc2bf52a2ae7681c9fa5c60c", func := "sexton/sextonlaw31.JudgePairs", spec := "judgePairs", unfollowed := true, recurses := true, apart := false }
def JudgePairsSaid : Prop := judgePairsRow.holds Try.pinned (OpenSpec.ofChange judgePairsSpec)

/-- ITS FALSE NEIGHBOUR: 'it returns false'. Refute it at one input. -/
def judgePairsWrong : ChangeSpec := { name := "judgePairs", fn := fun _ => fun
  | [d1, d2] => { results := [.lit (.bool false)], args := [d1, d2] }
  | _ => none }
def JudgePairsWrongFalsely : Prop := judgePairsRow.holds Try.pinned (OpenSpec.ofChange judgePairsWrong)

/-- 'sextonlaw31.JudgeMore': WHATEVER THE INPUT: true; the input reads as it did. -/
def judgeMoreSpec : ChangeSpec := { name := "judgeMore", fn := fun _ => fun
  | [d1, d2] => { results := [.lit (.bool true)], args := [d1, d2] }
  | _ => none }
def judgeMoreRow : OpenClaim := { program := "ytkkoookmnnmiiaa", sum := "0916d8c393678b64179a6c73b0133ba9d99cee69cc2bf52a2ae7681c9fa5c60c", func := "sexton/sextonlaw31.JudgeMore", spec := "judgeMore", unfollowed := true, recurses := true, apart := false }
def JudgeMoreSaid : Prop := judgeMoreRow.holds Try.pinned (OpenSpec.ofChange judgeMoreSpec)

/-- ITS FALSE NEIGHBOUR: 'it returns false'. Refute it at one input. -/
def judgeMoreWrong : ChangeSpec := { name := "judgeMore", fn := fun _ => fun
  | [d1, d2] => { results := [.lit (.bool false)], args := [d1, d2] }
  | _ => none }
def JudgeMoreWrongFalsely : Prop := judgeMoreRow.holds Try.pinned (OpenSpec.ofChange judgeMoreWrong)

/-- 'sextonlaw31.JudgeTells': WHATEVER THE INPUT: true; the input reads as it did. -/
def judgeTellsSpec : ChangeSpec := { name := "judgeTells", fn := fun _ => fun
  | [d] => { results := [.lit (.bool true)], args := [d] }
  | _ => none }
def judgeTellsRow : OpenClaim := { program := "ytkkoookmnnmiiaa", sum := "0916d8c393678b64179a6c73b0133ba9d99cee69cc2bf52a2ae7681c9fa5c60c", func := "sexton/sextonlaw31.JudgeTells", spec := "judgeTells", inPlace := ["slices.overlaps[sexton/kv.Pair]"], unfollowed := true, recurses := true, apart := false }
def JudgeTellsSaid : Prop := judgeTellsRow.holds Try.pinned (OpenSpec.ofChange judgeTellsSpec)

/-- ITS FALSE NEIGHBOUR: 'it returns false'. Refute it at one input. -/
def judgeTellsWrong : ChangeSpec := { name := "judgeTells", fn := fun _ => fun
  | [d] => { results := [.lit (.bool false)], args := [d] }
  | _ => none }
def JudgeTellsWrongFalsely : Prop := judgeTellsRow.holds Try.pinned (OpenSpec.ofChange judgeTellsWrong)

/-- 'sextonlaw31.JudgeReplay': WHATEVER THE INPUT: true; the input reads as it did. -/
def judgeReplaySpec : ChangeSpec := { name := "judgeReplay", fn := fun _ => fun
  | [d1, d2] => { results := [.lit (.bool true)], args := [d1, d2] }
  | _ => none }
def judgeReplayRow : OpenClaim := { program := "ytkkoookmnnmiiaa", sum := "0916d8c393678b64179a6c73b0133ba9d99cee69cc2bf52a2ae7681c9fa5c60c", func := "sexton/sextonlaw31.JudgeReplay", spec := "judgeReplay", inPlace := ["slices.overlaps[sexton/kv.Pair]"], unfollowed := true, recurses := true, apart := false }
def JudgeReplaySaid : Prop := judgeReplayRow.holds Try.pinned (OpenSpec.ofChange judgeReplaySpec)

/-- ITS FALSE NEIGHBOUR: 'it returns false'. Refute it at one input. -/
def judgeReplayWrong : ChangeSpec := { name := "judgeReplay", fn := fun _ => fun
  | [d1, d2] => { results := [.lit (.bool false)], args := [d1, d2] }
  | _ => none }
def JudgeReplayWrongFalsely : Prop := judgeReplayRow.holds Try.pinned (OpenSpec.ofChange judgeReplayWrong)

/- THE SECOND FORM. 'bulk': how many values and letters a reading holds, each counted each time it is reached (what is shared counts as often as it is met; a slice's spare places count too). A statement '..UptoSaid' is the law's where the arguments, and the package variables that the reading takes, are together of bulk at most 1048576: NARROWER than '..Said'. Prove '..Said' where nothing that the law and all that it calls make is longer than what came in: it says more and counts as full. Else prove '..UptoSaid'. A law counts once. -/
mutual
def uptoBulk {H : Type} : DataW H → Nat
  | .lit (.string bytes) => bytes.length + 1
  | .lit _ => 1
  | .nil => 1
  | .ptr d => uptoBulk d + 1
  | .slice elems spare => uptoBulkAll elems + uptoBulkAll spare + 1
  | .agg parts => uptoBulkAll parts + 1
  | .iface _ d => uptoBulk d + 1
  | .map entries => uptoBulkEntries entries + 1
  | .held _ => 1
def uptoBulkAll {H : Type} : List (DataW H) → Nat
  | [] => 0
  | d :: r => uptoBulk d + uptoBulkAll r
def uptoBulkEntries {H : Type} : List (Lit × DataW H) → Nat
  | [] => 0
  | x :: r => uptoBulkEntry x + uptoBulkEntries r
def uptoBulkEntry {H : Type} : Lit × DataW H → Nat
  | (.string bytes, d) => bytes.length + uptoBulk d + 1
  | (_, d) => uptoBulk d + 1
 end
def uptoSmall : (H : Type) → List (DataW H) → Bool := fun _ ds => decide (uptoBulkAll ds ≤ 1048576)
def OpenSpec.upto (s : _root_.Go.ChangeSpec) : _root_.Go.OpenSpec := { _root_.Go.OpenSpec.ofChange s with cond := some uptoSmall }

/-- 'sextonlaw31.JudgePieces', WHERE WHAT IT READS IS OF BULK AT MOST 1048576: true; the input reads as it did. -/
def judgePiecesUptoRow : OpenClaim := { program := "ytkkoookmnnmiiaa", sum := "0916d8c393678b64179a6c73b0133ba9d99cee69cc2bf52a2ae7681c9fa5c60c", func := "sexton/sextonlaw31.JudgePieces", spec := "judgePieces", unfollowed := true, recurses := true, apart := false, narrowed := true }
def JudgePiecesUptoSaid : Prop := judgePiecesUptoRow.holds Try.pinned (OpenSpec.upto judgePiecesSpec)

/-- 'sextonlaw31.JudgePairs', WHERE WHAT IT READS IS OF BULK AT MOST 1048576: true; the input reads as it did. -/
def judgePairsUptoRow : OpenClaim := { program := "ytkkoookmnnmiiaa", sum := "0916d8c393678b64179a6c73b0133ba9d99cee69cc2bf52a2ae7681c9fa5c60c", func := "sexton/sextonlaw31.JudgePairs", spec := "judgePairs", unfollowed := true, recurses := true, apart := false, narrowed := true }
def JudgePairsUptoSaid : Prop := judgePairsUptoRow.holds Try.pinned (OpenSpec.upto judgePairsSpec)

/-- 'sextonlaw31.JudgeMore', WHERE WHAT IT READS IS OF BULK AT MOST 1048576: true; the input reads as it did. -/
def judgeMoreUptoRow : OpenClaim := { program := "ytkkoookmnnmiiaa", sum := "0916d8c393678b64179a6c73b0133ba9d99cee69cc2bf52a2ae7681c9fa5c60c", func := "sexton/sextonlaw31.JudgeMore", spec := "judgeMore", unfollowed := true, recurses := true, apart := false, narrowed := true }
def JudgeMoreUptoSaid : Prop := judgeMoreUptoRow.holds Try.pinned (OpenSpec.upto judgeMoreSpec)

/-- 'sextonlaw31.JudgeTells', WHERE WHAT IT READS IS OF BULK AT MOST 1048576: true; the input reads as it did. -/
def judgeTellsUptoRow : OpenClaim := { program := "ytkkoookmnnmiiaa", sum := "0916d8c393678b64179a6c73b0133ba9d99cee69cc2bf52a2ae7681c9fa5c60c", func := "sexton/sextonlaw31.JudgeTells", spec := "judgeTells", inPlace := ["slices.overlaps[sexton/kv.Pair]"], unfollowed := true, recurses := true, apart := false, narrowed := true }
def JudgeTellsUptoSaid : Prop := judgeTellsUptoRow.holds Try.pinned (OpenSpec.upto judgeTellsSpec)

/-- 'sextonlaw31.JudgeReplay', WHERE WHAT IT READS IS OF BULK AT MOST 1048576: true; the input reads as it did. -/
def judgeReplayUptoRow : OpenClaim := { program := "ytkkoookmnnmiiaa", sum := "0916d8c393678b64179a6c73b0133ba9d99cee69cc2bf52a2ae7681c9fa5c60c", func := "sexton/sextonlaw31.JudgeReplay", spec := "judgeReplay", inPlace := ["slices.overlaps[sexton/kv.Pair]"], unfollowed := true, recurses := true, apart := false, narrowed := true }
def JudgeReplayUptoSaid : Prop := judgeReplayUptoRow.holds Try.pinned (OpenSpec.upto judgeReplaySpec)

end Rows
end Go.Proofs.Ytkkoookmnnmiiaa
