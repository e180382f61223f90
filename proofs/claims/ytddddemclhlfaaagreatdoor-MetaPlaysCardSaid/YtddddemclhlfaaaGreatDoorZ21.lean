/- Texts that the claim leans on, part 21: OM. -/
import Derived.Test.YtddddemclhlfaaaGreatDoorZ1
import Derived.Test.YtddddemclhlfaaaGreatDoorZ2
import Derived.Test.YtddddemclhlfaaaGreatDoorZ3
import Derived.Test.YtddddemclhlfaaaGreatDoorZ4
import Derived.Test.YtddddemclhlfaaaGreatDoorZ5
import Derived.Test.YtddddemclhlfaaaGreatDoorZ6
import Derived.Test.YtddddemclhlfaaaGreatDoorZ7
import Derived.Test.YtddddemclhlfaaaGreatDoorZ8
import Derived.Test.YtddddemclhlfaaaGreatDoorZ9
import Derived.Test.YtddddemclhlfaaaGreatDoorZ10
import Derived.Test.YtddddemclhlfaaaGreatDoorZ11
import Derived.Test.YtddddemclhlfaaaGreatDoorZ12
import Derived.Test.YtddddemclhlfaaaGreatDoorZ13
import Derived.Test.YtddddemclhlfaaaGreatDoorZ14
import Derived.Test.YtddddemclhlfaaaGreatDoorZ15
import Derived.ProofKit
import Derived.Lib.SmallJoins
import Derived.Test.YtddddemclhlfaaaGreatDoorRows
import Derived.WalkKit
import Derived.WalkSpells
import Derived.WalkLawsBesides
import Derived.Handy
import Derived.Deep.QuietTactic
import Derived.BigQuiet
import Derived.Deep.DeepCutAuto
import Derived.Lib.Hide
import Derived.RegionTactic
import Derived.ChangeAlike
import Derived.Laws.ResultCell
import Derived.Outline
import Derived.IntWalk
import Derived.ChangeSlices
import Derived.Deep.Slices
import Derived.Shelf.Abstract
import Derived.Shelf.RegionOpen
import Derived.OwnWalkIn
import Derived.TacticsInMore
import Derived.LoopNIn
import Derived.LoopIn
import Derived.Maps.AppendAt
import Derived.RangeFuncNested
import Derived.RangeFuncBound
import Derived.RangeFuncCalls
import Derived.RangeFuncLeaves
import Derived.RangeFuncBox
import Derived.Laws.MakeOwn
import Derived.Laws.OwnMore
import Derived.Laws.IdiomStrings
import Derived.Laws.BytesArg
import Derived.Laws.BitsAllLaws
import Derived.Lib.SliceRun
import Derived.Great.BuildSlice
import Derived.Great.FillDense
import Derived.Laws.Rows
import Derived.Deep.Quiet
import Derived.Deep.RegionHeld3
import Derived.OpenShut
import Derived.Laws.CopyOwn
import Derived.Laws.CopyRow
import Derived.Laws.NewBlocks
import Derived.Deep.RegionLaw
namespace Go.Proofs.YtddddemclhlfaaaGreatDoor
open Go.ChangeShapes Go.WideShapes Go.ChangeAt Go.RowKit
theorem cellsInt : Tryz.prog.cellsOf 3 = 1 := by kernel_rfl
theorem cellsBallot : Tryz.prog.cellsOf 74 = 2 := by kernel_rfl
theorem cellsMeta : Tryz.prog.cellsOf 76 = 3 := by kernel_rfl
set_option maxRecDepth 100000 in
theorem open_meta {H : Type} {enc : TypeId × Value → H} {W : World} {base : Nat} {sp : Nat → Bool} {hd : Bool} {b0 : Nat} {v : Value} {d : DataW H} {p : List MemPlace}
    (hv : Value.okWide Tryz.prog W .any base 76 v) (h : DataW.Trod enc Tryz.prog W b0 sp hd 76 v d p) : ∃ x y z : Int, v = .agg #[.int .i64 x, .int .i64 y, .int .i64 z] := by
  obtain ⟨cs, rfl, hsz⟩ := okWide_struct Tryz.underlying76 hv
  rw [cellsMeta] at hsz
  obtain ⟨c0, c1, c2, rfl⟩ := Go.Joins.array3 hsz
  obtain ⟨fuel, hf⟩ := h
  obtain ⟨y0, y1, n, _, _, h0, h1⟩ := trod_struct2 Tryz.underlying76 hf
  obtain ⟨z0, z1, m, _, _, g0, g1⟩ := trod_struct2 Tryz.underlying74 h0
  simp [Value.cells, cellsBallot, cellsInt] at h1 g0 g1
  obtain ⟨x, e0, _⟩ := DataW.trod_int Tryz.underlying3 g0
  obtain ⟨y, e1, _⟩ := DataW.trod_int Tryz.underlying3 g1
  obtain ⟨z, e2, _⟩ := DataW.trod_int Tryz.underlying3 h1
  simp at e0 e1 e2
  subst e0 e1 e2
  exact ⟨x, y, z, rfl⟩
end Go.Proofs.YtddddemclhlfaaaGreatDoor
