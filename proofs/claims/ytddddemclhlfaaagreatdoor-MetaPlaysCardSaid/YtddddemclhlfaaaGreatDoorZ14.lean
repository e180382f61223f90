/- Texts that the claim leans on, part 14: G2, G3, C17, G4, G5, C18, G6, G7. -/
import Derived.Test.YtddddemclhlfaaaGreatDoorZ1
import Derived.Test.YtddddemclhlfaaaGreatDoorZ2
import Derived.Test.YtddddemclhlfaaaGreatDoorZ3
import Derived.Test.YtddddemclhlfaaaGreatDoorZ4
import Derived.Test.YtddddemclhlfaaaGreatDoorZ5
import Derived.Test.YtddddemclhlfaaaGreatDoorZ6
import Derived.Test.YtddddemclhlfaaaGreatDoorZ7
import Derived.Test.YtddddemclhlfaaaGreatDoorZ8
import Derived.Test.YtddddemclhlfaaaGreatDoorZ9
import Derived.Test.YtddddemclhlfaaaGreatDoorZ10
import Derived.Test.YtddddemclhlfaaaGreatDoorZ11
import Derived.Test.YtddddemclhlfaaaGreatDoorZ12
import Derived.Test.YtddddemclhlfaaaGreatDoorZ13
import Derived.Test.YtddddemclhlfaaaGreatDoorRows
import Derived.WalkKit
import Derived.WalkSpells
import Derived.WalkLawsBesides
import Derived.Handy
import Derived.Deep.QuietTactic
import Derived.BigQuiet
import Derived.Deep.DeepCutAuto
import Derived.Lib.Hide
import Derived.RegionTactic
import Derived.ChangeAlike
import Derived.Shelf.Abstract
import Derived.Shelf.RegionOpen
import Derived.OwnWalkIn
import Derived.TacticsInMore
import Derived.LoopNIn
import Derived.LoopIn
import Derived.Laws.ResultCell
import Derived.Outline
import Derived.Maps.AppendAt
import Derived.IntWalk
import Derived.RangeFuncNested
import Derived.RangeFuncBound
import Derived.RangeFuncCalls
import Derived.RangeFuncLeaves
import Derived.RangeFuncBox
import Derived.Laws.MakeOwn
import Derived.Laws.OwnMore
import Derived.Laws.IdiomStrings
import Derived.Laws.BytesArg
import Derived.Laws.BitsAllLaws
import Derived.Lib.SliceRun
import Derived.Great.BuildSlice
import Derived.Great.FillDense
import Derived.Laws.Rows
import Derived.Deep.Quiet
import Derived.Deep.RegionHeld3
import Derived.ProofKit
import Derived.OpenShut
import Derived.Laws.CopyOwn
import Derived.Laws.CopyRow
import Derived.Laws.NewBlocks
import Derived.Deep.RegionLaw
namespace Go.Proofs.YtddddemclhlfaaaGreatDoor
open Go.RowKit Go.Shelf
structure HuB (pa : Option Addr) (m f t : Nat) (w : World) : Prop where
  c0 : w.cell? ⟨m, 0, none⟩ = some (.pointer pa)
  c1 : w.cell? ⟨m + 1, 0, none⟩ = some (.int .i64 (f : Int))
  c2 : w.cell? ⟨m + 2, 0, none⟩ = some (.int .i64 (t : Int))
  c3 : w.cell? ⟨m + 3, 0, none⟩ = some (.func (.func 105) #[] #[.pointer (some ⟨m, 0, none⟩)])
theorem cell_bx {n m k : Nat} {w w' : World} {v : Value} (h : KpH n m w w') (h1 : m ≤ k) (h2 : k < m + 4) (hc : w.cell? ⟨k, 0, none⟩ = some v) : w'.cell? ⟨k, 0, none⟩ = some v := by
  unfold World.cell? at hc ⊢
  simp only at hc ⊢
  rw [h.bx k h1 h2]
  exact hc
theorem HuB.kp {pa : Option Addr} {m f t n : Nat} {w w' : World} (h : HuB pa m f t w) (hk : KpH n m w w') : HuB pa m f t w' :=
  ⟨cell_bx hk (by omega) (by omega) h.c0, cell_bx hk (by omega) (by omega) h.c1, cell_bx hk (by omega) (by omega) h.c2, cell_bx hk (by omega) (by omega) h.c3⟩
theorem HuB.below {pa : Option Addr} {m f t : Nat} {w w' : World} (h : HuB pa m f t w) (hb : Below w.heap.size w w') : HuB pa m f t w' :=
  ⟨cell_later hb h.c0, cell_later hb h.c1, cell_later hb h.c2, cell_later hb h.c3⟩
section
variable {B g gp : Nat} {wv : Value} {d : Dk} {wc : World}
end
end Go.Proofs.YtddddemclhlfaaaGreatDoor
namespace Go.Proofs.YtddddemclhlfaaaGreatDoor
open Go.RowKit Go.Shelf
attribute [local go_sem] Oper.semAt_some
section
variable {B g gp : Nat} {wv : Value} {d : Dk} {w wc : World}
end
end Go.Proofs.YtddddemclhlfaaaGreatDoor
namespace Go.Proofs.YtddddemclhlfaaaGreatDoor
open Go.RowKit
section
variable {B g : Nat} {q : RQ} {d : Dk} {w w' : World}
end
end Go.Proofs.YtddddemclhlfaaaGreatDoor
namespace Go.Proofs.YtddddemclhlfaaaGreatDoor
open Go.RowKit
end Go.Proofs.YtddddemclhlfaaaGreatDoor
namespace Go.Proofs.YtddddemclhlfaaaGreatDoor
open Go.RowKit Go.Shelf
attribute [local go_sem] Oper.semAt_some
theorem DiskB.dn {B g gp : Nat} {wv : Value} {d : Dk} {w : World} (h : DiskB B g gp wv d w) : DiskN w (.pointer (some ⟨g, 0, none⟩)) d.pl.length := .inr ⟨g, _, _, rfl, h.c0⟩
theorem tg_new (t : Tg) : (tgV t).cells = #[.int .i64 t.rep, .int .i64 t.reg, .int .i64 t.pla, .int .i64 t.idx, .int .i64 t.inc] ∧ (#[Value.int .i64 t.rep, .int .i64 t.reg, .int .i64 t.pla, .int .i64 t.idx, .int .i64 t.inc]).size = 5 ∧ ∀ u ∈ (#[Value.int .i64 t.rep, .int .i64 t.reg, .int .i64 t.pla, .int .i64 t.idx, .int .i64 t.inc]).toList, u.oneCell' = true := ⟨rfl, rfl, by simp [Value.oneCell']⟩
end Go.Proofs.YtddddemclhlfaaaGreatDoor
namespace Go.Proofs.YtddddemclhlfaaaGreatDoor
open Go.RowKit
def allRR (d : Dk) (a n : Nat) : List UInt8 := allG (fun s => (d.pl.getD s.toNat zeroPl).rest) a n
section
variable {B g : Nat} {q : RQ} {d : Dk} {w w' : World}
end
end Go.Proofs.YtddddemclhlfaaaGreatDoor
namespace Go.Proofs.YtddddemclhlfaaaGreatDoor
open Go.RowKit
def HonRes (r : (Nat × Tg × List UInt8) × Int) (e : Ending) (w' : World) : Prop := ∃ a c, e = .returned (.tuple #[.int .u8 (r.1.1 : Int), tgV r.1.2.1, .slice a r.1.2.2.length c, .int .i64 r.2]) ∧ SlB w' a c r.1.2.2
end Go.Proofs.YtddddemclhlfaaaGreatDoor
namespace Go.Proofs.YtddddemclhlfaaaGreatDoor
open Go.RowKit
end Go.Proofs.YtddddemclhlfaaaGreatDoor
