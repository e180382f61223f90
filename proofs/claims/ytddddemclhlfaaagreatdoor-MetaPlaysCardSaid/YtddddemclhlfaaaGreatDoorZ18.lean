/- Texts that the claim leans on, part 18: C31, C32, C33, C34. -/
import Derived.Test.YtddddemclhlfaaaGreatDoorZ1
import Derived.Test.YtddddemclhlfaaaGreatDoorZ2
import Derived.Test.YtddddemclhlfaaaGreatDoorZ3
import Derived.Test.YtddddemclhlfaaaGreatDoorZ4
import Derived.Test.YtddddemclhlfaaaGreatDoorZ5
import Derived.Test.YtddddemclhlfaaaGreatDoorZ6
import Derived.Test.YtddddemclhlfaaaGreatDoorZ7
import Derived.Test.YtddddemclhlfaaaGreatDoorZ8
import Derived.Test.YtddddemclhlfaaaGreatDoorZ9
import Derived.Test.YtddddemclhlfaaaGreatDoorZ10
import Derived.Test.YtddddemclhlfaaaGreatDoorZ11
import Derived.Test.YtddddemclhlfaaaGreatDoorZ12
import Derived.Test.YtddddemclhlfaaaGreatDoorZ13
import Derived.Test.YtddddemclhlfaaaGreatDoorZ14
import Derived.Test.YtddddemclhlfaaaGreatDoorZ15
import Derived.Test.YtddddemclhlfaaaGreatDoorZ17
import Derived.Test.YtddddemclhlfaaaGreatDoorRows
import Derived.WalkKit
import Derived.WalkSpells
import Derived.WalkLawsBesides
import Derived.Handy
import Derived.Deep.QuietTactic
import Derived.BigQuiet
import Derived.Deep.DeepCutAuto
import Derived.Lib.Hide
import Derived.RegionTactic
import Derived.ChangeAlike
import Derived.Laws.ResultCell
import Derived.Outline
import Derived.IntWalk
import Derived.RangeFuncNested
import Derived.RangeFuncBound
import Derived.RangeFuncCalls
import Derived.RangeFuncLeaves
import Derived.RangeFuncBox
import Derived.Laws.MakeOwn
import Derived.Laws.OwnMore
import Derived.Laws.IdiomStrings
import Derived.Laws.BytesArg
import Derived.Laws.BitsAllLaws
import Derived.Lib.SliceRun
import Derived.Great.BuildSlice
import Derived.Great.FillDense
import Derived.Laws.Rows
import Derived.Deep.Quiet
import Derived.Deep.RegionHeld3
import Derived.ProofKit
import Derived.OpenShut
import Derived.Laws.CopyOwn
import Derived.Laws.CopyRow
import Derived.Laws.NewBlocks
import Derived.Deep.RegionLaw
import Derived.ChangeSlices
import Derived.Lib.SmallJoins
import Derived.Deep.Slices
import Derived.Shelf.Abstract
import Derived.Shelf.RegionOpen
import Derived.OwnWalkIn
import Derived.TacticsInMore
import Derived.LoopNIn
import Derived.LoopIn
import Derived.Maps.AppendAt
namespace Go.Proofs.YtddddemclhlfaaaGreatDoor
open Go.RowKit
section
variable {B g g2 gp : Nat} {wv : Value} {q : RQ} {d : Dk} {w w' : World}
end
end Go.Proofs.YtddddemclhlfaaaGreatDoor
namespace Go.Proofs.YtddddemclhlfaaaGreatDoor
open Go.RowKit
structure A7 where
  kind : Nat
  n : Int
  ba : Option Addr
  body : List UInt8
  bc : Nat
  ot : A6
def a7L (x : A7) : List Value := [.int .u8 (x.kind : Int), .int .i64 x.n, .slice x.ba x.body.length x.bc] ++ a6L x.ot
def a7A (x : A7) : Array Value := (a7L x).toArray
structure A7in (w : World) (x : A7) : Prop where
  b : SlB w x.ba x.bc x.body
  d : A6in w x.ot
  k : x.kind < 256
theorem A7in.below {w w' : World} {x : A7} (h : A7in w x) (hb : Below w.heap.size w w') : A7in w' x := ⟨h.b.below hb, h.d.below hb, h.k⟩
structure Acts7 (w : World) (a : Option Addr) (l : List A7) : Prop where
  each : ∀ (j : Nat) (hj : j < l.length), ∃ b off, a = some ⟨b, off, none⟩ ∧ (∀ r u, (a7L l[j])[r]? = some u → w.cell? ⟨b, off + j * 15 + r, none⟩ = some u) ∧ A7in w l[j]
theorem Acts7.below {w w' : World} {a : Option Addr} {l : List A7} (h : Acts7 w a l) (hb : Below w.heap.size w w') : Acts7 w' a l :=
  ⟨fun j hj => by
    obtain ⟨b, off, e, hc, hi⟩ := h.each j hj
    exact ⟨b, off, e, fun r u hu => cell_later hb (hc r u hu), hi.below hb⟩⟩
def gr7x (x : A7) : Bool := decide (100 < x.body.length) || gr6 [x.ot]
def gr7 (l : List A7) : Bool := decide (40 < l.length) || l.any gr7x
theorem acts_one {w : World} {q : Nat} {x : A6} {T : TypeId} (hq : w.heap[q]? = some (.cells (a6A x) T (0, 0))) (hi : A6in w x) : Acts w (some ⟨q, 0, none⟩) [x] :=
  ⟨fun j hj => by
    obtain rfl : j = 0 := by simp at hj; omega
    refine ⟨q, 0, rfl, fun r u hu => ?_, hi⟩
    have := blk_cell hq r u (by simpa [a6A] using hu)
    simpa using this⟩
end Go.Proofs.YtddddemclhlfaaaGreatDoor
namespace Go.Proofs.YtddddemclhlfaaaGreatDoor
open Go.RowKit
def do7 (d : Dk) (rep reg : Int) (x : A7) : Dk := if x.kind % 4 = 0 then (storeC d rep reg x.n x.body).1 else if x.kind % 4 = 1 then (healC d rep reg).1 else do6 d x.ot
def Pl2 (d : Dk) (r : Dk × Int) : Prop := r.1.pl.length = d.pl.length ∧ r.1.waits.length ≤ d.waits.length + 2
theorem pl2_self (d : Dk) (x : Int) : Pl2 d (d, x) := ⟨rfl, by show d.waits.length ≤ d.waits.length + 2; omega⟩
theorem pl2_ite {d : Dk} {c : Prop} [Decidable c] {a b : Dk × Int} (ha : Pl2 d a) (hb : Pl2 d b) : Pl2 d (if c then a else b) := by
  by_cases h : c
  · rw [if_pos h]; exact ha
  · rw [if_neg h]; exact hb
theorem pl2_put (d : Dk) (t : Tg) (body : List UInt8) : Pl2 d (putC d t body) := by
  have h := put_pl d t body
  exact ⟨h.1, by have := h.2; omega⟩
theorem pl2_two (d : Dk) (t t2 : Tg) (body : List UInt8) : Pl2 d (if (putC d t body).2 ≠ 0 then putC d t body else putC (putC d t body).1 t2 body) := by
  refine pl2_ite (pl2_put d t body) ?_
  have h := put_pl d t body
  have h2 := put_pl (putC d t body).1 t2 body
  exact ⟨h2.1.trans h.1, by have := h.2; have := h2.2; omega⟩
theorem store_pl (d : Dk) (rep reg inc : Int) (body : List UInt8) : Pl2 d (storeC d rep reg inc body) := by
  unfold storeC
  exact pl2_ite (pl2_self _ _) (pl2_ite (pl2_self _ _) (pl2_ite (pl2_self _ _) (pl2_ite (pl2_self _ _) (pl2_ite (pl2_self _ _) (pl2_ite (pl2_self _ _) (pl2_two _ _ _ _))))))
theorem heal_pl (d : Dk) (rep reg : Int) : Pl2 d (healC d rep reg) := by
  unfold healC
  exact pl2_ite (pl2_self _ _) (pl2_ite (pl2_self _ _) (pl2_ite (pl2_self _ _) (pl2_put _ _ _)))
end Go.Proofs.YtddddemclhlfaaaGreatDoor
namespace Go.Proofs.YtddddemclhlfaaaGreatDoor
open Go.RowKit
end Go.Proofs.YtddddemclhlfaaaGreatDoor
