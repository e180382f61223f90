/- Texts that the claim leans on, part 20: OB, N2. -/
import Derived.Test.YtknchbhobopkeaaGreatDoorZ1
import Derived.Test.YtknchbhobopkeaaGreatDoorZ2
import Derived.Test.YtknchbhobopkeaaGreatDoorZ3
import Derived.Test.YtknchbhobopkeaaGreatDoorZ4
import Derived.Test.YtknchbhobopkeaaGreatDoorZ5
import Derived.Test.YtknchbhobopkeaaGreatDoorZ6
import Derived.Test.YtknchbhobopkeaaGreatDoorZ7
import Derived.Test.YtknchbhobopkeaaGreatDoorZ8
import Derived.Test.YtknchbhobopkeaaGreatDoorZ9
import Derived.Test.YtknchbhobopkeaaGreatDoorZ10
import Derived.Test.YtknchbhobopkeaaGreatDoorZ11
import Derived.Test.YtknchbhobopkeaaGreatDoorZ12
import Derived.Test.YtknchbhobopkeaaGreatDoorZ13
import Derived.Test.YtknchbhobopkeaaGreatDoorZ14
import Derived.Test.YtknchbhobopkeaaGreatDoorZ15
import Derived.Test.YtknchbhobopkeaaGreatDoorZ16
import Derived.Test.YtknchbhobopkeaaGreatDoorZ17
import Derived.Test.YtknchbhobopkeaaGreatDoorZ18
import Derived.ProofKit
import Derived.Lib.SmallJoins
import Derived.Deep.Slices
import Derived.Test.YtknchbhobopkeaaGreatDoorRows
import Derived.WalkKit
import Derived.WalkSpells
import Derived.WalkLawsBesides
import Derived.Handy
import Derived.Deep.QuietTactic
import Derived.BigQuiet
import Derived.Deep.DeepCutAuto
import Derived.Lib.Hide
import Derived.RegionTactic
import Derived.ChangeAlike
import Derived.Laws.ResultCell
import Derived.Outline
import Derived.IntWalk
import Derived.RangeFuncNested
import Derived.RangeFuncBound
import Derived.RangeFuncCalls
import Derived.RangeFuncLeaves
import Derived.RangeFuncBox
import Derived.RangeFuncRecord
import Derived.Shelf.Abstract
import Derived.Shelf.RegionOpen
import Derived.OwnWalkIn
import Derived.TacticsInMore
import Derived.LoopNIn
import Derived.LoopIn
import Derived.Maps.AppendAt
import Derived.Maps.OwnIn
import Derived.Laws.IdiomStrings
import Derived.Laws.BytesArg
import Derived.LoopN
import Derived.ChangeSlices
import Derived.Deep.Strs
import Derived.OpenShut
import Derived.Laws.MakeOwn
import Derived.Lib.SliceRun
import Derived.Laws.BitsAllLaws
import Derived.Great.BuildSlice
import Derived.Great.FillDense
import Derived.Laws.Rows
import Derived.Deep.Quiet
import Derived.Deep.RegionHeld3
import Derived.Lib.AppendStr
import Derived.Laws.Strings
import Derived.Laws.CopyOwn
import Derived.Laws.CopyRow
import Derived.Laws.NewBlocks
import Derived.Deep.RegionLaw
namespace Go.Proofs.YtknchbhobopkeaaGreatDoor
open Go.ChangeShapes Go.WideShapes Go.ChangeAt Go.RowKit
end Go.Proofs.YtknchbhobopkeaaGreatDoor
namespace Go.Proofs.YtknchbhobopkeaaGreatDoor
open Go.ChangeShapes Go.WideShapes Go.ChangeAt Go.RowKit
theorem cellsFlt : Tryz.prog.cellsOf 99 = 3 := by kernel_rfl
theorem cellsU8f : Tryz.prog.cellsOf 5 = 1 := by kernel_rfl
theorem cellsU16f : Tryz.prog.cellsOf 97 = 1 := by kernel_rfl
theorem add_nof (b off k : Nat) : (⟨b, off, none⟩ : Addr).add k = ⟨b, off + k, none⟩ := by
  unfold Addr.add
  by_cases h : k = 0
  · simp [h]
  · simp [h]
section
variable {H : Type} {enc : TypeId × Value → H} {W : World} {sp : Nat → Bool} {hd : Bool} {b0 fuel : Nat}
theorem u8_off {v : Value} {x : DataW H × List MemPlace} (h : DataW.trod enc Tryz.prog W b0 sp hd fuel 5 [v] = some x) : ∃ n : Nat, v = .int .u8 (n : Int) ∧ n < 256 := by
  obtain ⟨y, q, _, h2⟩ := DataW.trod_int Tryz.underlying5 h
  simp at q
  subst q
  have m0 : IntKind.u8.min = 0 := by decide
  have m1 : IntKind.u8.max = 255 := by decide
  replace h2 : (decide (IntKind.u8.min ≤ y) && decide (y ≤ IntKind.u8.max)) = true := h2
  rw [m0, m1, Bool.and_eq_true, decide_eq_true_eq, decide_eq_true_eq] at h2
  exact ⟨y.toNat, by rw [show ((y.toNat : Nat) : Int) = y by omega], by omega⟩
theorem u16_off {v : Value} {x : DataW H × List MemPlace} (h : DataW.trod enc Tryz.prog W b0 sp hd fuel 97 [v] = some x) : ∃ n : Nat, v = .int .u16 (n : Int) ∧ n < 65536 := by
  obtain ⟨y, q, _, h2⟩ := DataW.trod_int Tryz.underlying97 h
  simp at q
  subst q
  have m0 : IntKind.u16.min = 0 := by decide
  have m1 : IntKind.u16.max = 65535 := by decide
  replace h2 : (decide (IntKind.u16.min ≤ y) && decide (y ≤ IntKind.u16.max)) = true := h2
  rw [m0, m1, Bool.and_eq_true, decide_eq_true_eq, decide_eq_true_eq] at h2
  exact ⟨y.toNat, by rw [show ((y.toNat : Nat) : Int) = y by omega], by omega⟩
theorem flt_of {x y z : Value} {r : DataW H × List MemPlace} (h : DataW.trod enc Tryz.prog W b0 sp hd fuel 99 [x, y, z] = some r) : ∃ q : Nat × Nat × Nat, x = .int .u8 (q.1 : Nat) ∧ y = .int .u16 (q.2.1 : Nat) ∧ z = .int .u16 (q.2.2 : Nat) ∧ q.1 < 256 ∧ q.2.1 < 65536 ∧ q.2.2 < 65536 := by
  obtain ⟨xs, n, _, rfl, hl, hlen, hf⟩ := DataW.trod_struct Tryz.underlying99 h
  match xs, hlen with
  | [y0, y1, y2], _ =>
    have g0 := hf 0 _ rfl
    have g1 := hf 1 _ rfl
    have g2 := hf 2 _ rfl
    simp [cellsU8f, cellsU16f] at g0 g1 g2
    obtain ⟨n0, e0, l0⟩ := u8_off g0
    obtain ⟨n1, e1, l1⟩ := u16_off g1
    obtain ⟨n2, e2, l2⟩ := u16_off g2
    exact ⟨(n0, n1, n2), e0, e1, e2, l0, l1, l2⟩
end
set_option maxRecDepth 100000 in
theorem open_flts {H : Type} {enc : TypeId × Value → H} {W : World} {base : Nat} {sp : Nat → Bool} {hd : Bool} {b0 : Nat} {v : Value} {d : DataW H} {p : List MemPlace}
    (hv : Value.okWide Tryz.prog W .any base 58 v) (h : DataW.Trod enc Tryz.prog W b0 sp hd 58 v d p) : ∃ (a : Option Addr) (l : List (Nat × Nat × Nat)) (cap : Nat), v = .slice a l.length cap ∧ Flts W a l ∧ l.length ≤ maxLen := by
  obtain ⟨a0, len, cap, rfl⟩ := okWide_slice Tryz.underlying58 hv
  obtain ⟨fuel, hf⟩ := h
  rcases Go.Deep.open_slice Tryz.underlying58 hf with ⟨hcs, hx⟩ | ⟨a, len', cap', m, n, D, Pl, hcs, _, hl, hm, hmm, hx, hel⟩
  · simp [Value.cells] at hcs
    obtain ⟨rfl, rfl, rfl⟩ := hcs
    exact ⟨none, [], 0, rfl, ⟨fun j hj => by simp at hj, fun x hx => by simp at hx⟩, by simp [maxLen]⟩
  · simp [Value.cells] at hcs
    obtain ⟨rfl, rfl, rfl⟩ := hcs
    have hlm : len ≤ m := by rw [hmm]; split <;> omega
    have hex : ∀ i, i < len → ∃ q : Nat × Nat × Nat, W.cell? (a.add (i * 3)) = some (.int .u8 (q.1 : Nat)) ∧ W.cell? (a.add (i * 3 + 1)) = some (.int .u16 (q.2.1 : Nat)) ∧ W.cell? (a.add (i * 3 + 2)) = some (.int .u16 (q.2.2 : Nat)) ∧ q.1 < 256 ∧ q.2.1 < 65536 ∧ q.2.2 < 65536 := by
      intro i hi
      obtain ⟨cs', hc, ht⟩ := hel i (by omega)
      rw [cellsFlt] at hc
      obtain ⟨_, hlen2, hat⟩ := World.cells?_some hc
      match cs', hlen2 with
      | [x, y, z], _ =>
        obtain ⟨q, rfl, rfl, rfl, hb⟩ := flt_of ht
        refine ⟨q, ?_, ?_, ?_, hb⟩
        · have := hat 0 (by omega)
          rw [Go.Deep.add_add, Nat.add_zero] at this
          exact this
        · have := hat 1 (by omega)
          rw [Go.Deep.add_add] at this
          exact this
        · have := hat 2 (by omega)
          rw [Go.Deep.add_add] at this
          exact this
    obtain ⟨f, hf2⟩ := Go.Deep.choose_lt hex
    refine ⟨some a, (List.range len).map f, cap, by simp, ⟨fun j hj => ?_, fun x hx => ?_⟩, by rw [List.length_map, List.length_range]; exact Nat.le_trans hl hm⟩
    · simp only [List.length_map, List.length_range] at hj
      obtain ⟨b, off, spot⟩ := a
      have hspot : spot = none := by
        have := World.cell?_spot (hf2 0 (by omega)).1
        simpa [Addr.add] using this
      subst hspot
      obtain ⟨h1, h2, h3, _⟩ := hf2 j hj
      rw [add_nof] at h1 h2 h3
      refine ⟨b, off, rfl, ?_, ?_, ?_⟩
      · rw [List.getElem_map, List.getElem_range]
        exact h1
      · rw [List.getElem_map, List.getElem_range, Nat.add_assoc]
        exact h2
      · rw [List.getElem_map, List.getElem_range, Nat.add_assoc]
        exact h3
    · simp only [List.mem_map, List.mem_range] at hx
      obtain ⟨i, hi, rfl⟩ := hx
      exact (hf2 i hi).2.2.2
end Go.Proofs.YtknchbhobopkeaaGreatDoor
