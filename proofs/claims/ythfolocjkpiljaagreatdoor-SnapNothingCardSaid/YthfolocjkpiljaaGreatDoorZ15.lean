/- Texts that the claim leans on, part 15: OBB, OBC. -/
import Derived.Test.YthfolocjkpiljaaGreatDoorZ1
import Derived.Test.YthfolocjkpiljaaGreatDoorZ2
import Derived.Test.YthfolocjkpiljaaGreatDoorZ3
import Derived.Test.YthfolocjkpiljaaGreatDoorZ4
import Derived.Test.YthfolocjkpiljaaGreatDoorZ5
import Derived.Test.YthfolocjkpiljaaGreatDoorZ6
import Derived.Test.YthfolocjkpiljaaGreatDoorZ7
import Derived.Test.YthfolocjkpiljaaGreatDoorZ8
import Derived.Test.YthfolocjkpiljaaGreatDoorZ9
import Derived.Test.YthfolocjkpiljaaGreatDoorZ10
import Derived.Test.YthfolocjkpiljaaGreatDoorZ11
import Derived.Test.YthfolocjkpiljaaGreatDoorZ12
import Derived.Test.YthfolocjkpiljaaGreatDoorZ13
import Derived.Test.YthfolocjkpiljaaGreatDoorZ14
import Derived.Deep.Slices
import Derived.ChangeSlices
import Derived.Lib.SmallJoins
import Derived.OpenShut
import Derived.Test.YthfolocjkpiljaaGreatDoorRows
import Derived.WalkKit
import Derived.WalkSpells
import Derived.WalkLawsBesides
import Derived.Handy
import Derived.Deep.QuietTactic
import Derived.BigQuiet
import Derived.Deep.DeepCutAuto
import Derived.Lib.Hide
import Derived.RegionTactic
import Derived.ChangeAlike
import Derived.Laws.ResultCell
import Derived.Outline
import Derived.IntWalk
import Derived.ProofKit
import Derived.Shelf.Abstract
import Derived.Shelf.RegionOpen
import Derived.OwnWalkIn
import Derived.TacticsInMore
import Derived.LoopNIn
import Derived.LoopIn
import Derived.Maps.AppendAt
import Derived.Lib.SliceRun
import Derived.Laws.IdiomStrings
import Derived.Laws.BytesArg
import Derived.Carry
import Derived.Maps.Own
import Derived.Maps.Keyed
import Derived.RangeFuncNested
import Derived.RangeFuncBound
import Derived.RangeFuncCalls
import Derived.RangeFuncLeaves
import Derived.RangeFuncBox
import Derived.RangeFuncRecord
import Derived.OrdersIn
import Derived.OrdersHeld
import Derived.Laws.MakeOwn
import Derived.Laws.BitsAllLaws
import Derived.Great.BuildSlice
import Derived.Great.FillDense
import Derived.Laws.Rows
import Derived.Deep.Quiet
import Derived.Deep.RegionHeld3
import Derived.Laws.CopyOwn
import Derived.Laws.CopyRow
import Derived.Laws.NewBlocks
import Derived.Deep.RegionLaw
namespace Go.Proofs.YthfolocjkpiljaaGreatDoor
open Go.ChangeShapes Go.WideShapes Go.ChangeAt Go.RowKit

section
variable {H : Type} {enc : TypeId × Value → H} {P : Program} {w : World} {base : Nat} {spare : Nat → Bool} {held : Bool}
theorem trodAll_2 {t t' : TypeId} {args : Array Value} {ds : List (DataW H)} {ps : List MemPlace} (h : DataW.TrodAll enc P w base spare held [t, t'] args.toList ds ps) :
    ∃ v v' d d' p p', args = #[v, v'] ∧ ds = [d, d'] ∧ ps = p ++ p' ∧ DataW.Trod enc P w base spare held t v d p ∧ DataW.Trod enc P w base spare held t' v' d' p' := by
  obtain ⟨v, vs, d, ds', p, q, hargs, rfl, rfl, hd, hrest⟩ := trodAll_cons h
  obtain ⟨v', vs', d', ds'', p', q', rfl, rfl, rfl, hd', hrest'⟩ := trodAll_cons hrest
  obtain ⟨rfl, rfl, rfl⟩ := trodAll_nil hrest'
  exact ⟨v, v', d, d', p, p', by cases args; simp_all, rfl, by simp, hd, hd'⟩
end
set_option maxRecDepth 100000 in
theorem bytes_of {H : Type} {enc : TypeId × Value → H} {W : World} {b0 : Nat} {sp : Nat → Bool} {hd : Bool} {fuel : Nat} {v : Value} {x : DataW H × List MemPlace} (h : DataW.trod enc Tryz.prog W b0 sp hd fuel 34 [v] = some x) :
    ∃ (a : Option Addr) (cap : Nat) (l : List UInt8), v = .slice a l.length cap ∧ SlB W a cap l := by
  rcases open_ints Tryz.underlying34 Tryz.underlying5 cellsU8 h with ⟨hcs, hx⟩ | ⟨a, len, cap, zs, hcs, _, hl, hm, hz, hx, hcell, hwz⟩
  · simp only [List.cons.injEq, and_true] at hcs
    subst hcs
    exact ⟨none, 0, [], rfl, ⟨.inl rfl, Nat.le_refl _, by simp, fun _ => rfl⟩⟩
  · simp only [List.cons.injEq, and_true] at hcs
    subst hcs
    have hlen : len ≤ zs.length := by rw [hz]; split <;> omega
    have hb : ∀ n ∈ zs, 0 ≤ n ∧ n < 256 := fun n hn => by
      have h1 := hwz n hn
      have m0 : IntKind.u8.min = 0 := by decide
      have m1 : IntKind.u8.max = 255 := by decide
      replace h1 : (decide (IntKind.u8.min ≤ n) && decide (n ≤ IntKind.u8.max)) = true := h1
      rw [m0, m1, Bool.and_eq_true, decide_eq_true_eq, decide_eq_true_eq] at h1
      omega
    refine ⟨some a, cap, (zs.take len).map (fun n => UInt8.ofNat n.toNat), by simp; omega, ⟨?_, by simp; omega, hm, fun e => by cases e⟩⟩
    by_cases h0 : len = 0
    · left; simp [h0, bys]
    · right
      obtain ⟨b, off, rfl, hc'⟩ := ints_at hcell (by omega)
      refine ⟨b, off, rfl, fun i u hu => ?_⟩
      have hi := (List.getElem?_eq_some_iff.1 hu).1
      simp only [bys_len, List.length_map, List.length_take] at hi
      rw [hc' i (by omega)]
      unfold bys at hu
      simp only [List.getElem?_map, List.getElem?_take_of_lt (show i < len by omega), Option.map_eq_some_iff] at hu
      obtain ⟨y, ⟨z, hz2, rfl⟩, rfl⟩ := hu
      rw [List.getD_eq_getElem?_getD, hz2]
      have := hb z (List.mem_of_getElem? hz2)
      unfold byv
      rw [show ((UInt8.ofNat z.toNat).toNat : Int) = z by rw [UInt8.toNat_ofNat']; omega]
      rfl
theorem cellsSl : Tryz.prog.cellsOf 34 = 1 := by kernel_rfl
set_option maxRecDepth 100000 in
theorem open_parts {H : Type} {enc : TypeId × Value → H} {W : World} {base : Nat} {sp : Nat → Bool} {hd : Bool} {b0 : Nat} {v : Value} {d : DataW H} {p : List MemPlace}
    (hv : Value.okWide Tryz.prog W .any base 92 v) (h : DataW.Trod enc Tryz.prog W b0 sp hd 92 v d p) : ∃ (a : Option Addr) (ls : List Part) (cap : Nat), v = .slice a ls.length cap ∧ Parts W a ls := by
  obtain ⟨a0, len, cap, rfl⟩ := okWide_slice Tryz.underlying92 hv
  obtain ⟨fuel, hf⟩ := h
  rcases Go.Deep.open_slice1 Tryz.underlying92 cellsSl hf with ⟨hcs, hx⟩ | ⟨a, len', cap', m, n, V, D, Pl, hcs, _, hl, hm, hmm, hx, hel⟩
  · simp [Value.cells] at hcs
    obtain ⟨rfl, rfl, rfl⟩ := hcs
    exact ⟨none, [], 0, rfl, ⟨.inl rfl, fun x hx => by cases hx⟩⟩
  · simp [Value.cells] at hcs
    obtain ⟨rfl, rfl, rfl⟩ := hcs
    have hlm : len ≤ m := by rw [hmm]; split <;> omega
    have hex : ∀ i, i < len → ∃ y : Part, W.cell? (a.add i) = some (partV y) ∧ SlB W y.1 y.2.1 y.2.2 := by
      intro i hi
      obtain ⟨hc, ht⟩ := hel i (by omega)
      obtain ⟨ya, yc, yl, e, hs⟩ := bytes_of ht
      exact ⟨(ya, yc, yl), by rw [hc, e]; rfl, hs⟩
    have : Inhabited Part := ⟨(none, 0, [])⟩
    obtain ⟨f, hf2⟩ := Go.Deep.choose_lt hex
    refine ⟨some a, (List.range len).map f, cap, by simp, ⟨?_, fun x hx => ?_⟩⟩
    · by_cases h0 : len = 0
      · left
        subst h0
        rfl
      · right
        obtain ⟨b, off, spot⟩ := a
        have hspot : spot = none := by
          have := World.cell?_spot (hf2 0 (by omega)).1
          simpa [Addr.add] using this
        subst hspot
        refine ⟨b, off, rfl, fun i u hu => ?_⟩
        have hi := (List.getElem?_eq_some_iff.1 hu).1
        simp only [List.length_map, List.length_range] at hi
        have := (hf2 i hi).1
        rw [addr_add] at this
        rw [this]
        simp only [List.map_map, List.getElem?_map, List.getElem?_range hi, Option.map_some, Function.comp] at hu
        exact hu
    · simp only [List.mem_map, List.mem_range] at hx
      obtain ⟨i, hi, rfl⟩ := hx
      exact (hf2 i hi).2
end Go.Proofs.YthfolocjkpiljaaGreatDoor

namespace Go.Proofs.YthfolocjkpiljaaGreatDoor
open Go.ChangeShapes Go.WideShapes Go.ChangeAt Go.RowKit

theorem bool_of {H : Type} {enc : TypeId × Value → H} {W : World} {sp : Nat → Bool} {hd : Bool} {b0 fuel : Nat} {v : Value} {x : DataW H × List MemPlace} (h : DataW.trod enc Tryz.prog W b0 sp hd fuel 4 [v] = some x) : ∃ z, v = .bool z := by
  obtain ⟨z, q, _⟩ := DataW.trod_bool Tryz.underlying4 h
  simp only [List.cons.injEq, and_true] at q
  exact ⟨z, q⟩
theorem cellsBl : Tryz.prog.cellsOf 4 = 1 := by kernel_rfl
set_option maxRecDepth 100000 in
theorem open_bools {H : Type} {enc : TypeId × Value → H} {W : World} {base : Nat} {sp : Nat → Bool} {hd : Bool} {b0 : Nat} {v : Value} {d : DataW H} {p : List MemPlace}
    (hv : Value.okWide Tryz.prog W .any base 35 v) (h : DataW.Trod enc Tryz.prog W b0 sp hd 35 v d p) : ∃ (a : Option Addr) (l : List Bool) (cap : Nat), v = .slice a l.length cap ∧ Row W a (l.map Value.bool) := by
  obtain ⟨a0, len, cap, rfl⟩ := okWide_slice Tryz.underlying35 hv
  obtain ⟨fuel, hf⟩ := h
  rcases Go.Deep.open_slice1 Tryz.underlying35 cellsBl hf with ⟨hcs, hx⟩ | ⟨a, len', cap', m, n, V, D, Pl, hcs, _, hl, hm, hmm, hx, hel⟩
  · simp [Value.cells] at hcs
    obtain ⟨rfl, rfl, rfl⟩ := hcs
    exact ⟨none, [], 0, rfl, .inl rfl⟩
  · simp [Value.cells] at hcs
    obtain ⟨rfl, rfl, rfl⟩ := hcs
    have hlm : len ≤ m := by rw [hmm]; split <;> omega
    have hex : ∀ i, i < len → ∃ y : Bool, W.cell? (a.add i) = some (.bool y) := by
      intro i hi
      obtain ⟨hc, ht⟩ := hel i (by omega)
      obtain ⟨y, e⟩ := bool_of ht
      exact ⟨y, by rw [hc, e]⟩
    obtain ⟨f, hf2⟩ := Go.Deep.choose_lt hex
    refine ⟨some a, (List.range len).map f, cap, by simp, ?_⟩
    by_cases h0 : len = 0
    · left
      subst h0
      rfl
    · right
      obtain ⟨b, off, spot⟩ := a
      have hspot : spot = none := by
        have := World.cell?_spot (hf2 0 (by omega))
        simpa [Addr.add] using this
      subst hspot
      refine ⟨b, off, rfl, fun i u hu => ?_⟩
      have hi := (List.getElem?_eq_some_iff.1 hu).1
      simp only [List.length_map, List.length_range] at hi
      have := hf2 i hi
      rw [addr_add] at this
      rw [this]
      simp only [List.map_map, List.getElem?_map, List.getElem?_range hi, Option.map_some, Function.comp] at hu
      exact hu
end Go.Proofs.YthfolocjkpiljaaGreatDoor

