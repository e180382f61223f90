/- Texts that the claim leans on, part 7: J22. -/
import Derived.Test.YtkkoookmnnmiiaaZ1
import Derived.Test.YtkkoookmnnmiiaaZ2
import Derived.Test.YtkkoookmnnmiiaaZ3
import Derived.Test.YtkkoookmnnmiiaaZ4
import Derived.Test.YtkkoookmnnmiiaaZ5
import Derived.Deep.Slices
import Derived.Deep.Strs
import Derived.OpenShut
import Derived.Lib.SmallJoins
import Derived.Test.YtkkoookmnnmiiaaRows
import Derived.WalkKit
import Derived.WalkSpells
import Derived.WalkLawsBesides
import Derived.Handy
import Derived.Deep.QuietTactic
import Derived.BigQuiet
import Derived.Deep.DeepCutAuto
import Derived.Lib.Hide
import Derived.RegionTactic
import Derived.ChangeAlike
import Derived.Shelf.Abstract
import Derived.Shelf.RegionOpen
import Derived.OwnWalkIn
import Derived.TacticsInMore
import Derived.LoopNIn
import Derived.LoopIn
import Derived.Maps.AppendAt
import Derived.Maps.OwnIn
import Derived.Maps.Keyed
import Derived.Maps.Views
import Derived.Laws.ResultCell
import Derived.Outline
import Derived.LoopN
import Derived.Shelf.SlIterI.Nil
import Derived.Shelf.SortM.Plain
import Derived.Shelf.SortM.SortNone
import Derived.RangeFuncNested
import Derived.RangeFuncBound
import Derived.RangeFuncCalls
import Derived.RangeFuncLeaves
import Derived.RangeFuncBox
import Derived.RangeFuncRecord
import Derived.Maps.OwnSet
import Derived.Lib.SlKeysI
import Derived.Laws.Rows
import Derived.Deep.Quiet
import Derived.Deep.RegionHeld3
import Derived.ProofKit
import Derived.Laws.Strings
import Derived.Laws.CopyOwn
import Derived.Laws.CopyRow
import Derived.Laws.NewBlocks
import Derived.Deep.RegionLaw
namespace Go.Proofs.Ytkkoookmnnmiiaa
open Go.ChangeShapes Go.WideShapes Go.ChangeAt Go.RowKit

section
variable {H : Type} {enc : TypeId × Value → H} {P : Program} {w : World} {base : Nat} {spare : Nat → Bool} {held : Bool}
theorem trod_strJ3 {t : TypeId} {f0 f1 f2 : Field} {fuel : Nat} {cs : List Value} {x : DataW H × List MemPlace} (ht : P.underlying t = some (.struct #[f0, f1, f2])) (h : DataW.trod enc P w base spare held fuel t cs = some x) :
    ∃ y0 y1 y2 n, cs.length = P.cellsOf t ∧ DataW.trod enc P w base spare held n f0.type ((cs.drop f0.offset).take (P.cellsOf f0.type)) = some y0 ∧
      DataW.trod enc P w base spare held n f1.type ((cs.drop f1.offset).take (P.cellsOf f1.type)) = some y1 ∧ DataW.trod enc P w base spare held n f2.type ((cs.drop f2.offset).take (P.cellsOf f2.type)) = some y2 := by
  obtain ⟨xs, n, _, rfl, hl, hlen, hf⟩ := DataW.trod_struct ht h
  match xs, hlen with
  | [y0, y1, y2], _ => exact ⟨y0, y1, y2, n, hl, by simpa using hf 0 f0 rfl, by simpa using hf 1 f1 rfl, by simpa using hf 2 f2 rfl⟩
theorem trod_strJ2 {t : TypeId} {f0 f1 : Field} {fuel : Nat} {cs : List Value} {x : DataW H × List MemPlace} (ht : P.underlying t = some (.struct #[f0, f1])) (h : DataW.trod enc P w base spare held fuel t cs = some x) :
    ∃ y0 y1 n, cs.length = P.cellsOf t ∧ DataW.trod enc P w base spare held n f0.type ((cs.drop f0.offset).take (P.cellsOf f0.type)) = some y0 ∧
      DataW.trod enc P w base spare held n f1.type ((cs.drop f1.offset).take (P.cellsOf f1.type)) = some y1 := by
  obtain ⟨xs, n, _, rfl, hl, hlen, hf⟩ := DataW.trod_struct ht h
  match xs, hlen with
  | [y0, y1], _ => exact ⟨y0, y1, n, hl, by simpa using hf 0 f0 rfl, by simpa using hf 1 f1 rfl⟩
theorem trod_strJ4 {t : TypeId} {f0 f1 f2 f3 : Field} {fuel : Nat} {cs : List Value} {x : DataW H × List MemPlace} (ht : P.underlying t = some (.struct #[f0, f1, f2, f3])) (h : DataW.trod enc P w base spare held fuel t cs = some x) :
    ∃ y0 y1 y2 y3 n, cs.length = P.cellsOf t ∧ DataW.trod enc P w base spare held n f0.type ((cs.drop f0.offset).take (P.cellsOf f0.type)) = some y0 ∧
      DataW.trod enc P w base spare held n f1.type ((cs.drop f1.offset).take (P.cellsOf f1.type)) = some y1 ∧ DataW.trod enc P w base spare held n f2.type ((cs.drop f2.offset).take (P.cellsOf f2.type)) = some y2 ∧
      DataW.trod enc P w base spare held n f3.type ((cs.drop f3.offset).take (P.cellsOf f3.type)) = some y3 := by
  obtain ⟨xs, n, _, rfl, hl, hlen, hf⟩ := DataW.trod_struct ht h
  match xs, hlen with
  | [y0, y1, y2, y3], _ => exact ⟨y0, y1, y2, y3, n, hl, by simpa using hf 0 f0 rfl, by simpa using hf 1 f1 rfl, by simpa using hf 2 f2 rfl, by simpa using hf 3 f3 rfl⟩
end
theorem cIntJ : Try.prog.cellsOf 3 = 1 := by kernel_rfl
theorem cU8J : Try.prog.cellsOf 5 = 1 := by kernel_rfl
theorem cOpnJ : Try.prog.cellsOf 32 = 4 := by kernel_rfl
theorem cEntryJ : Try.prog.cellsOf 34 = 7 := by kernel_rfl
theorem cApJ : Try.prog.cellsOf 36 = 8 := by kernel_rfl
theorem cStrJ : Try.prog.cellsOf 9 = 1 := by kernel_rfl
theorem cSlJ : Try.prog.cellsOf 29 = 1 := by kernel_rfl
theorem list8J {α : Type} {l : List α} (h : l.length = 8) : ∃ a0 a1 a2 a3 a4 a5 a6 a7, l = [a0, a1, a2, a3, a4, a5, a6, a7] := by
  match l, h with
  | [a0, a1, a2, a3, a4, a5, a6, a7], _ => exact ⟨a0, a1, a2, a3, a4, a5, a6, a7, rfl⟩

theorem flat_rangeJ {α : Type} {fc : α → List Value} {n : Nat} (hn : 0 < n) (hlen : ∀ x, (fc x).length = n) (f : Nat → α) (len i : Nat) (u : Value) (h : (((List.range len).map f).flatMap fc)[i]? = some u) : ∃ j r, j < len ∧ r < n ∧ i = j * n + r ∧ (fc (f j))[r]? = some u := by
  have hi := (List.getElem?_eq_some_iff.1 h).1
  rw [flat_len hlen, List.length_map, List.length_range] at hi
  have hj : i / n < len := Nat.div_lt_of_lt_mul hi
  have hget : ((List.range len).map f)[i / n]? = some (f (i / n)) := by simp [hj]
  have hr : i % n < n := Nat.mod_lt _ hn
  obtain ⟨v, hv⟩ : ∃ v, (fc (f (i / n)))[i % n]? = some v := ⟨_, List.getElem?_eq_getElem (by rw [hlen]; exact hr)⟩
  have e : i / n * n + i % n = i := by rw [Nat.mul_comm]; exact Nat.div_add_mod i n
  have := flat_at hlen hget (i % n) v hv
  rw [e, h] at this
  refine ⟨i / n, i % n, hj, hr, e.symm, ?_⟩
  rw [hv, ← this]

set_option maxRecDepth 100000 in
theorem applied_of {H : Type} {enc : TypeId × Value → H} {W : World} {sp : Nat → Bool} {hd : Bool} {b0 fuel : Nat} {cs : List Value} {x : DataW H × List MemPlace}
    (h : DataW.trod enc Try.prog W b0 sp hd fuel 36 cs = some x) : ∃ e : Ap, cs = apC e ∧ okI e := by
  obtain ⟨z0, z1, n0, hl, g0, g1⟩ := trod_strJ2 Try.underlying36 h
  rw [cApJ] at hl
  obtain ⟨i0, a0, a1, a2, a3, a4, a5, a6, rfl⟩ := list8J hl
  obtain ⟨y0, y1, y2, y3, n, _, h0, h1, h2, h3⟩ := trod_strJ4 Try.underlying34 g1
  obtain ⟨u0, u1, u2, u3, k, _, e0, e1, e2, e3⟩ := trod_strJ4 Try.underlying32 h3
  simp [cEntryJ, cOpnJ, cIntJ, cU8J, cStrJ] at g0 h0 h1 h2 e0 e1 e2 e3
  obtain ⟨ix, q7, _, hwf⟩ := DataW.trod_int Try.underlying3 g0
  obtain ⟨kd, q0, _⟩ := DataW.trod_int Try.underlying5 h0
  obtain ⟨cl, q1, _⟩ := DataW.trod_int Try.underlying3 h1
  obtain ⟨sq, q2, _⟩ := DataW.trod_int Try.underlying3 h2
  obtain ⟨ok, q3, _⟩ := DataW.trod_int Try.underlying5 e0
  obtain ⟨s1, q4, _⟩ := DataW.trod_string Try.underlying9 e1
  obtain ⟨s2, q5, _⟩ := DataW.trod_string Try.underlying9 e2
  obtain ⟨s3, q6, _⟩ := DataW.trod_string Try.underlying9 e3
  simp at q0 q1 q2 q3 q4 q5 q6 q7
  subst q0 q1 q2 q3 q4 q5 q6 q7
  exact ⟨⟨ix, ⟨kd, cl, sq, ⟨ok, s1, s2, s3⟩⟩⟩, rfl, hwf⟩
set_option maxRecDepth 100000 in
theorem aps_of {H : Type} {enc : TypeId × Value → H} {W : World} {sp : Nat → Bool} {hd : Bool} {b0 fuel : Nat} {cs : List Value} {x : DataW H × List MemPlace}
    (hf : DataW.trod enc Try.prog W b0 sp hd fuel 29 cs = some x) : ∃ (a : Option Addr) (l : List Ap) (cap : Nat), cs = [.slice a l.length cap] ∧ SlA W a cap l ∧ ∀ y ∈ l, okI y := by
  rcases Go.Deep.open_slice Try.underlying29 hf with ⟨hcs, hx⟩ | ⟨a, len', cap', m, n, D, Pl, hcs, _, hl, hm, hmm, hx, hel⟩
  · exact ⟨none, [], 0, hcs, ⟨.inl rfl, Nat.le_refl _, by simp [maxLen], fun _ => rfl⟩, fun y hy => by simp at hy⟩
  · have hlm : len' ≤ m := by rw [hmm]; split <;> omega
    have hstr : ∀ i, i < len' → ∃ c : Ap, okI c ∧ ∀ r u, (apC c)[r]? = some u → W.cell? (a.add (i * 8 + r)) = some u := by
      intro i hi
      obtain ⟨cs', hc, ht⟩ := hel i (by omega)
      rw [cApJ] at hc
      obtain ⟨_, hlen2, hat⟩ := World.cells?_some hc
      obtain ⟨c, rfl, hok⟩ := applied_of ht
      refine ⟨c, hok, fun r u hr => ?_⟩
      have hlt := (List.getElem?_eq_some_iff.1 hr).1
      have := hat r (by simpa [apC_len] using hlt)
      rw [Go.Deep.add_add] at this
      rw [this, ← hr, List.getElem?_eq_getElem hlt]
    have : Inhabited Ap := ⟨⟨0, zeroE⟩⟩
    obtain ⟨f, hf2⟩ := Go.Deep.choose_lt hstr
    refine ⟨some a, (List.range len').map f, cap', by simpa using hcs, ⟨?_, by simpa using hl, hm, fun e => by cases e⟩, fun y hy => ?_⟩
    · by_cases h0 : len' = 0
      · left
        subst h0
        rfl
      · right
        obtain ⟨b, off, spot⟩ := a
        have hspot : spot = none := by
          have := World.cell?_spot ((hf2 0 (by omega)).2 0 _ rfl)
          simpa [Addr.add] using this
        subst hspot
        refine ⟨b, off, rfl, fun i u hu => ?_⟩
        obtain ⟨j, r, hj, _, rfl, hr⟩ := flat_rangeJ (by decide) apC_len f len' i u hu
        have := (hf2 j hj).2 r u hr
        rw [addr_add] at this
        exact this
    · obtain ⟨i, hi, rfl⟩ := List.mem_map.1 hy
      exact (hf2 i (List.mem_range.1 hi)).1
set_option maxRecDepth 100000 in
theorem open_aps {H : Type} {enc : TypeId × Value → H} {W : World} {base : Nat} {sp : Nat → Bool} {hd : Bool} {b0 : Nat} {v : Value} {d : DataW H} {p : List MemPlace}
    (hv : Value.okWide Try.prog W .any base 29 v) (h : DataW.Trod enc Try.prog W b0 sp hd 29 v d p) : ∃ (a : Option Addr) (l : List Ap) (cap : Nat), v = .slice a l.length cap ∧ SlA W a cap l ∧ ∀ y ∈ l, okI y := by
  obtain ⟨a0, len, cap, rfl⟩ := okWide_slice Try.underlying29 hv
  obtain ⟨fuel, hf⟩ := h
  obtain ⟨a, l, c, hcs, hS, hok⟩ := aps_of hf
  simp [Value.cells] at hcs
  obtain ⟨rfl, rfl, rfl⟩ := hcs
  exact ⟨_, l, _, rfl, hS, hok⟩
set_option maxRecDepth 100000 in
theorem parts_of {H : Type} {enc : TypeId × Value → H} {W : World} {sp : Nat → Bool} {hd : Bool} {b0 fuel : Nat} {cs : List Value} {x : DataW H × List MemPlace}
    (hf : DataW.trod enc Try.prog W b0 sp hd fuel 26 cs = some x) : ∃ (a : Option Addr) (ls : List PartA) (cap : Nat), cs = [.slice a ls.length cap] ∧ PartsA W a ls ∧ ls.length ≤ cap ∧ cap ≤ maxLen ∧ ∀ x ∈ ls, ∀ y ∈ x.2.2, okI y := by
  rcases Go.Deep.open_slice Try.underlying26 hf with ⟨hcs, hx⟩ | ⟨a, len', cap', m, n, D, Pl, hcs, _, hl, hm, hmm, hx, hel⟩
  · exact ⟨none, [], 0, hcs, ⟨.inl rfl, fun y hy => by simp at hy⟩, Nat.le_refl _, by simp [maxLen], fun y hy => by simp at hy⟩
  · have hlm : len' ≤ m := by rw [hmm]; split <;> omega
    have hstr : ∀ i, i < len' → ∃ c : PartA, (SlA W c.1 c.2.1 c.2.2 ∧ ∀ y ∈ c.2.2, okI y) ∧ W.cell? (a.add i) = some (partA c) := by
      intro i hi
      obtain ⟨cs', hc, ht⟩ := hel i (by omega)
      rw [cSlJ] at hc
      obtain ⟨_, hlen2, hat⟩ := World.cells?_some hc
      obtain ⟨a1, l1, c1, rfl, hS, hok⟩ := aps_of ht
      refine ⟨(a1, c1, l1), ⟨hS, hok⟩, ?_⟩
      have := hat 0 (by simp)
      rw [Go.Deep.add_add] at this
      simpa [partA] using this
    have : Inhabited PartA := ⟨(none, 0, [])⟩
    obtain ⟨f, hf2⟩ := Go.Deep.choose_lt hstr
    refine ⟨some a, (List.range len').map f, cap', by simpa using hcs, ⟨?_, fun y hy => ?_⟩, by simpa using hl, hm, fun y hy => ?_⟩
    · by_cases h0 : len' = 0
      · left
        subst h0
        rfl
      · right
        obtain ⟨b, off, spot⟩ := a
        have hspot : spot = none := by
          have := World.cell?_spot (hf2 0 (by omega)).2
          simpa [Addr.add] using this
        subst hspot
        refine ⟨b, off, rfl, fun i u hu => ?_⟩
        have hi : i < len' := by
          have := (List.getElem?_eq_some_iff.1 hu).1
          simpa using this
        have h2 := (hf2 i hi).2
        rw [addr_add] at h2
        rw [h2]
        simpa [hi] using hu
    · obtain ⟨i, hi, rfl⟩ := List.mem_map.1 hy
      exact (hf2 i (List.mem_range.1 hi)).1.1
    · obtain ⟨i, hi, rfl⟩ := List.mem_map.1 hy
      exact (hf2 i (List.mem_range.1 hi)).1.2
set_option maxRecDepth 100000 in
theorem open_parts {H : Type} {enc : TypeId × Value → H} {W : World} {base : Nat} {sp : Nat → Bool} {hd : Bool} {b0 : Nat} {v : Value} {d : DataW H} {p : List MemPlace}
    (hv : Value.okWide Try.prog W .any base 26 v) (h : DataW.Trod enc Try.prog W b0 sp hd 26 v d p) : ∃ (a : Option Addr) (ls : List PartA) (cap : Nat), v = .slice a ls.length cap ∧ PartsA W a ls ∧ ls.length ≤ cap ∧ cap ≤ maxLen ∧ ∀ x ∈ ls, ∀ y ∈ x.2.2, okI y := by
  obtain ⟨a0, len, cap, rfl⟩ := okWide_slice Try.underlying26 hv
  obtain ⟨fuel, hf⟩ := h
  obtain ⟨a, l, c, hcs, hS⟩ := parts_of hf
  simp [Value.cells] at hcs
  obtain ⟨rfl, rfl, rfl⟩ := hcs
  exact ⟨_, l, _, rfl, hS⟩
end Go.Proofs.Ytkkoookmnnmiiaa

