/- Texts that the claim leans on, part 9: IO. -/
import Derived.Test.YtmnjmjbmnhppfaaZ1
import Derived.Test.YtmnjmjbmnhppfaaZ2
import Derived.Test.YtmnjmjbmnhppfaaZ3
import Derived.Test.YtmnjmjbmnhppfaaZ4
import Derived.Test.YtmnjmjbmnhppfaaZ5
import Derived.Test.YtmnjmjbmnhppfaaZ6
import Derived.Test.YtmnjmjbmnhppfaaZ7
import Derived.Test.YtmnjmjbmnhppfaaZ8
import Derived.Deep.Slices
import Derived.Deep.Strs
import Derived.OpenShut
import Derived.Lib.SmallJoins
import Derived.Test.YtmnjmjbmnhppfaaRows
import Derived.WalkKit
import Derived.WalkSpells
import Derived.WalkLawsBesides
import Derived.Handy
import Derived.Deep.QuietTactic
import Derived.BigQuiet
import Derived.Deep.DeepCutAuto
import Derived.Lib.Hide
import Derived.RegionTactic
import Derived.ChangeAlike
import Derived.Deep.RegionHeld3
import Derived.Laws.ResultCell
import Derived.Outline
import Derived.Deep.Quiet
import Derived.ChangeKeysEq
import Derived.ChangeSlices
import Derived.ProofKit
import Derived.Laws.EntriesVeiled
import Derived.StillTailTactics
import Derived.Laws.Rows
import Derived.Lib.Overlaps
import Derived.Deep.RegionWith
import Derived.Laws.Strings
import Derived.Laws.CopyOwn
import Derived.Laws.CopyRow
import Derived.Laws.NewBlocks
import Derived.Deep.RegionLaw
namespace Go.Proofs.Ytmnjmjbmnhppfaa
open Go.ChangeShapes Go.WideShapes Go.ChangeAt Go.RowKit

section
variable {H : Type} {enc : TypeId × Value → H} {P : Program} {w : World} {base : Nat} {spare : Nat → Bool} {held : Bool}
theorem trod_str3 {t : TypeId} {f0 f1 f2 : Field} {fuel : Nat} {cs : List Value} {x : DataW H × List MemPlace} (ht : P.underlying t = some (.struct #[f0, f1, f2])) (h : DataW.trod enc P w base spare held fuel t cs = some x) :
    ∃ y0 y1 y2 n, cs.length = P.cellsOf t ∧ DataW.trod enc P w base spare held n f0.type ((cs.drop f0.offset).take (P.cellsOf f0.type)) = some y0 ∧
      DataW.trod enc P w base spare held n f1.type ((cs.drop f1.offset).take (P.cellsOf f1.type)) = some y1 ∧ DataW.trod enc P w base spare held n f2.type ((cs.drop f2.offset).take (P.cellsOf f2.type)) = some y2 := by
  obtain ⟨xs, n, _, rfl, hl, hlen, hf⟩ := DataW.trod_struct ht h
  match xs, hlen with
  | [y0, y1, y2], _ => exact ⟨y0, y1, y2, n, hl, by simpa using hf 0 f0 rfl, by simpa using hf 1 f1 rfl, by simpa using hf 2 f2 rfl⟩
theorem trod_str2 {t : TypeId} {f0 f1 : Field} {fuel : Nat} {cs : List Value} {x : DataW H × List MemPlace} (ht : P.underlying t = some (.struct #[f0, f1])) (h : DataW.trod enc P w base spare held fuel t cs = some x) :
    ∃ y0 y1 n, cs.length = P.cellsOf t ∧ DataW.trod enc P w base spare held n f0.type ((cs.drop f0.offset).take (P.cellsOf f0.type)) = some y0 ∧
      DataW.trod enc P w base spare held n f1.type ((cs.drop f1.offset).take (P.cellsOf f1.type)) = some y1 := by
  obtain ⟨xs, n, _, rfl, hl, hlen, hf⟩ := DataW.trod_struct ht h
  match xs, hlen with
  | [y0, y1], _ => exact ⟨y0, y1, n, hl, by simpa using hf 0 f0 rfl, by simpa using hf 1 f1 rfl⟩
theorem trod_str4 {t : TypeId} {f0 f1 f2 f3 : Field} {fuel : Nat} {cs : List Value} {x : DataW H × List MemPlace} (ht : P.underlying t = some (.struct #[f0, f1, f2, f3])) (h : DataW.trod enc P w base spare held fuel t cs = some x) :
    ∃ y0 y1 y2 y3 n, cs.length = P.cellsOf t ∧ DataW.trod enc P w base spare held n f0.type ((cs.drop f0.offset).take (P.cellsOf f0.type)) = some y0 ∧
      DataW.trod enc P w base spare held n f1.type ((cs.drop f1.offset).take (P.cellsOf f1.type)) = some y1 ∧ DataW.trod enc P w base spare held n f2.type ((cs.drop f2.offset).take (P.cellsOf f2.type)) = some y2 ∧
      DataW.trod enc P w base spare held n f3.type ((cs.drop f3.offset).take (P.cellsOf f3.type)) = some y3 := by
  obtain ⟨xs, n, _, rfl, hl, hlen, hf⟩ := DataW.trod_struct ht h
  match xs, hlen with
  | [y0, y1, y2, y3], _ => exact ⟨y0, y1, y2, y3, n, hl, by simpa using hf 0 f0 rfl, by simpa using hf 1 f1 rfl, by simpa using hf 2 f2 rfl, by simpa using hf 3 f3 rfl⟩
end
theorem cInt : Try.prog.cellsOf 3 = 1 := by kernel_rfl
theorem cU8 : Try.prog.cellsOf 5 = 1 := by kernel_rfl
theorem cErr : Try.prog.cellsOf 28 = 1 := by kernel_rfl
theorem cBool : Try.prog.cellsOf 4 = 1 := by kernel_rfl
theorem cState : Try.prog.cellsOf 41 = 1 := by kernel_rfl
theorem cOpn : Try.prog.cellsOf 61 = 4 := by kernel_rfl
theorem cReply : Try.prog.cellsOf 43 = 3 := by kernel_rfl
theorem cRow : Try.prog.cellsOf 45 = 4 := by kernel_rfl
theorem cTable : Try.prog.cellsOf 47 = 16 := by kernel_rfl
theorem cImage : Try.prog.cellsOf 49 = 18 := by kernel_rfl
theorem cEntry : Try.prog.cellsOf 80 = 7 := by kernel_rfl
theorem list4 {α : Type} {l : List α} (h : l.length = 4) : ∃ a0 a1 a2 a3, l = [a0, a1, a2, a3] := by
  match l, h with
  | [a0, a1, a2, a3], _ => exact ⟨a0, a1, a2, a3, rfl⟩
theorem list7 {α : Type} {l : List α} (h : l.length = 7) : ∃ a0 a1 a2 a3 a4 a5 a6, l = [a0, a1, a2, a3, a4, a5, a6] := by
  match l, h with
  | [a0, a1, a2, a3, a4, a5, a6], _ => exact ⟨a0, a1, a2, a3, a4, a5, a6, rfl⟩

section
variable {H : Type} {enc : TypeId × Value → H} {W : World} {b0 : Nat} {sp : Nat → Bool} {hd : Bool}
set_option maxRecDepth 100000 in
theorem row_of {fuel : Nat} {cs : List Value} {x : DataW H × List MemPlace} (h : DataW.trod enc Try.prog W b0 sp hd fuel 45 cs = some x) : ∃ r : Rw, cs = rowC r := by
  obtain ⟨y0, y1, n, hl, h0, h1⟩ := trod_str2 Try.underlying45 h
  rw [cRow] at hl
  obtain ⟨a0, a1, a2, a3, rfl⟩ := list4 hl
  obtain ⟨u0, u1, u2, k, _, e0, e1, e2⟩ := trod_str3 Try.underlying43 h1
  simp [cReply, cInt, cErr, cBool, cellsString] at h0 e0 e1 e2
  obtain ⟨s, q0, _⟩ := DataW.trod_int Try.underlying3 h0
  obtain ⟨er, q1, _⟩ := DataW.trod_int Try.underlying28 e0
  obtain ⟨fo, q2, _⟩ := DataW.trod_bool Try.underlying4 e1
  obtain ⟨va, q3, _⟩ := DataW.trod_string Try.underlying9 e2
  simp at q0 q1 q2 q3
  subst q0 q1 q2 q3
  exact ⟨⟨s, ⟨er, fo, va⟩⟩, rfl⟩
set_option maxRecDepth 100000 in
theorem table_of {fuel : Nat} {cs : List Value} {x : DataW H × List MemPlace} (h : DataW.trod enc Try.prog W b0 sp hd fuel 47 cs = some x) : ∃ t : Tb, cs = (tbA t).toList := by
  obtain ⟨xs, m, _, _, hl, hxl, hf⟩ := DataW.trod_array Try.underlying47 h
  rw [cTable] at hl
  simp only [cRow] at hf
  have get : ∀ i, i < 4 → ∃ r : Rw, (cs.drop (i * 4)).take 4 = rowC r := fun i hi => by
    have := hf i hi
    rw [List.getElem?_eq_getElem (by omega)] at this
    exact row_of this
  obtain ⟨r0, e0⟩ := get 0 (by omega)
  obtain ⟨r1, e1⟩ := get 1 (by omega)
  obtain ⟨r2, e2⟩ := get 2 (by omega)
  obtain ⟨r3, e3⟩ := get 3 (by omega)
  refine ⟨⟨r0, r1, r2, r3⟩, ?_⟩
  have : cs = (cs.drop 0).take 4 ++ ((cs.drop 4).take 4 ++ ((cs.drop 8).take 4 ++ (cs.drop 12).take 4)) := by
    have f3 : (cs.drop 12).take 4 = cs.drop 12 := List.take_of_length_le (by simp; omega)
    have f2 : (cs.drop 8).take 4 ++ cs.drop 12 = cs.drop 8 := by
      have := List.take_append_drop 4 (cs.drop 8)
      rwa [List.drop_drop] at this
    have f1 : (cs.drop 4).take 4 ++ cs.drop 8 = cs.drop 4 := by
      have := List.take_append_drop 4 (cs.drop 4)
      rwa [List.drop_drop] at this
    rw [f3, f2, f1]
    simp
  rw [this]
  simp only [Nat.zero_mul, Nat.one_mul] at e0 e1 e2 e3
  rw [e0, e1, e2, e3]
  rfl
end

set_option maxRecDepth 100000 in
theorem state_of {H : Type} {enc : TypeId × Value → H} {W : World} {sp : Nat → Bool} {hd : Bool} {b0 fuel : Nat} {cs : List Value} {x : DataW H × List MemPlace}
    (hf : DataW.trod enc Try.prog W b0 sp hd fuel 41 cs = some x) : ∃ (a : Option Addr) (l : List Pr) (cap : Nat), cs = [.slice a l.length cap] ∧ SlP W a cap l := by
  rcases Go.Deep.open_slice Try.underlying41 hf with ⟨hcs, hx⟩ | ⟨a, len, cap, m, n, D, Pl, hcs, _, hl, hm, hmm, hx, hel⟩
  · exact ⟨none, [], 0, hcs, .inl rfl, Nat.le_refl _, by simp [maxLen], fun _ => rfl⟩
  · have hlm : len ≤ m := by rw [hmm]; split <;> omega
    have hstr : ∀ i, i < len → ∃ q : Pr, W.cell? (a.add (i * 2)) = some (.string q.1) ∧ W.cell? (a.add (i * 2 + 1)) = some (.string q.2) := by
      intro i hi
      obtain ⟨cs', hc, ht⟩ := hel i (by omega)
      rw [cellsPair] at hc
      obtain ⟨y0, y1, k, _, hcl, h0, h1⟩ := trod_struct2 Try.underlying74 ht
      obtain ⟨_, hlen2, hat⟩ := World.cells?_some hc
      simp [cellsString] at h0 h1
      obtain ⟨s, e0, _⟩ := DataW.trod_string Try.underlying9 h0
      obtain ⟨t, e1, _⟩ := DataW.trod_string Try.underlying9 h1
      match cs', hlen2 with
      | [x, y], _ =>
        simp at e0 e1
        subst e0 e1
        refine ⟨(s, t), ?_, ?_⟩
        · have := hat 0 (by omega)
          rw [Go.Deep.add_add, Nat.add_zero] at this
          exact this
        · have := hat 1 (by omega)
          rw [Go.Deep.add_add] at this
          exact this
    obtain ⟨f, hf2⟩ := Go.Deep.choose_lt hstr
    refine ⟨some a, (List.range len).map f, cap, by rw [hcs]; simp, ?_, by simpa using hl, hm, fun e => by cases e⟩
    by_cases h0 : len = 0
    · left
      subst h0
      rfl
    · right
      obtain ⟨b, off, spot⟩ := a
      have hspot : spot = none := by
        have := World.cell?_spot (hf2 0 (by omega)).1
        simpa [Addr.add] using this
      subst hspot
      refine ⟨b, off, rfl, fun i u hu => ?_⟩
      obtain ⟨j, hj, ⟨rfl, rfl⟩ | ⟨rfl, rfl⟩⟩ := prs_range f len i u hu
      · have := (hf2 j hj).1
        rw [addr_add] at this
        exact this
      · have := (hf2 j hj).2
        rw [addr_add] at this
        exact this

set_option maxRecDepth 100000 in
theorem open_image {H : Type} {enc : TypeId × Value → H} {W : World} {base : Nat} {sp : Nat → Bool} {hd : Bool} {b0 : Nat} {v : Value} {d : DataW H} {p : List MemPlace}
    (hv : Value.okWide Try.prog W .any base 49 v) (h : DataW.Trod enc Try.prog W b0 sp hd 49 v d p) : ∃ (m : Im) (a : Option Addr) (cap : Nat), v = .agg (imA m.idx (.slice a m.st.length cap) m.tb) ∧ SlP W a cap m.st := by
  obtain ⟨cs, rfl, hsz⟩ := okWide_struct Try.underlying49 hv
  obtain ⟨fuel, hf⟩ := h
  have hf' : DataW.trod enc Try.prog W b0 sp hd fuel 49 cs.toList = some (d, p) := hf
  obtain ⟨y0, y1, y2, n, hl, h0, h1, h2⟩ := trod_str3 Try.underlying49 hf'
  rw [cImage] at hl
  simp only [cInt, cState, cTable] at h0 h1 h2
  obtain ⟨idx, q0, _⟩ := DataW.trod_int Try.underlying3 h0
  obtain ⟨t, q2⟩ := table_of h2
  obtain ⟨a, l, cap, q1, hs⟩ := state_of h1
  have e : cs.toList = (cs.toList.drop 0).take 1 ++ ((cs.toList.drop 1).take 1 ++ (cs.toList.drop 2).take 16) := by
    have f2 : (cs.toList.drop 2).take 16 = cs.toList.drop 2 := List.take_of_length_le (by simp at hl ⊢; omega)
    have f1 : (cs.toList.drop 1).take 1 ++ cs.toList.drop 2 = cs.toList.drop 1 := by
      have := List.take_append_drop 1 (cs.toList.drop 1)
      rwa [List.drop_drop] at this
    rw [f2, f1, List.drop_zero]
    exact (List.take_append_drop 1 _).symm
  rw [q0, q1, q2] at e
  refine ⟨⟨idx, l, t⟩, a, cap, ?_, hs⟩
  congr 1
  apply Array.toList_inj.1
  rw [e]
  rfl
set_option maxRecDepth 100000 in
theorem open_entry {H : Type} {enc : TypeId × Value → H} {W : World} {base : Nat} {sp : Nat → Bool} {hd : Bool} {b0 : Nat} {v : Value} {d : DataW H} {p : List MemPlace}
    (hv : Value.okWide Try.prog W .any base 80 v) (h : DataW.Trod enc Try.prog W b0 sp hd 80 v d p) : ∃ e : En, v = .agg (enA e) := by
  obtain ⟨⟨cs⟩, rfl, hsz⟩ := okWide_struct Try.underlying80 hv
  obtain ⟨fuel, hf⟩ := h
  have hf' : DataW.trod enc Try.prog W b0 sp hd fuel 80 cs = some (d, p) := hf
  obtain ⟨y0, y1, y2, y3, n, hl, h0, h1, h2, h3⟩ := trod_str4 Try.underlying80 hf'
  rw [cEntry] at hl
  obtain ⟨a0, a1, a2, a3, a4, a5, a6, rfl⟩ := list7 hl
  obtain ⟨u0, u1, u2, u3, k, _, e0, e1, e2, e3⟩ := trod_str4 Try.underlying61 h3
  simp [cOpn, cInt, cU8, cellsString] at h0 h1 h2 e0 e1 e2 e3
  obtain ⟨kd, q0, _⟩ := DataW.trod_int Try.underlying5 h0
  obtain ⟨cl, q1, _⟩ := DataW.trod_int Try.underlying3 h1
  obtain ⟨sq, q2, _⟩ := DataW.trod_int Try.underlying3 h2
  obtain ⟨ok, q3, _⟩ := DataW.trod_int Try.underlying5 e0
  obtain ⟨s1, q4, _⟩ := DataW.trod_string Try.underlying9 e1
  obtain ⟨s2, q5, _⟩ := DataW.trod_string Try.underlying9 e2
  obtain ⟨s3, q6, _⟩ := DataW.trod_string Try.underlying9 e3
  simp at q0 q1 q2 q3 q4 q5 q6
  subst q0 q1 q2 q3 q4 q5 q6
  exact ⟨⟨kd, cl, sq, ⟨ok, s1, s2, s3⟩⟩, rfl⟩
end Go.Proofs.Ytmnjmjbmnhppfaa

