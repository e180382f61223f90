/- How the laws' arguments are opened: a state, a text, an operation. -/
import Derived.Test.YtmnjmjbmnhppfaaRows
import Derived.Test.YtmnjmjbmnhppfaaK2
import Derived.Test.YtmnjmjbmnhppfaaOpen
import Derived.Deep.Slices
import Derived.ProofKit
import Derived.Lib.SmallJoins
namespace Go.Proofs.Ytmnjmjbmnhppfaa
open Go.ChangeShapes Go.WideShapes Go.ChangeAt Go.RowKit

theorem cellsPair : Try.prog.cellsOf 74 = 2 := by kernel_rfl
theorem cellsString : Try.prog.cellsOf 9 = 1 := by kernel_rfl
instance : Inhabited Pr := ⟨(⟨#[]⟩, ⟨#[]⟩)⟩

theorem prs_range (f : Nat → Pr) : ∀ (n i : Nat) (u : Value), (prs ((List.range n).map f))[i]? = some u → ∃ j, j < n ∧ ((i = j * 2 ∧ u = .string (f j).1) ∨ (i = j * 2 + 1 ∧ u = .string (f j).2)) := by
  intro n i u h
  have hi := (List.getElem?_eq_some_iff.1 h).1
  rw [prs_len, List.length_map, List.length_range] at hi
  have hj : i / 2 < n := by omega
  have hget : ((List.range n).map f)[i / 2]? = some (f (i / 2)) := by simp [hj]
  obtain ⟨h1, h2⟩ := prs_at hget
  refine ⟨i / 2, hj, ?_⟩
  rcases Nat.mod_two_eq_zero_or_one i with hm | hm
  · left
    have e : i = i / 2 * 2 := by omega
    refine ⟨e, ?_⟩
    rw [← e, h] at h1
    exact Option.some.inj h1
  · right
    have e : i = i / 2 * 2 + 1 := by omega
    refine ⟨e, ?_⟩
    rw [← e, h] at h2
    exact Option.some.inj h2

set_option maxRecDepth 100000 in
theorem open_state {H : Type} {enc : TypeId × Value → H} {W : World} {base : Nat} {sp : Nat → Bool} {hd : Bool} {b0 : Nat} {v : Value} {d : DataW H} {p : List MemPlace}
    (hv : Value.okWide Try.prog W .any base 41 v) (h : DataW.Trod enc Try.prog W b0 sp hd 41 v d p) : ∃ (a : Option Addr) (l : List Pr) (cap : Nat), v = .slice a l.length cap ∧ SlP W a cap l := by
  obtain ⟨a0, len, cap, rfl⟩ := okWide_slice Try.underlying41 hv
  obtain ⟨fuel, hf⟩ := h
  rcases Go.Deep.open_slice Try.underlying41 hf with ⟨hcs, hx⟩ | ⟨a, len', cap', m, n, D, Pl, hcs, _, hl, hm, hmm, hx, hel⟩
  · simp [Value.cells] at hcs
    obtain ⟨rfl, rfl, rfl⟩ := hcs
    exact ⟨none, [], 0, rfl, .inl rfl, Nat.le_refl _, by simp [maxLen], fun _ => rfl⟩
  · simp [Value.cells] at hcs
    obtain ⟨rfl, rfl, rfl⟩ := hcs
    have hlm : len ≤ m := by rw [hmm]; split <;> omega
    have hstr : ∀ i, i < len → ∃ q : Pr, W.cell? (a.add (i * 2)) = some (.string q.1) ∧ W.cell? (a.add (i * 2 + 1)) = some (.string q.2) := by
      intro i hi
      obtain ⟨cs', hc, ht⟩ := hel i (by omega)
      rw [cellsPair] at hc
      obtain ⟨y0, y1, k, _, hcl, h0, h1⟩ := trod_struct2 Try.underlying74 ht
      obtain ⟨_, hlen2, hat⟩ := World.cells?_some hc
      simp [cellsString] at h0 h1
      obtain ⟨s, e0, _⟩ := DataW.trod_string Try.underlying9 h0
      obtain ⟨t, e1, _⟩ := DataW.trod_string Try.underlying9 h1
      match cs', hlen2 with
      | [x, y], _ =>
        simp at e0 e1
        subst e0 e1
        refine ⟨(s, t), ?_, ?_⟩
        · have := hat 0 (by omega)
          rw [Go.Deep.add_add, Nat.add_zero] at this
          exact this
        · have := hat 1 (by omega)
          rw [Go.Deep.add_add] at this
          exact this
    obtain ⟨f, hf2⟩ := Go.Deep.choose_lt hstr
    refine ⟨some a, (List.range len).map f, cap, by simp, ?_, by simpa using hl, hm, fun e => by cases e⟩
    by_cases h0 : len = 0
    · left
      subst h0
      rfl
    · right
      obtain ⟨b, off, spot⟩ := a
      have hspot : spot = none := by
        have := World.cell?_spot (hf2 0 (by omega)).1
        simpa [Addr.add] using this
      subst hspot
      refine ⟨b, off, rfl, fun i u hu => ?_⟩
      obtain ⟨j, hj, ⟨rfl, rfl⟩ | ⟨rfl, rfl⟩⟩ := prs_range f len i u hu
      · have := (hf2 j hj).1
        rw [addr_add] at this
        exact this
      · have := (hf2 j hj).2
        rw [addr_add] at this
        exact this
end Go.Proofs.Ytmnjmjbmnhppfaa
