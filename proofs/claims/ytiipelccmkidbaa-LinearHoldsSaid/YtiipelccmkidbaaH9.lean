/- LinearHolds: whether any places are an order of any history is what the chapter says. No condition. -/
import Derived.Test.YtiipelccmkidbaaRows
import Derived.Test.YtiipelccmkidbaaH8
import Derived.ProofKit
import Derived.Deep.Slices
import Derived.Deep.Strs
import Derived.Lib.SmallJoins
namespace Go.Proofs.Ytiipelccmkidbaa
open Go.ChangeShapes Go.WideShapes Go.ChangeAt Go.RowKit

section
variable {H : Type} {enc : TypeId × Value → H} {P : Program} {w : World} {base : Nat} {spare : Nat → Bool} {held : Bool}
theorem trod_struct5 {t : TypeId} {f0 f1 f2 f3 f4 : Field} {fuel : Nat} {cs : List Value} {x : DataW H × List MemPlace} (ht : P.underlying t = some (.struct #[f0, f1, f2, f3, f4])) (h : DataW.trod enc P w base spare held fuel t cs = some x) :
    ∃ y0 y1 y2 y3 y4 n, cs.length = P.cellsOf t ∧ DataW.trod enc P w base spare held n f0.type ((cs.drop f0.offset).take (P.cellsOf f0.type)) = some y0 ∧
      DataW.trod enc P w base spare held n f1.type ((cs.drop f1.offset).take (P.cellsOf f1.type)) = some y1 ∧ DataW.trod enc P w base spare held n f2.type ((cs.drop f2.offset).take (P.cellsOf f2.type)) = some y2 ∧
      DataW.trod enc P w base spare held n f3.type ((cs.drop f3.offset).take (P.cellsOf f3.type)) = some y3 ∧ DataW.trod enc P w base spare held n f4.type ((cs.drop f4.offset).take (P.cellsOf f4.type)) = some y4 := by
  obtain ⟨xs, n, _, rfl, hl, hlen, hf⟩ := DataW.trod_struct ht h
  match xs, hlen with
  | [y0, y1, y2, y3, y4], _ => exact ⟨y0, y1, y2, y3, y4, n, hl, by simpa using hf 0 f0 rfl, by simpa using hf 1 f1 rfl, by simpa using hf 2 f2 rfl, by simpa using hf 3 f3 rfl, by simpa using hf 4 f4 rfl⟩
end

theorem list10 {α : Type} {l : List α} (h : l.length = 10) : ∃ a0 a1 a2 a3 a4 a5 a6 a7 a8 a9, l = [a0, a1, a2, a3, a4, a5, a6, a7, a8, a9] := by
  match l, h with
  | [a0, a1, a2, a3, a4, a5, a6, a7, a8, a9], _ => exact ⟨a0, a1, a2, a3, a4, a5, a6, a7, a8, a9, rfl⟩

set_option maxRecDepth 100000 in
theorem call_of {H : Type} {enc : TypeId × Value → H} {W : World} {b0 : Nat} {sp : Nat → Bool} {hd : Bool} {fuel : Nat} {cs : List Value} {x : DataW H × List MemPlace}
    (h : DataW.trod enc Try.prog W b0 sp hd fuel 32 cs = some x) : ∃ c : Cl, cs = callC c := by
  obtain ⟨y0, y1, y2, y3, y4, n, hl, h0, h1, h2, h3, h4⟩ := trod_struct5 Try.underlying32 h
  rw [cellsCall] at hl
  obtain ⟨a0, a1, a2, a3, a4, a5, a6, a7, a8, a9, rfl⟩ := list10 hl
  obtain ⟨z0, z1, z2, z3, m, _, _, g0, g1, g2, g3⟩ := Go.Joins.trod_struct4 Try.underlying27 h1
  obtain ⟨u0, u1, u2, k, _, _, e0, e1, e2⟩ := Go.Deep.trod_struct3 Try.underlying30 h2
  simp [cellsOpn, cellsReply, cellsInt, cellsU8, cellsString, cellsBool, cellsErr] at h0 h3 h4 g0 g1 g2 g3 e0 e1 e2
  obtain ⟨cli, q0, _⟩ := DataW.trod_int Try.underlying3 h0
  obtain ⟨kd, q1, _⟩ := DataW.trod_int Try.underlying5 g0
  obtain ⟨s1, q2, _⟩ := DataW.trod_string Try.underlying9 g1
  obtain ⟨s2, q3, _⟩ := DataW.trod_string Try.underlying9 g2
  obtain ⟨s3, q4, _⟩ := DataW.trod_string Try.underlying9 g3
  obtain ⟨er, q5, _⟩ := DataW.trod_int Try.underlying28 e0
  obtain ⟨fo, q6, _⟩ := DataW.trod_bool Try.underlying4 e1
  obtain ⟨va, q7, _⟩ := DataW.trod_string Try.underlying9 e2
  obtain ⟨st, q8, _⟩ := DataW.trod_int Try.underlying3 h3
  obtain ⟨en, q9, _⟩ := DataW.trod_int Try.underlying3 h4
  simp at q0 q1 q2 q3 q4 q5 q6 q7 q8 q9
  subst q0 q1 q2 q3 q4 q5 q6 q7 q8 q9
  exact ⟨⟨cli, ⟨kd, s1, s2, s3⟩, ⟨er, fo, va⟩, st, en⟩, rfl⟩

theorem calls_range (f : Nat → Cl) (n i : Nat) (u : Value) (h : (calls ((List.range n).map f))[i]? = some u) : ∃ j r, j < n ∧ r < 10 ∧ i = j * 10 + r ∧ (callC (f j))[r]? = some u := by
  have hi := (List.getElem?_eq_some_iff.1 h).1
  rw [calls_len, List.length_map, List.length_range] at hi
  have hj : i / 10 < n := by omega
  have hget : ((List.range n).map f)[i / 10]? = some (f (i / 10)) := by simp [hj]
  have hr : i % 10 < 10 := Nat.mod_lt _ (by omega)
  obtain ⟨v, hv⟩ : ∃ v, (callC (f (i / 10)))[i % 10]? = some v := ⟨_, List.getElem?_eq_getElem (by simpa [callC] using hr)⟩
  have := calls_at hget (i % 10) v hv
  rw [show i / 10 * 10 + i % 10 = i by omega, h] at this
  refine ⟨i / 10, i % 10, hj, hr, by omega, ?_⟩
  rw [hv, ← this]

set_option maxRecDepth 100000 in
theorem open_calls {H : Type} {enc : TypeId × Value → H} {W : World} {base : Nat} {sp : Nat → Bool} {hd : Bool} {b0 : Nat} {v : Value} {d : DataW H} {p : List MemPlace}
    (hv : Value.okWide Try.prog W .any base 22 v) (h : DataW.Trod enc Try.prog W b0 sp hd 22 v d p) : ∃ (a : Option Addr) (l : List Cl) (cap : Nat), v = .slice a l.length cap ∧ SlC W a cap l := by
  obtain ⟨a0, len, cap, rfl⟩ := okWide_slice Try.underlying22 hv
  obtain ⟨fuel, hf⟩ := h
  rcases Go.Deep.open_slice Try.underlying22 hf with ⟨hcs, hx⟩ | ⟨a, len', cap', m, n, D, Pl, hcs, _, hl, hm, hmm, hx, hel⟩
  · simp [Value.cells] at hcs
    obtain ⟨rfl, rfl, rfl⟩ := hcs
    exact ⟨none, [], 0, rfl, .inl rfl, Nat.le_refl _, by simp [maxLen]⟩
  · simp [Value.cells] at hcs
    obtain ⟨rfl, rfl, rfl⟩ := hcs
    have hlm : len ≤ m := by rw [hmm]; split <;> omega
    have hstr : ∀ i, i < len → ∃ c : Cl, ∀ r u, (callC c)[r]? = some u → W.cell? (a.add (i * 10 + r)) = some u := by
      intro i hi
      obtain ⟨cs', hc, ht⟩ := hel i (by omega)
      rw [cellsCall] at hc
      obtain ⟨_, hlen2, hat⟩ := World.cells?_some hc
      obtain ⟨c, rfl⟩ := call_of ht
      refine ⟨c, fun r u hr => ?_⟩
      have hlt := (List.getElem?_eq_some_iff.1 hr).1
      have := hat r (by simpa [callC] using hlt)
      rw [Go.Deep.add_add] at this
      rw [this, ← hr, List.getElem?_eq_getElem hlt]
    obtain ⟨f, hf2⟩ := Go.Deep.choose_lt hstr
    refine ⟨some a, (List.range len).map f, cap, by simp, ?_, by simpa using hl, hm⟩
    by_cases h0 : len = 0
    · left
      subst h0
      rfl
    · right
      obtain ⟨b, off, spot⟩ := a
      have hspot : spot = none := by
        have := World.cell?_spot (hf2 0 (by omega) 0 _ rfl)
        simpa [Addr.add] using this
      subst hspot
      refine ⟨b, off, rfl, fun i u hu => ?_⟩
      obtain ⟨j, r, hj, _, rfl, hr⟩ := calls_range f len i u hu
      have := hf2 j hj r u hr
      rw [addr_add] at this
      exact this

theorem Tryown : ownKnob Try.prog.godebug = none := by kernel_rfl
theorem Trylaid : laidOutB Try.prog = true := by kernel_rfl

set_option maxRecDepth 100000 in
theorem linear_lifted (os : Os) (started : os.Started) (H : Type) (enc : TypeId × Value → H) :
    ReturnsInHanded {} Try.checked os 3 .any (Rows.linearHoldsSpec.pre6 enc Try.prog Try.f3 Rows.linearHoldsRow.domain false) (Rows.linearHoldsSpec.post enc Try.prog Try.f3 false true false false) := by
  refine returnsInHanded_of_change (C := Try.checked) Tryown started (by kernel_rfl) Try.func3
    (ChangeSpec.witness6 (enc := enc) (C := Try.checked) false ⟨#[], #[.slice none 0 0, .slice none 0 0], []⟩ 8 (by kernel_rfl) (by kernel_rfl) (by kernel_rfl) (by kernel_rfl)) ?_
  intro W base args ds gs before hval0 hW hcnd _
  have hval : ∀ (j : Nat) t v, Try.f3.params[j]? = some t → args[j]? = some v → Value.okWide Try.prog W .any base t v := hval0
  have hW' := hW
  obtain ⟨p, q, hA0, hV, rfl, hfz, hnd⟩ := hW
  have hA : DataW.TrodAll enc Try.prog W 0 (fun _ => true) true Try.f3.params.toList args.toList ds p := hA0
  rw [Try.params3] at hA hval
  obtain ⟨v0, v1, d0, d1, p0, p1, rfl, rfl, rfl, h0, h1⟩ := trodAll_two hA
  obtain ⟨rfl, rfl⟩ := trodVars_none hV
  obtain ⟨a, l, cap, rfl, hs⟩ := open_calls (hval 0 22 v0 rfl rfl) h0
  obtain ⟨b, q, bcap, rfl, hq, hle, hmx, _⟩ := open_row_ints Try.underlying23 Try.underlying3 cellsInt (hval 1 23 v1 rfl rfl) h1
  clear hA0 hval0
  refine (linear_law a cap l b bcap q W hs ⟨hq, hle, hmx⟩).mono fun e W' ⟨he, hb⟩ => ?_
  subst he
  exact ⟨_, rfl, law_post Trylaid (by kernel_rfl) rfl Try.underlying4 rfl ⟨rfl, rfl, rfl⟩ hW' hb⟩

theorem linear_holds : Rows.LinearHoldsSaid :=
  OpenClaim.holds_of_wide 3 Try.f3 rfl rfl rfl rfl rfl rfl rfl ⟨rfl, rfl, rfl, rfl, rfl⟩ rfl rfl rfl rfl rfl (by kernel_rfl) Try.func3 (by kernel_rfl)
    (of_decide_eq_true (by kernel_rfl)) (by unfold Func.isWrapper; first | (rw [if_pos (by decide +kernel)]; kernel_rfl) | (rw [if_neg (by decide +kernel)]; exact ⟨rfl, rfl⟩))
    (fun os started H enc _ => linear_lifted os started H enc)
end Go.Proofs.Ytiipelccmkidbaa
