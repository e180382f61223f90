/- KvStays: from whatever operations comes a state that may be; keys that are not named keep their values; a put that is done is got, a deleted key is not; what is refused changes nothing. No condition. -/
import Derived.Test.YtmnjmjbmnhppfaaRows
import Derived.Test.YtmnjmjbmnhppfaaK32
import Derived.Test.YtmnjmjbmnhppfaaOS
import Derived.ProofKit
import Derived.ChangeMaps5
import Derived.Deep.Slices
import Derived.Lib.SmallJoins
namespace Go.Proofs.Ytmnjmjbmnhppfaa
open Go.ChangeShapes Go.WideShapes Go.ChangeAt Go.RowKit

theorem cellsU8 : Try.prog.cellsOf 5 = 1 := by kernel_rfl
theorem cellsOpn : Try.prog.cellsOf 61 = 4 := by kernel_rfl
instance : Inhabited Opn := ⟨⟨0, ⟨#[]⟩, ⟨#[]⟩, ⟨#[]⟩⟩⟩

theorem ops_range (f : Nat → Opn) : ∀ (n i : Nat) (u : Value), (ops ((List.range n).map f))[i]? = some u → ∃ j, j < n ∧ ((i = j * 4 ∧ u = .int .u8 (f j).kind) ∨ (i = j * 4 + 1 ∧ u = .string (f j).key) ∨ (i = j * 4 + 2 ∧ u = .string (f j).old) ∨ (i = j * 4 + 3 ∧ u = .string (f j).val)) := by
  intro n i u h
  have hi := (List.getElem?_eq_some_iff.1 h).1
  rw [ops_len, List.length_map, List.length_range] at hi
  have hj : i / 4 < n := by omega
  have hget : ((List.range n).map f)[i / 4]? = some (f (i / 4)) := by simp [hj]
  obtain ⟨h0, h1, h2, h3⟩ := ops_at hget
  refine ⟨i / 4, hj, ?_⟩
  have hm : i % 4 = 0 ∨ i % 4 = 1 ∨ i % 4 = 2 ∨ i % 4 = 3 := by omega
  rcases hm with hm | hm | hm | hm
  · have e : i = i / 4 * 4 := by omega
    rw [← e, h] at h0
    exact .inl ⟨e, Option.some.inj h0⟩
  · have e : i = i / 4 * 4 + 1 := by omega
    rw [← e, h] at h1
    exact .inr (.inl ⟨e, Option.some.inj h1⟩)
  · have e : i = i / 4 * 4 + 2 := by omega
    rw [← e, h] at h2
    exact .inr (.inr (.inl ⟨e, Option.some.inj h2⟩))
  · have e : i = i / 4 * 4 + 3 := by omega
    rw [← e, h] at h3
    exact .inr (.inr (.inr ⟨e, Option.some.inj h3⟩))

set_option maxRecDepth 100000 in
theorem open_opns {H : Type} {enc : TypeId × Value → H} {W : World} {base : Nat} {sp : Nat → Bool} {hd : Bool} {b0 : Nat} {v : Value} {d : DataW H} {p : List MemPlace}
    (hv : Value.okWide Try.prog W .any base 76 v) (h : DataW.Trod enc Try.prog W b0 sp hd 76 v d p) : ∃ (a : Option Addr) (l : List Opn) (cap : Nat), v = .slice a l.length cap ∧ SlO W a cap l := by
  obtain ⟨a0, len, cap, rfl⟩ := okWide_slice Try.underlying76 hv
  obtain ⟨fuel, hf⟩ := h
  rcases Go.Deep.open_slice Try.underlying76 hf with ⟨hcs, hx⟩ | ⟨a, len', cap', m, n, D, Pl, hcs, _, hl, hm, hmm, hx, hel⟩
  · simp [Value.cells] at hcs
    obtain ⟨rfl, rfl, rfl⟩ := hcs
    exact ⟨none, [], 0, rfl, .inl rfl, Nat.le_refl _, by simp [maxLen]⟩
  · simp [Value.cells] at hcs
    obtain ⟨rfl, rfl, rfl⟩ := hcs
    have hlm : len ≤ m := by rw [hmm]; split <;> omega
    have hstr : ∀ i, i < len → ∃ q : Opn, W.cell? (a.add (i * 4)) = some (.int .u8 q.kind) ∧ W.cell? (a.add (i * 4 + 1)) = some (.string q.key) ∧ W.cell? (a.add (i * 4 + 2)) = some (.string q.old) ∧ W.cell? (a.add (i * 4 + 3)) = some (.string q.val) := by
      intro i hi
      obtain ⟨cs', hc, ht⟩ := hel i (by omega)
      rw [cellsOpn] at hc
      obtain ⟨_, hlen2, hat⟩ := World.cells?_some hc
      obtain ⟨y0, y1, y2, y3, k, _, hcl, h0, h1, h2, h3⟩ := Go.Joins.trod_struct4 Try.underlying61 ht
      simp [cellsString, cellsU8] at h0 h1 h2 h3
      obtain ⟨z, e0, _⟩ := DataW.trod_int Try.underlying5 h0
      obtain ⟨s1, e1, _⟩ := DataW.trod_string Try.underlying9 h1
      obtain ⟨s2, e2, _⟩ := DataW.trod_string Try.underlying9 h2
      obtain ⟨s3, e3, _⟩ := DataW.trod_string Try.underlying9 h3
      match cs', hlen2 with
      | [x0, x1, x2, x3], _ =>
        simp at e0 e1 e2 e3
        subst e0 e1 e2 e3
        refine ⟨⟨z, s1, s2, s3⟩, ?_, ?_, ?_, ?_⟩
        · have := hat 0 (by omega)
          rw [Go.Deep.add_add, Nat.add_zero] at this
          exact this
        · have := hat 1 (by omega)
          rw [Go.Deep.add_add] at this
          exact this
        · have := hat 2 (by omega)
          rw [Go.Deep.add_add] at this
          exact this
        · have := hat 3 (by omega)
          rw [Go.Deep.add_add] at this
          exact this
    obtain ⟨f, hf2⟩ := Go.Deep.choose_lt hstr
    refine ⟨some a, (List.range len).map f, cap, by simp, ?_, by simpa using hl, hm⟩
    by_cases h0 : len = 0
    · left
      subst h0
      rfl
    · right
      obtain ⟨b, off, spot⟩ := a
      have hspot : spot = none := by
        have := World.cell?_spot (hf2 0 (by omega)).1
        simpa [Addr.add] using this
      subst hspot
      refine ⟨b, off, rfl, fun i u hu => ?_⟩
      obtain ⟨j, hj, ⟨rfl, rfl⟩ | ⟨rfl, rfl⟩ | ⟨rfl, rfl⟩ | ⟨rfl, rfl⟩⟩ := ops_range f len i u hu
      · have := (hf2 j hj).1
        rw [addr_add] at this
        exact this
      · have := (hf2 j hj).2.1
        rw [addr_add] at this
        exact this
      · have := (hf2 j hj).2.2.1
        rw [addr_add] at this
        exact this
      · have := (hf2 j hj).2.2.2
        rw [addr_add] at this
        exact this

theorem Tryown : ownKnob Try.prog.godebug = none := by kernel_rfl
theorem Trylaid : laidOutB Try.prog = true := by kernel_rfl

set_option maxRecDepth 100000 in
theorem stays_lifted (os : Os) (started : os.Started) (H : Type) (enc : TypeId × Value → H) :
    ReturnsInHanded {} Try.checked os 9 .any (Rows.kvStaysSpec.pre6 enc Try.prog Try.f9 Rows.kvStaysRow.domain false) (Rows.kvStaysSpec.post enc Try.prog Try.f9 false true false false) := by
  refine returnsInHanded_of_change (C := Try.checked) Tryown started (by kernel_rfl) Try.func9
    (ChangeSpec.witness6 (enc := enc) (C := Try.checked) false ⟨#[], #[.slice none 0 0, .slice none 0 0], []⟩ 8 (by kernel_rfl) (by kernel_rfl) (by kernel_rfl) (by kernel_rfl)) ?_
  intro W base args ds gs before hval0 hW hcnd _
  have hval : ∀ (j : Nat) t v, Try.f9.params[j]? = some t → args[j]? = some v → Value.okWide Try.prog W .any base t v := hval0
  have hW' := hW
  obtain ⟨p, q, hA0, hV, rfl, hfz, hnd⟩ := hW
  have hA : DataW.TrodAll enc Try.prog W 0 (fun _ => true) true Try.f9.params.toList args.toList ds p := hA0
  rw [Try.params9] at hA hval
  obtain ⟨v0, v1, d0, d1, p0, p1, rfl, rfl, rfl, h0, h1⟩ := trodAll_two hA
  obtain ⟨rfl, rfl⟩ := trodVars_none hV
  obtain ⟨a, l, cap, rfl, hs⟩ := open_state (hval 0 41 v0 rfl rfl) h0
  obtain ⟨b, m, bcap, rfl, ho⟩ := open_opns (hval 1 76 v1 rfl rfl) h1
  clear hA0 hval0
  refine (stays_law a cap l b bcap m W hs ho).mono fun e W' ⟨he, hb⟩ => ?_
  subst he
  exact ⟨_, rfl, law_post Trylaid (by kernel_rfl) rfl Try.underlying4 rfl ⟨rfl, rfl, rfl⟩ hW' hb⟩

theorem stays_holds : Rows.KvStaysSaid :=
  OpenClaim.holds_of_wide 9 Try.f9 rfl rfl rfl rfl rfl rfl rfl ⟨rfl, rfl, rfl, rfl, rfl⟩ rfl rfl rfl rfl rfl (by kernel_rfl) Try.func9 (by kernel_rfl)
    (of_decide_eq_true (by kernel_rfl)) (by unfold Func.isWrapper; first | (rw [if_pos (by decide +kernel)]; kernel_rfl) | (rw [if_neg (by decide +kernel)]; exact ⟨rfl, rfl⟩))
    (fun os started H enc _ => stays_lifted os started H enc)
end Go.Proofs.Ytmnjmjbmnhppfaa
