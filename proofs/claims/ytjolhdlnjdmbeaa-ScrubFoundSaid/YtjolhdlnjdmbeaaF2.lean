/- ScrubFound: whatever steps come, what is noted is rising, live, each once, and just what the last marks say; a greater snapshot drops the rest. Outside the guard nothing is asked. No condition. -/
import Derived.Test.YtjolhdlnjdmbeaaRows
import Derived.Test.YtjolhdlnjdmbeaaF1
import Derived.Test.YtjolhdlnjdmbeaaOpen
import Derived.Test.YtjolhdlnjdmbeaaRows
import Derived.WalkKit
import Derived.WalkSpells
import Derived.WalkLawsBesides
import Derived.Handy
import Derived.Deep.QuietTactic
import Derived.BigQuiet
import Derived.Deep.DeepCutAuto
import Derived.Lib.Hide
import Derived.RegionTactic
import Derived.ChangeAlike
import Derived.ProofKit
import Derived.Deep.SlicePairs
namespace Go.Proofs.Ytjolhdlnjdmbeaa
open Go.ChangeShapes Go.WideShapes Go.ChangeAt Go.RowKit

set_option maxRecDepth 100000 in
set_option maxHeartbeats 1000000 in
theorem found_bad (a : Option Addr) (cap : Nat) (len : Nat) (snap later : Int) (w : World) (hm : len ≤ maxLen) (h : snap < 0 ∨ (0 ≤ snap ∧ 1099511627752 < snap) ∨ (0 ≤ snap ∧ snap ≤ 1099511627752 ∧ 80 < len)) :
    Calls Try.prog 5 #[.int .i64 snap, .slice a len cap, .int .i64 later] w fun e w' => e = .returned (.bool true) ∧ Below w.heap.size w w' := by
  unfold maxLen at hm
  rcases h with h | ⟨h1, h2⟩ | ⟨h1, h2, h3⟩
  all_goals
    go_enter Try.func5, Try.ntmps5
    go_wp2_with (go_at_call 13; refine (awake_true _).mono ?_; rintro e w1 ⟨rfl, hb1⟩)
    go_ret
    exact ⟨rfl, hb1⟩

theorem found_law (a : Option Addr) (cap : Nat) (l : List (Int × Bool)) (snap later : Int) (w : World) (hrow : Row w a (stepCells l)) (hm : l.length ≤ maxLen) :
    Calls Try.prog 5 #[.int .i64 snap, .slice a l.length cap, .int .i64 later] w fun e w' => e = .returned (.bool true) ∧ Below w.heap.size w w' := by
  by_cases h1 : 0 ≤ snap
  · by_cases h2 : snap ≤ 1099511627752
    · by_cases h3 : l.length ≤ 80
      · exact found_ok a cap l snap later w hrow h1 h2 h3
      · exact found_bad a cap _ snap later w hm (by omega)
    · exact found_bad a cap _ snap later w hm (by omega)
  · exact found_bad a cap _ snap later w hm (by omega)

theorem Tryown : ownKnob Try.prog.godebug = none := by kernel_rfl
theorem Trylaid : laidOutB Try.prog = true := by kernel_rfl
theorem cellsStep : Try.prog.cellsOf 36 = 2 := by kernel_rfl
theorem cellsI : Try.prog.cellsOf 3 = 1 := by kernel_rfl
theorem cellsB : Try.prog.cellsOf 4 = 1 := by kernel_rfl

theorem open_steps {H : Type} {enc : TypeId × Value → H} {W : World} {base : Nat} {sp : Nat → Bool} {hd : Bool} {b0 : Nat} {v : Value} {d : DataW H} {p : List MemPlace}
    (hv : Value.okWide Try.prog W .any base 32 v) (h : DataW.Trod enc Try.prog W b0 sp hd 32 v d p) :
    ∃ (a : Option Addr) (l : List (Int × Bool)) (cap : Nat), v = .slice a l.length cap ∧ Row W a (stepCells l) ∧ l.length ≤ maxLen := by
  obtain ⟨a0, len, cap, rfl⟩ := okWide_slice Try.underlying32 hv
  obtain ⟨fuel, hf⟩ := h
  rcases Go.Deep.open_slice_pairs Try.underlying32 Try.underlying36 cellsStep rfl rfl cellsI cellsB hf with ⟨hcs, hx⟩ | ⟨a, len', cap', m, n, V0, V1, D0, D1, P0, P1, hcs, _, hl, hm, hmm, hx, hall⟩
  · simp [Value.cells] at hcs
    obtain ⟨rfl, rfl, rfl⟩ := hcs
    exact ⟨none, [], 0, rfl, .inl rfl, by simp⟩
  · simp [Value.cells] at hcs
    obtain ⟨rfl, rfl, rfl⟩ := hcs
    have hlm : len ≤ m := by rw [hmm]; split <;> omega
    have hea : ∀ i, i < m → ∃ s : Int × Bool, V0 i = .int .i64 s.1 ∧ V1 i = .bool s.2 := fun i hi => by
      obtain ⟨_, _, h0, h1⟩ := hall i hi
      obtain ⟨x, e0, _, _⟩ := DataW.trod_int Try.underlying3 h0
      obtain ⟨y, e1, _⟩ := DataW.trod_bool Try.underlying4 h1
      simp only [List.cons.injEq, and_true] at e0 e1
      exact ⟨(x, y), e0, e1⟩
    have hex : ∃ f : Nat → Int × Bool, ∀ i, i < m → V0 i = .int .i64 (f i).1 ∧ V1 i = .bool (f i).2 := by
      refine ⟨fun i => if h : i < m then Classical.choose (hea i h) else (0, false), fun i hi => ?_⟩
      simp only [hi, dif_pos]
      exact Classical.choose_spec (hea i hi)
    obtain ⟨f, hfx⟩ := hex
    refine ⟨some a, (List.range len).map f, cap, by simp, ?_, by simp; omega⟩
    by_cases h0 : len = 0
    · left; simp [h0, stepCells]
    · right
      obtain ⟨b, off, spot⟩ := a
      have hspot : spot = none := by simpa [Addr.add] using World.cell?_spot (hall 0 (by omega)).1
      subst hspot
      refine ⟨b, off, rfl, fun i u hu => ?_⟩
      have hi := (List.getElem?_eq_some_iff.1 hu).1
      rw [stepCells_len] at hi
      simp only [List.length_map, List.length_range] at hi
      have hat := stepCells_at ((List.range len).map f) (i / 2) (f (i / 2)) (by simp [show i / 2 < len by omega])
      have hc := hall (i / 2) (by omega)
      have hfx2 := hfx (i / 2) (by omega)
      rcases Nat.mod_two_eq_zero_or_one i with h2 | h2
      · have e : i / 2 * 2 = i := by omega
        rw [e] at hat
        rw [hat.1] at hu
        cases hu
        have h3 := hc.1
        rw [addr_add, e, hfx2.1] at h3
        exact h3
      · have e : i / 2 * 2 + 1 = i := by omega
        rw [e] at hat
        rw [hat.2] at hu
        cases hu
        have h3 := hc.2.1
        rw [addr_add, e, hfx2.2] at h3
        exact h3

set_option maxRecDepth 100000 in
theorem found_lifted (os : Os) (started : os.Started) (H : Type) (enc : TypeId × Value → H) :
    ReturnsInHanded {} Try.checked os 5 .any (Rows.scrubFoundSpec.pre6 enc Try.prog Try.f5 Rows.scrubFoundRow.domain false) (Rows.scrubFoundSpec.post enc Try.prog Try.f5 false true false false) := by
  refine returnsInHanded_of_change (C := Try.checked) Tryown started (by kernel_rfl) Try.func5
    (ChangeSpec.witness6 (enc := enc) (C := Try.checked) false ⟨#[], #[.int .i64 0, .slice none 0 0, .int .i64 0], []⟩ 8 (by kernel_rfl) (by kernel_rfl) (by kernel_rfl) (by kernel_rfl)) ?_
  intro W base args ds gs before hval0 hW hcnd _
  have hval : ∀ (j : Nat) t v, Try.f5.params[j]? = some t → args[j]? = some v → Value.okWide Try.prog W .any base t v := hval0
  have hW' := hW
  obtain ⟨p, q, hA0, hV, rfl, hfz, hnd⟩ := hW
  have hA : DataW.TrodAll enc Try.prog W 0 (fun _ => true) true Try.f5.params.toList args.toList ds p := hA0
  rw [Try.params5] at hA hval
  obtain ⟨v0, v1, v2, d0, d1, d2, p0, p1, p2, rfl, rfl, rfl, h0, h1, h2⟩ := trodAll_three hA
  obtain ⟨rfl, rfl⟩ := trodVars_none hV
  obtain ⟨sn, rfl, rfl, rfl, w1⟩ := open_int Try.underlying3 (hval 0 3 v0 rfl rfl) h0
  obtain ⟨a, l, cap, rfl, hrow, hlm⟩ := open_steps (hval 1 32 v1 rfl rfl) h1
  obtain ⟨la, rfl, rfl, rfl, w2⟩ := open_int Try.underlying3 (hval 2 3 v2 rfl rfl) h2
  clear hA0 hval0
  refine (found_law a cap l sn la W hrow hlm).mono fun e W' ⟨he, hb⟩ => ?_
  subst he
  exact ⟨_, rfl, law_post Trylaid (by kernel_rfl) rfl Try.underlying4 rfl ⟨rfl, rfl, rfl⟩ hW' hb⟩

theorem found_holds : Rows.ScrubFoundSaid :=
  OpenClaim.holds_of_wide 5 Try.f5 rfl rfl rfl rfl rfl rfl rfl ⟨rfl, rfl, rfl, rfl, rfl⟩ rfl rfl rfl rfl rfl (by kernel_rfl) Try.func5 (by kernel_rfl)
    (of_decide_eq_true (by kernel_rfl)) (by unfold Func.isWrapper; first | (rw [if_pos (by decide +kernel)]; kernel_rfl) | (rw [if_neg (by decide +kernel)]; exact ⟨rfl, rfl⟩))
    (fun os started H enc _ => found_lifted os started H enc)
end Go.Proofs.Ytjolhdlnjdmbeaa
