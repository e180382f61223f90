/- May a call be: both sides. -/
import Derived.Test.YtiipelccmkidbaaH1
import Derived.Test.YtiipelccmkidbaaRows
import Derived.WalkKit
import Derived.WalkSpells
import Derived.WalkLawsBesides
import Derived.Handy
import Derived.Deep.QuietTactic
import Derived.BigQuiet
import Derived.Deep.DeepCutAuto
import Derived.Lib.Hide
import Derived.RegionTactic
import Derived.ChangeAlike
import Derived.Laws.ResultCell
namespace Go.Proofs.Ytiipelccmkidbaa
open Go.RowKit

inductive Way (c : Cl) : Bool → Prop where
  | neg : ¬ 0 ≤ c.cli → Way c false
  | big : 0 ≤ c.cli → ¬ c.cli < 4 → Way c false
  | op : 0 ≤ c.cli → c.cli < 4 → mayO c.op = false → Way c false
  | early : 0 ≤ c.cli → c.cli < 4 → mayO c.op = true → ¬ 1 ≤ c.st → Way c false
  | ends : 0 ≤ c.cli → c.cli < 4 → mayO c.op = true → 1 ≤ c.st → c.en ≠ 0 → c.st < c.en → Way c true
  | not : 0 ≤ c.cli → c.cli < 4 → mayO c.op = true → 1 ≤ c.st → c.en ≠ 0 → ¬ c.st < c.en → Way c false
  | err : 0 ≤ c.cli → c.cli < 4 → mayO c.op = true → 1 ≤ c.st → c.en = 0 → c.rep.err ≠ 0 → Way c false
  | found : 0 ≤ c.cli → c.cli < 4 → mayO c.op = true → 1 ≤ c.st → c.en = 0 → c.rep.err = 0 → c.rep.found = true → Way c false
  | val : 0 ≤ c.cli → c.cli < 4 → mayO c.op = true → 1 ≤ c.st → c.en = 0 → c.rep.err = 0 → c.rep.found = false → c.rep.val.size ≠ 0 → Way c false
  | pends : 0 ≤ c.cli → c.cli < 4 → mayO c.op = true → 1 ≤ c.st → c.en = 0 → c.rep.err = 0 → c.rep.found = false → c.rep.val = ⟨#[]⟩ → Way c true

theorem way_of (c : Cl) : Way c (mayC c) := by
  by_cases h0 : 0 ≤ c.cli
  case neg => have : mayC c = false := by simp [mayC, h0]
              rw [this]; exact .neg h0
  by_cases h1 : c.cli < 4
  case neg => have : mayC c = false := by simp [mayC, h1]
              rw [this]; exact .big h0 h1
  cases h2 : mayO c.op
  case false => have : mayC c = false := by simp [mayC, h2]
                rw [this]; exact .op h0 h1 h2
  by_cases h3 : 1 ≤ c.st
  case neg => have : mayC c = false := by simp [mayC, h3]
              rw [this]; exact .early h0 h1 h2 h3
  by_cases h4 : c.en = 0
  case neg =>
    by_cases h5 : c.st < c.en
    · have : mayC c = true := by simp [mayC, h0, h1, h2, h3, h5]
      rw [this]; exact .ends h0 h1 h2 h3 h4 h5
    · have : mayC c = false := by simp [mayC, h4, h5]
      rw [this]; exact .not h0 h1 h2 h3 h4 h5
  have h5 : ¬ c.st < c.en := by omega
  by_cases h6 : c.rep.err = 0
  case neg => have : mayC c = false := by simp [mayC, nilR, h5, h6]
              rw [this]; exact .err h0 h1 h2 h3 h4 h6
  cases h7 : c.rep.found
  case true => have : mayC c = false := by simp [mayC, nilR, h5, h7]
               rw [this]; exact .found h0 h1 h2 h3 h4 h6 h7
  by_cases h8 : c.rep.val.size = 0
  · have h9 := tx_nil h8
    have : mayC c = true := by simp [mayC, nilR, h0, h1, h2, h3, h4, h6, h7, h9]
    rw [this]; exact .pends h0 h1 h2 h3 h4 h6 h7 h9
  · have h9 : ¬ c.rep.val.toList = [] := by
      have := (tx_some h8).1
      rw [List.isEmpty_eq_false_iff] at this
      exact this
    have : mayC c = false := by simp [mayC, nilR, h5, h9]
    rw [this]; exact .val h0 h1 h2 h3 h4 h6 h7 h8

theorem ten {w : World} {g : Nat} {x0 x1 x2 x3 x4 x5 x6 x7 x8 x9 : Value} {T : TypeId} (h : w.heap[g]? = some (.cells #[x0, x1, x2, x3, x4, x5, x6, x7, x8, x9] T (0, 0))) :
    w.cell? ⟨g, 0, none⟩ = some x0 ∧ w.cell? ⟨g, 1, none⟩ = some x1 ∧ w.cell? ⟨g, 2, none⟩ = some x2 ∧ w.cell? ⟨g, 3, none⟩ = some x3 ∧ w.cell? ⟨g, 4, none⟩ = some x4 ∧ w.cell? ⟨g, 5, none⟩ = some x5 ∧ w.cell? ⟨g, 6, none⟩ = some x6 ∧ w.cell? ⟨g, 7, none⟩ = some x7 ∧ w.cell? ⟨g, 8, none⟩ = some x8 ∧ w.cell? ⟨g, 9, none⟩ = some x9 := by
  refine ⟨?_, ?_, ?_, ?_, ?_, ?_, ?_, ?_, ?_, ?_⟩
  all_goals simp [World.cell?, h]
theorem box1 (w : World) (o : Obj) : Below w.heap.size w (w.alloc o) := (Below.refl _ _).alloc (Nat.le_refl _) _

set_option maxRecDepth 100000 in
set_option maxHeartbeats 1200000 in
theorem cmay_any (c : Cl) (w : World) : Calls Try.prog 11 #[callV c] w fun e w' => e = .returned (.bool (mayC c)) ∧ Below w.heap.size w w' := by
  have hway := way_of c
  generalize mayC c = r at *
  obtain ⟨cli, ⟨kd, key, old, val⟩, ⟨er, fo, va⟩, st, en⟩ := c
  unfold callV
  have hb0 := box1 w (Obj.cells #[.int .i64 cli, .int .u8 kd, .string key, .string old, .string val, .int .i64 er, .bool fo, .string va, .int .i64 st, .int .i64 en] 32)
  have hW := Lib.hid hway
  clear hway
  rcases hW.out with h0 | ⟨h0, h1⟩ | ⟨h0, h1, h2⟩ | ⟨h0, h1, h2, h3⟩ | ⟨h0, h1, h2, h3, h4, h5⟩ | ⟨h0, h1, h2, h3, h4, h5⟩ | ⟨h0, h1, h2, h3, h4, h5⟩ | ⟨h0, h1, h2, h3, h4, h5, h6⟩ | ⟨h0, h1, h2, h3, h4, h5, h6, h7⟩ | ⟨h0, h1, h2, h3, h4, h5, h6, h7⟩
  all_goals clear hW
  · simp only at h0
    have h0' : cli < 0 := by omega
    go_enter Try.func11, Try.ntmps11
    go_wp2
    go_ret
    exact ⟨rfl, hb0⟩
  · simp only at h0 h1
    have h1' : 4 ≤ cli := by omega
    go_enter Try.func11, Try.ntmps11
    go_wp2
    go_ret
    exact ⟨rfl, hb0⟩
  · simp only at h0 h1 h2
    have H2 := Lib.hid h2
    clear h2
    go_enter Try.func11, Try.ntmps11
    go_wp2_with (go_at_call 15; refine (pmayO_any _ _ _ _ _ _ H2.out).mono ?_; rintro e w2 ⟨rfl, hb2⟩; obtain ⟨z0, z1, z2, z3, z4, z5, z6, z7, z8, z9⟩ := ten ((hb2.block w.heap.size (by simp)).trans (heap_alloc_new w _)))
    go_ret
    exact ⟨rfl, hb0.trans (hb2.mono (by simp))⟩
  · simp only at h0 h1 h2 h3
    have H2 := Lib.hid h2
    clear h2
    have h3' : st < 1 := by omega
    go_enter Try.func11, Try.ntmps11
    go_wp2_with (go_at_call 15; refine (pmayO_any _ _ _ _ _ _ H2.out).mono ?_; rintro e w2 ⟨rfl, hb2⟩; obtain ⟨z0, z1, z2, z3, z4, z5, z6, z7, z8, z9⟩ := ten ((hb2.block w.heap.size (by simp)).trans (heap_alloc_new w _)))
    go_ret
    exact ⟨rfl, hb0.trans (hb2.mono (by simp))⟩
  · simp only at h0 h1 h2 h3 h4 h5
    have H2 := Lib.hid h2
    clear h2
    have e4 : (en == 0) = false := beq_eq_false_iff_ne.2 h4
    clear h4
    go_enter Try.func11, Try.ntmps11
    go_wp2_with (go_at_call 15; refine (pmayO_any _ _ _ _ _ _ H2.out).mono ?_; rintro e w2 ⟨rfl, hb2⟩; obtain ⟨z0, z1, z2, z3, z4, z5, z6, z7, z8, z9⟩ := ten ((hb2.block w.heap.size (by simp)).trans (heap_alloc_new w _)))
    go_ret
    exact ⟨rfl, hb0.trans (hb2.mono (by simp))⟩
  · simp only at h0 h1 h2 h3 h4 h5
    have H2 := Lib.hid h2
    clear h2
    have e4 : (en == 0) = false := beq_eq_false_iff_ne.2 h4
    clear h4
    have h5' : decide (st < en) = false := decide_eq_false h5
    go_enter Try.func11, Try.ntmps11
    go_wp2_with (go_at_call 15; refine (pmayO_any _ _ _ _ _ _ H2.out).mono ?_; rintro e w2 ⟨rfl, hb2⟩; obtain ⟨z0, z1, z2, z3, z4, z5, z6, z7, z8, z9⟩ := ten ((hb2.block w.heap.size (by simp)).trans (heap_alloc_new w _)))
    go_ret
    exact ⟨rfl, hb0.trans (hb2.mono (by simp))⟩
  · simp only at h0 h1 h2 h3 h4 h5
    have H2 := Lib.hid h2
    clear h2
    subst h4
    have hst : decide (st < 0) = false := decide_eq_false (by omega)
    have e5 : (er == 0) = false := beq_eq_false_iff_ne.2 h5
    clear h5
    go_enter Try.func11, Try.ntmps11
    go_wp2_with (go_at_call 15; refine (pmayO_any _ _ _ _ _ _ H2.out).mono ?_; rintro e w2 ⟨rfl, hb2⟩; obtain ⟨z0, z1, z2, z3, z4, z5, z6, z7, z8, z9⟩ := ten ((hb2.block w.heap.size (by simp)).trans (heap_alloc_new w _)))
    go_ret
    exact ⟨rfl, hb0.trans (hb2.mono (by simp))⟩
  · simp only at h0 h1 h2 h3 h4 h5 h6
    have H2 := Lib.hid h2
    clear h2
    subst h4
    have hst : decide (st < 0) = false := decide_eq_false (by omega)
    subst h5 h6
    go_enter Try.func11, Try.ntmps11
    go_wp2_with (go_at_call 15; refine (pmayO_any _ _ _ _ _ _ H2.out).mono ?_; rintro e w2 ⟨rfl, hb2⟩; obtain ⟨z0, z1, z2, z3, z4, z5, z6, z7, z8, z9⟩ := ten ((hb2.block w.heap.size (by simp)).trans (heap_alloc_new w _)))
    go_ret
    exact ⟨rfl, hb0.trans (hb2.mono (by simp))⟩
  · simp only at h0 h1 h2 h3 h4 h5 h6 h7
    have H2 := Lib.hid h2
    clear h2
    subst h4
    have hst : decide (st < 0) = false := decide_eq_false (by omega)
    subst h5 h6
    obtain ⟨n1, n2⟩ := tx_some h7
    clear h7
    go_enter Try.func11, Try.ntmps11
    go_wp2_with (go_at_call 15; refine (pmayO_any _ _ _ _ _ _ H2.out).mono ?_; rintro e w2 ⟨rfl, hb2⟩; obtain ⟨z0, z1, z2, z3, z4, z5, z6, z7, z8, z9⟩ := ten ((hb2.block w.heap.size (by simp)).trans (heap_alloc_new w _)))
    go_ret
    exact ⟨rfl, hb0.trans (hb2.mono (by simp))⟩
  · simp only at h0 h1 h2 h3 h4 h5 h6 h7
    have H2 := Lib.hid h2
    clear h2
    subst h4
    have hst : decide (st < 0) = false := decide_eq_false (by omega)
    subst h5 h6 h7
    go_enter Try.func11, Try.ntmps11
    go_wp2_with (go_at_call 15; refine (pmayO_any _ _ _ _ _ _ H2.out).mono ?_; rintro e w2 ⟨rfl, hb2⟩; obtain ⟨z0, z1, z2, z3, z4, z5, z6, z7, z8, z9⟩ := ten ((hb2.block w.heap.size (by simp)).trans (heap_alloc_new w _)))
    go_ret
    exact ⟨rfl, hb0.trans (hb2.mono (by simp))⟩

set_option maxRecDepth 100000 in
set_option maxHeartbeats 1200000 in
theorem rcmay_any (c : Cl) (w : World) : Calls Try.prog 17 #[callV c] w fun e w' => e = .returned (.bool (mayC c)) ∧ Below w.heap.size w w' := by
  have hway := way_of c
  generalize mayC c = r at *
  obtain ⟨cli, ⟨kd, key, old, val⟩, ⟨er, fo, va⟩, st, en⟩ := c
  unfold callV
  have hb0 := box1 w (Obj.cells #[.int .i64 cli, .int .u8 kd, .string key, .string old, .string val, .int .i64 er, .bool fo, .string va, .int .i64 st, .int .i64 en] 32)
  have hW := Lib.hid hway
  clear hway
  rcases hW.out with h0 | ⟨h0, h1⟩ | ⟨h0, h1, h2⟩ | ⟨h0, h1, h2, h3⟩ | ⟨h0, h1, h2, h3, h4, h5⟩ | ⟨h0, h1, h2, h3, h4, h5⟩ | ⟨h0, h1, h2, h3, h4, h5⟩ | ⟨h0, h1, h2, h3, h4, h5, h6⟩ | ⟨h0, h1, h2, h3, h4, h5, h6, h7⟩ | ⟨h0, h1, h2, h3, h4, h5, h6, h7⟩
  all_goals clear hW
  · simp only at h0
    have h0' : cli < 0 := by omega
    go_enter Try.func17, Try.ntmps17
    go_wp2
    go_ret
    exact ⟨rfl, hb0⟩
  · simp only at h0 h1
    have h1' : 4 ≤ cli := by omega
    go_enter Try.func17, Try.ntmps17
    go_wp2
    go_ret
    exact ⟨rfl, hb0⟩
  · simp only at h0 h1 h2
    have H2 := Lib.hid h2
    clear h2
    go_enter Try.func17, Try.ntmps17
    go_wp2_with (go_at_call 19; refine (rmayO_any _ _ _ _ _ _ H2.out).mono ?_; rintro e w2 ⟨rfl, hb2⟩; obtain ⟨z0, z1, z2, z3, z4, z5, z6, z7, z8, z9⟩ := ten ((hb2.block w.heap.size (by simp)).trans (heap_alloc_new w _)))
    go_ret
    exact ⟨rfl, hb0.trans (hb2.mono (by simp))⟩
  · simp only at h0 h1 h2 h3
    have H2 := Lib.hid h2
    clear h2
    have h3' : st < 1 := by omega
    go_enter Try.func17, Try.ntmps17
    go_wp2_with (go_at_call 19; refine (rmayO_any _ _ _ _ _ _ H2.out).mono ?_; rintro e w2 ⟨rfl, hb2⟩; obtain ⟨z0, z1, z2, z3, z4, z5, z6, z7, z8, z9⟩ := ten ((hb2.block w.heap.size (by simp)).trans (heap_alloc_new w _)))
    go_ret
    exact ⟨rfl, hb0.trans (hb2.mono (by simp))⟩
  · simp only at h0 h1 h2 h3 h4 h5
    have H2 := Lib.hid h2
    clear h2
    have e4 : (en == 0) = false := beq_eq_false_iff_ne.2 h4
    clear h4
    go_enter Try.func17, Try.ntmps17
    go_wp2_with (go_at_call 19; refine (rmayO_any _ _ _ _ _ _ H2.out).mono ?_; rintro e w2 ⟨rfl, hb2⟩; obtain ⟨z0, z1, z2, z3, z4, z5, z6, z7, z8, z9⟩ := ten ((hb2.block w.heap.size (by simp)).trans (heap_alloc_new w _)))
    go_ret
    exact ⟨rfl, hb0.trans (hb2.mono (by simp))⟩
  · simp only at h0 h1 h2 h3 h4 h5
    have H2 := Lib.hid h2
    clear h2
    have e4 : (en == 0) = false := beq_eq_false_iff_ne.2 h4
    clear h4
    have h5' : decide (st < en) = false := decide_eq_false h5
    go_enter Try.func17, Try.ntmps17
    go_wp2_with (go_at_call 19; refine (rmayO_any _ _ _ _ _ _ H2.out).mono ?_; rintro e w2 ⟨rfl, hb2⟩; obtain ⟨z0, z1, z2, z3, z4, z5, z6, z7, z8, z9⟩ := ten ((hb2.block w.heap.size (by simp)).trans (heap_alloc_new w _)))
    go_ret
    exact ⟨rfl, hb0.trans (hb2.mono (by simp))⟩
  · simp only at h0 h1 h2 h3 h4 h5
    have H2 := Lib.hid h2
    clear h2
    subst h4
    have hst : decide (st < 0) = false := decide_eq_false (by omega)
    have e5 : (er == 0) = false := beq_eq_false_iff_ne.2 h5
    clear h5
    go_enter Try.func17, Try.ntmps17
    go_wp2_with (go_at_call 19; refine (rmayO_any _ _ _ _ _ _ H2.out).mono ?_; rintro e w2 ⟨rfl, hb2⟩; obtain ⟨z0, z1, z2, z3, z4, z5, z6, z7, z8, z9⟩ := ten ((hb2.block w.heap.size (by simp)).trans (heap_alloc_new w _)))
    go_ret
    exact ⟨rfl, hb0.trans (hb2.mono (by simp))⟩
  · simp only at h0 h1 h2 h3 h4 h5 h6
    have H2 := Lib.hid h2
    clear h2
    subst h4
    have hst : decide (st < 0) = false := decide_eq_false (by omega)
    subst h5 h6
    go_enter Try.func17, Try.ntmps17
    go_wp2_with (go_at_call 19; refine (rmayO_any _ _ _ _ _ _ H2.out).mono ?_; rintro e w2 ⟨rfl, hb2⟩; obtain ⟨z0, z1, z2, z3, z4, z5, z6, z7, z8, z9⟩ := ten ((hb2.block w.heap.size (by simp)).trans (heap_alloc_new w _)))
    go_ret
    exact ⟨rfl, hb0.trans (hb2.mono (by simp))⟩
  · simp only at h0 h1 h2 h3 h4 h5 h6 h7
    have H2 := Lib.hid h2
    clear h2
    subst h4
    have hst : decide (st < 0) = false := decide_eq_false (by omega)
    subst h5 h6
    obtain ⟨n1, n2⟩ := tx_some h7
    clear h7
    go_enter Try.func17, Try.ntmps17
    go_wp2_with (go_at_call 19; refine (rmayO_any _ _ _ _ _ _ H2.out).mono ?_; rintro e w2 ⟨rfl, hb2⟩; obtain ⟨z0, z1, z2, z3, z4, z5, z6, z7, z8, z9⟩ := ten ((hb2.block w.heap.size (by simp)).trans (heap_alloc_new w _)))
    go_ret
    exact ⟨rfl, hb0.trans (hb2.mono (by simp))⟩
  · simp only at h0 h1 h2 h3 h4 h5 h6 h7
    have H2 := Lib.hid h2
    clear h2
    subst h4
    have hst : decide (st < 0) = false := decide_eq_false (by omega)
    subst h5 h6 h7
    go_enter Try.func17, Try.ntmps17
    go_wp2_with (go_at_call 19; refine (rmayO_any _ _ _ _ _ _ H2.out).mono ?_; rintro e w2 ⟨rfl, hb2⟩; obtain ⟨z0, z1, z2, z3, z4, z5, z6, z7, z8, z9⟩ := ten ((hb2.block w.heap.size (by simp)).trans (heap_alloc_new w _)))
    go_ret
    exact ⟨rfl, hb0.trans (hb2.mono (by simp))⟩

end Go.Proofs.Ytiipelccmkidbaa
