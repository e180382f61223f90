/- kv.key, kv.value, kv.May; the reference's less and May. -/
import Derived.Test.YtiipelccmkidbaaK0
import Derived.Test.YtiipelccmkidbaaUnder
import Derived.Test.YtiipelccmkidbaaRows
import Derived.WalkKit
import Derived.WalkSpells
import Derived.WalkLawsBesides
import Derived.Handy
import Derived.Deep.QuietTactic
import Derived.BigQuiet
import Derived.Deep.DeepCutAuto
import Derived.Lib.Hide
import Derived.RegionTactic
import Derived.ChangeAlike
namespace Go.Proofs.Ytiipelccmkidbaa
open Go.RowKit

def prs (l : List Pr) : List Value := l.flatMap fun p => [.string p.1, .string p.2]
theorem prs_len : ∀ (l : List Pr), (prs l).length = 2 * l.length
  | [] => rfl
  | p :: l => by
    have := prs_len l
    simp only [prs, List.flatMap_cons, List.length_append, List.length_cons, List.length_nil] at this ⊢
    omega
theorem prs_app (l m : List Pr) : prs (l ++ m) = prs l ++ prs m := by simp [prs]
theorem prs_one {l : List Pr} : ∀ u ∈ prs l, u.oneCell' = true := by
  intro u hu
  simp only [prs, List.mem_flatMap] at hu
  obtain ⟨p, _, hp⟩ := hu
  simp at hp
  rcases hp with rfl | rfl <;> rfl
theorem prs_at : ∀ {l : List Pr} {i : Nat} {p : Pr}, l[i]? = some p → (prs l)[i * 2]? = some (.string p.1) ∧ (prs l)[i * 2 + 1]? = some (.string p.2)
  | [], i, p, h => by simp at h
  | q :: l, 0, p, h => by
    simp at h
    subst h
    exact ⟨rfl, rfl⟩
  | q :: l, i + 1, p, h => by
    simp only [List.getElem?_cons_succ] at h
    have := prs_at h
    have e1 : (i + 1) * 2 = i * 2 + 1 + 1 := by omega
    rw [e1]
    simp only [prs, List.flatMap_cons, List.cons_append, List.nil_append, List.getElem?_cons_succ] at this ⊢
    exact this
theorem Row.pair {w : World} {a : Option Addr} {l : List Pr} (h : Row w a (prs l)) {i : Nat} {p : Pr} (hp : l[i]? = some p) :
    ∃ b off, a = some ⟨b, off, none⟩ ∧ b < w.heap.size ∧ (∀ j q, l[j]? = some q → w.cell? ⟨b, off + j * 2, none⟩ = some (.string q.1) ∧ w.cell? ⟨b, off + j * 2 + 1, none⟩ = some (.string q.2)) := by
  have hi := (List.getElem?_eq_some_iff.1 hp).1
  obtain ⟨b, off, ha, hc⟩ := h.at (k := i) (by rw [prs_len]; omega)
  refine ⟨b, off, ha, World.block_lt_of_cell? _ _ (hc _ _ (prs_at hp).1), fun j q hq => ?_⟩
  obtain ⟨h1, h2⟩ := prs_at hq
  exact ⟨hc _ _ h1, by rw [Nat.add_assoc]; exact hc _ _ h2⟩

theorem key_any (s : Tx) (w : World) : Calls Try.prog 23 #[.string s] w fun e w' => e = .returned (.bool (keyOk s)) ∧ w = w' := by
  unfold keyOk
  by_cases h1 : 1 ≤ s.size
  all_goals by_cases h2 : s.size ≤ 8
  all_goals
    go_enter Try.func23, Try.ntmps23
    go_wp2
    all_goals go_ret
    all_goals exact ⟨ret_bool (by first | (simp [h1, h2]; done) | (simp [h1, h2]; omega)), rfl⟩
theorem value_any (s : Tx) (w : World) : Calls Try.prog 24 #[.string s] w fun e w' => e = .returned (.bool (valOk s)) ∧ w = w' := by
  unfold valOk
  by_cases h2 : s.size ≤ 16
  all_goals
    go_enter Try.func24, Try.ntmps24
    go_wp2
    all_goals go_ret
    all_goals exact ⟨ret_bool (by first | (simp [h2]; done) | (simp [h2]; omega)), rfl⟩
end Go.Proofs.Ytiipelccmkidbaa
