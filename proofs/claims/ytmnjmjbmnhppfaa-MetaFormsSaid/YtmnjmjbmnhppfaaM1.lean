/- meta: ballot, May, and the reference's, walked. -/
import Derived.Test.YtmnjmjbmnhppfaaO5
import Derived.Test.YtmnjmjbmnhppfaaRows
import Derived.WalkKit
import Derived.WalkSpells
import Derived.WalkLawsBesides
import Derived.Handy
import Derived.Deep.QuietTactic
import Derived.BigQuiet
import Derived.Deep.DeepCutAuto
import Derived.Lib.Hide
import Derived.RegionTactic
import Derived.ChangeAlike
import Derived.Laws.StructEq
namespace Go.Proofs.Ytmnjmjbmnhppfaa
open Go.RowKit

def balB (r p : Int) : Bool := decide (1 ≤ r) && decide (r ≤ 1099511627776) && decide (0 ≤ p) && decide (p < 7)
theorem balB_yes {r p : Int} (h : 1 ≤ r ∧ r ≤ 1099511627776 ∧ 0 ≤ p ∧ p < 7) : balB r p = true := by simp [balB, h]
theorem balB_no {r p : Int} (h : ¬ (1 ≤ r ∧ r ≤ 1099511627776 ∧ 0 ≤ p ∧ p < 7)) : balB r p = false := by
  cases hb : balB r p
  · rfl
  · simp [balB] at hb; omega
def mayM (r p i : Int) : Bool := (decide (r = 0) && decide (p = 0) || balB r p) && decide (1 ≤ i) && decide (i ≤ 1099511627776)

theorem ballot_any (r p : Int) (w : World) : Calls Try.prog 59 #[.agg #[.int .i64 r, .int .i64 p]] w fun e w' => e = .returned (.bool (balB r p)) ∧ w' = w.alloc (Obj.cells #[.int .i64 r, .int .i64 p] 23) := by
  by_cases h1 : 1 ≤ r
  · by_cases h2 : r ≤ 1099511627776
    · by_cases h3 : 0 ≤ p
      · by_cases h4 : p < 7
        all_goals
          go_enter Try.func59, Try.ntmps59
          go_wp2
          go_ret
          exact ⟨ret_bool (by first | rw [balB_yes (by omega)] | rw [balB_no (by omega)]), rfl⟩
      · go_enter Try.func59, Try.ntmps59
        go_wp2
        go_ret
        exact ⟨ret_bool (by rw [balB_no (by omega)]), rfl⟩
    · go_enter Try.func59, Try.ntmps59
      go_wp2
      go_ret
      exact ⟨ret_bool (by rw [balB_no (by omega)]), rfl⟩
  · go_enter Try.func59, Try.ntmps59
    go_wp2
    go_ret
    exact ⟨ret_bool (by rw [balB_no (by omega)]), rfl⟩

@[go_sem] theorem eqBallot (a b c d : Int) (w : World) : (Op.equalIn 10000 23 (.agg #[.int .i64 a, .int .i64 b]) (.agg #[.int .i64 c, .int .i64 d])).run Try.prog w = .ok (a == c && b == d) w := by
  have u3 := Try.underlying3
  have a3 := Try.isAgg3
  have z3 := Try.sizeOf3
  have hS : Try.prog.underlying 23 = some (.struct (Try.prog.fieldsOf 23)) := by kernel_rfl
  rw [show (10000 : Nat) = 9999 + 1 from rfl, run_equalIn_agg w 9999 23 _ _ hS (by kernel_rfl)]
  simp only [Program.fieldsOf, Try.underlying23]
  go_simp
  by_cases h1 : a = c <;> by_cases h2 : b = d <;> simp [h1, h2]

set_option maxRecDepth 20000 in
set_option maxHeartbeats 4000000 in
theorem may_any (r p i : Int) (w : World) : Calls Try.prog 20 #[.agg #[.int .i64 r, .int .i64 p, .int .i64 i]] w fun e w' => e = .returned (.bool (mayM r p i)) ∧ Below w.heap.size w w' := by
  unfold mayM
  have hcs : (1 ≤ i ∧ i ≤ 1099511627776) ∨ (1 ≤ i ∧ ¬ i ≤ 1099511627776) ∨ (¬ 1 ≤ i ∧ i ≤ 1099511627776) := by omega
  rcases hcs with ⟨hi, hj⟩ | ⟨hi, hj⟩ | ⟨hi, hj⟩
  all_goals
    by_cases hr : r = 0
    · subst hr
      by_cases hp : p = 0
      · subst hp
        go_enter Try.func20, Try.ntmps20
        go_wp2
        go_ret
        exact ⟨ret_bool (by simp [hi, hj]), by (repeat' (first | (with_reducible exact Below.refl _ _) | (with_reducible assumption) | (with_reducible refine Below.alloc ?_ ?_ _) | (with_reducible refine Below.drew ?_) | (with_reducible refine below_drewN ?_ _) | (with_reducible refine Below.setCell ?_ ?_ _) | (with_reducible refine Below.trans ?_ (by assumption)) | go_size))⟩
      · have HB := Lib.hid (show balB 0 p = false from balB_no (by omega))
        go_enter Try.func20, Try.ntmps20
        go_wp2_with (go_at_call 59; refine (ballot_any _ _ _).mono ?_; rintro e w' ⟨rfl, rfl⟩; rw [HB.out])
        go_ret
        exact ⟨ret_bool (by simp [hp, HB.out]), by (repeat' (first | (with_reducible exact Below.refl _ _) | (with_reducible assumption) | (with_reducible refine Below.alloc ?_ ?_ _) | (with_reducible refine Below.drew ?_) | (with_reducible refine below_drewN ?_ _) | (with_reducible refine Below.setCell ?_ ?_ _) | (with_reducible refine Below.trans ?_ (by assumption)) | go_size))⟩
    · cases hb : balB r p
      all_goals
        have HB := Lib.hid hb
        clear hb
        go_enter Try.func20, Try.ntmps20
        go_wp2_with (go_at_call 59; refine (ballot_any _ _ _).mono ?_; rintro e w' ⟨rfl, rfl⟩; rw [HB.out])
        go_ret
        exact ⟨ret_bool (by simp [hi, hj, hr]), by (repeat' (first | (with_reducible exact Below.refl _ _) | (with_reducible assumption) | (with_reducible refine Below.alloc ?_ ?_ _) | (with_reducible refine Below.drew ?_) | (with_reducible refine below_drewN ?_ _) | (with_reducible refine Below.setCell ?_ ?_ _) | (with_reducible refine Below.trans ?_ (by assumption)) | go_size))⟩
end Go.Proofs.Ytmnjmjbmnhppfaa
