/- The reference's Ballot and May: the same Bool. -/
import Derived.Test.YtmnjmjbmnhppfaaM1
import Derived.Test.YtmnjmjbmnhppfaaRows
import Derived.WalkKit
import Derived.WalkSpells
import Derived.WalkLawsBesides
import Derived.Handy
import Derived.Deep.QuietTactic
import Derived.BigQuiet
import Derived.Deep.DeepCutAuto
import Derived.Lib.Hide
import Derived.RegionTactic
import Derived.ChangeAlike
namespace Go.Proofs.Ytmnjmjbmnhppfaa
open Go.RowKit

set_option maxHeartbeats 1000000 in
theorem rballot_any (r p : Int) (w : World) : Calls Try.prog 60 #[.agg #[.int .i64 r, .int .i64 p]] w fun e w' => e = .returned (.bool (balB r p)) ∧ w' = w.alloc (Obj.cells #[.int .i64 r, .int .i64 p] 23) := by
  by_cases h1 : 1 ≤ r
  · by_cases h2 : r ≤ 1099511627776
    · by_cases h3 : 0 ≤ p
      · by_cases h4 : p ≤ 6
        all_goals
          go_enter Try.func60, Try.ntmps60
          go_wp2
          go_ret
          exact ⟨ret_bool (by first | rw [balB_yes (by omega)] | rw [balB_no (by omega)]), rfl⟩
      · go_enter Try.func60, Try.ntmps60
        go_wp2
        go_ret
        exact ⟨ret_bool (by rw [balB_no (by omega)]), rfl⟩
    · go_enter Try.func60, Try.ntmps60
      go_wp2
      go_ret
      exact ⟨ret_bool (by rw [balB_no (by omega)]), rfl⟩
  · go_enter Try.func60, Try.ntmps60
    go_wp2
    go_ret
    exact ⟨ret_bool (by rw [balB_no (by omega)]), rfl⟩

set_option maxRecDepth 20000 in
set_option maxHeartbeats 4000000 in
theorem rmay_any (r p i : Int) (w : World) : Calls Try.prog 21 #[.agg #[.int .i64 r, .int .i64 p, .int .i64 i]] w fun e w' => e = .returned (.bool (mayM r p i)) ∧ Below w.heap.size w w' := by
  unfold mayM
  have hcs : (1 ≤ i ∧ i ≤ 1099511627776) ∨ (1 ≤ i ∧ ¬ i ≤ 1099511627776) ∨ (¬ 1 ≤ i ∧ i ≤ 1099511627776) := by omega
  rcases hcs with ⟨hi, hj⟩ | ⟨hi, hj⟩ | ⟨hi, hj⟩
  all_goals
    by_cases hr : r = 0
    · subst hr
      by_cases hp : p = 0
      · subst hp
        go_enter Try.func21, Try.ntmps21
        go_wp2
        go_ret
        exact ⟨ret_bool (by simp [hi, hj]), by (repeat' (first | (with_reducible exact Below.refl _ _) | (with_reducible assumption) | (with_reducible refine Below.alloc ?_ ?_ _) | (with_reducible refine Below.drew ?_) | (with_reducible refine below_drewN ?_ _) | (with_reducible refine Below.setCell ?_ ?_ _) | (with_reducible refine Below.trans ?_ (by assumption)) | go_size))⟩
      · have HB := Lib.hid (show balB 0 p = false from balB_no (by omega))
        go_enter Try.func21, Try.ntmps21
        go_wp2_with (go_at_call 60; refine (rballot_any _ _ _).mono ?_; rintro e w' ⟨rfl, rfl⟩; rw [HB.out])
        go_ret
        exact ⟨ret_bool (by simp [hp, HB.out]), by (repeat' (first | (with_reducible exact Below.refl _ _) | (with_reducible assumption) | (with_reducible refine Below.alloc ?_ ?_ _) | (with_reducible refine Below.drew ?_) | (with_reducible refine below_drewN ?_ _) | (with_reducible refine Below.setCell ?_ ?_ _) | (with_reducible refine Below.trans ?_ (by assumption)) | go_size))⟩
    · cases hb : balB r p
      all_goals
        have HB := Lib.hid hb
        clear hb
        go_enter Try.func21, Try.ntmps21
        go_wp2_with (go_at_call 60; refine (rballot_any _ _ _).mono ?_; rintro e w' ⟨rfl, rfl⟩; rw [HB.out])
        go_ret
        exact ⟨ret_bool (by simp [hi, hj, hr]), by (repeat' (first | (with_reducible exact Below.refl _ _) | (with_reducible assumption) | (with_reducible refine Below.alloc ?_ ?_ _) | (with_reducible refine Below.drew ?_) | (with_reducible refine below_drewN ?_ _) | (with_reducible refine Below.setCell ?_ ?_ _) | (with_reducible refine Below.trans ?_ (by assumption)) | go_size))⟩
end Go.Proofs.Ytmnjmjbmnhppfaa
