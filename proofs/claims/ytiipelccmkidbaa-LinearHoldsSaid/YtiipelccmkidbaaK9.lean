/- MayOp, the program's and the reference's; Reads. -/
import Derived.Test.YtiipelccmkidbaaK8
import Derived.Test.YtiipelccmkidbaaK5
import Derived.Test.YtiipelccmkidbaaRows
import Derived.WalkKit
import Derived.WalkSpells
import Derived.WalkLawsBesides
import Derived.Handy
import Derived.Deep.QuietTactic
import Derived.BigQuiet
import Derived.Deep.DeepCutAuto
import Derived.Lib.Hide
import Derived.RegionTactic
import Derived.ChangeAlike
namespace Go.Proofs.Ytiipelccmkidbaa
open Go.RowKit

def opV (o : Opn) : Value := .agg #[.int .u8 o.kind, .string o.key, .string o.old, .string o.val]

theorem tx_nil {s : Tx} (h : s.size = 0) : s = ⟨#[]⟩ := by
  apply tx_ext
  have := tx_len s
  rw [h] at this
  rw [List.eq_nil_of_length_eq_zero this, ByteArray.toList_eq]
theorem tx_some {s : Tx} (h : ¬ s.size = 0) : s.toList.isEmpty = false ∧ (s.toList == []) = false := by
  have := tx_len s
  cases hl : s.toList with
  | nil => rw [hl] at this; exact absurd this.symm h
  | cons a l => exact ⟨rfl, rfl⟩
theorem nil_size : decide ((⟨#[]⟩ : Tx).size = 0) = true := rfl
theorem valOk_nil : valOk ⟨#[]⟩ = true := by decide

def mayV (k : Int) (old val : Tx) : Bool := if k = 1 ∨ k = 3 then decide (old.size = 0) && decide (val.size = 0) else if k = 2 then decide (old.size = 0) else decide (k = 4)
theorem mayO_eq (k : Int) (key old val : Tx) : mayO ⟨k, key, old, val⟩ = (keyOk key && valOk old && valOk val && mayV k old val) := rfl

set_option maxRecDepth 100000 in
set_option maxHeartbeats 4000000 in
theorem pmayO_any (k : Int) (key old val : Tx) (w : World) (r : Bool) (hr : mayO ⟨k, key, old, val⟩ = r) :
    Calls Try.prog 15 #[.agg #[.int .u8 k, .string key, .string old, .string val]] w fun e w' => e = .returned (.bool r) ∧ Below w.heap.size w w' := by
  rw [mayO_eq] at hr
  by_cases k1 : k = 1 ∨ k = 3
  · have hv : mayV k old val = (decide (old.size = 0) && decide (val.size = 0)) := by simp [mayV, k1]
    rw [hv] at hr
    clear hv
    by_cases o1 : old.size = 0
    · have := tx_nil o1
      subst this
      by_cases v1 : val.size = 0
      · have := tx_nil v1
        subst this
        have hr2 : keyOk key = r := by rw [← hr]; simp only [nil_size, valOk_nil, Bool.and_true]
        clear hr o1 v1
        cases hk : keyOk key
        all_goals
          rw [hk] at hr2
          subst hr2
          rcases k1 with rfl | rfl
          all_goals
            go_enter Try.func15, Try.ntmps15
            go_wp2_with (first | (go_at_call 23; refine (key_any _ _).mono ?_; rintro e w' ⟨rfl, rfl⟩) | (go_at_call 24; refine (value_any _ _).mono ?_; rintro e w' ⟨rfl, rfl⟩))
            go_ret
            exact ⟨rfl, by (repeat' (first | (with_reducible exact Below.refl _ _) | (with_reducible assumption) | (with_reducible refine Below.alloc ?_ ?_ _) | (with_reducible refine Below.drew ?_) | (with_reducible refine below_drewN ?_ _) | (with_reducible refine Below.setCell ?_ ?_ _) | (with_reducible refine Below.trans ?_ (by assumption)) | go_size))⟩
      · obtain ⟨n1, n2⟩ := tx_some v1
        have hr2 : r = false := by rw [← hr]; simp [v1]
        subst hr2
        clear hr
        rcases k1 with rfl | rfl
        all_goals
          go_enter Try.func15, Try.ntmps15
          go_wp2
          go_ret
          exact ⟨rfl, by (repeat' (first | (with_reducible exact Below.refl _ _) | (with_reducible assumption) | (with_reducible refine Below.alloc ?_ ?_ _) | (with_reducible refine Below.drew ?_) | (with_reducible refine below_drewN ?_ _) | (with_reducible refine Below.setCell ?_ ?_ _) | (with_reducible refine Below.trans ?_ (by assumption)) | go_size))⟩
    · obtain ⟨n1, n2⟩ := tx_some o1
      have hr2 : r = false := by rw [← hr]; simp [o1]
      subst hr2
      clear hr
      rcases k1 with rfl | rfl
      all_goals
        go_enter Try.func15, Try.ntmps15
        go_wp2
        go_ret
        exact ⟨rfl, by (repeat' (first | (with_reducible exact Below.refl _ _) | (with_reducible assumption) | (with_reducible refine Below.alloc ?_ ?_ _) | (with_reducible refine Below.drew ?_) | (with_reducible refine below_drewN ?_ _) | (with_reducible refine Below.setCell ?_ ?_ _) | (with_reducible refine Below.trans ?_ (by assumption)) | go_size))⟩
  · have k1a : (k == 1) = false := by rw [beq_eq_false_iff_ne]; exact fun e => k1 (.inl e)
    have k1b : (k == 3) = false := by rw [beq_eq_false_iff_ne]; exact fun e => k1 (.inr e)
    by_cases k2 : k = 2
    · have hv : mayV k old val = decide (old.size = 0) := by simp [mayV, k2]
      rw [hv] at hr
      clear hv k1 k1a k1b
      subst k2
      by_cases o1 : old.size = 0
      · have := tx_nil o1
        subst this
        simp only [nil_size, valOk_nil, Bool.and_true] at hr
        clear o1
        cases hk : keyOk key <;> cases hv : valOk val
        all_goals
          rw [hk, hv] at hr
          simp only [Bool.and_true, Bool.and_false, Bool.and_self] at hr
          subst hr
          go_enter Try.func15, Try.ntmps15
          go_wp2_with (first | (go_at_call 23; refine (key_any _ _).mono ?_; rintro e w' ⟨rfl, rfl⟩) | (go_at_call 24; refine (value_any _ _).mono ?_; rintro e w' ⟨rfl, rfl⟩))
          go_ret
          exact ⟨rfl, by (repeat' (first | (with_reducible exact Below.refl _ _) | (with_reducible assumption) | (with_reducible refine Below.alloc ?_ ?_ _) | (with_reducible refine Below.drew ?_) | (with_reducible refine below_drewN ?_ _) | (with_reducible refine Below.setCell ?_ ?_ _) | (with_reducible refine Below.trans ?_ (by assumption)) | go_size))⟩
      · obtain ⟨n1, n2⟩ := tx_some o1
        have hr2 : r = false := by rw [← hr]; simp [o1]
        subst hr2
        clear hr
        go_enter Try.func15, Try.ntmps15
        go_wp2
        go_ret
        exact ⟨rfl, by (repeat' (first | (with_reducible exact Below.refl _ _) | (with_reducible assumption) | (with_reducible refine Below.alloc ?_ ?_ _) | (with_reducible refine Below.drew ?_) | (with_reducible refine below_drewN ?_ _) | (with_reducible refine Below.setCell ?_ ?_ _) | (with_reducible refine Below.trans ?_ (by assumption)) | go_size))⟩
    · have k2a : (k == 2) = false := by rw [beq_eq_false_iff_ne]; exact k2
      by_cases k4 : k = 4
      · have hv : mayV k old val = true := by simp [mayV, k4]
        rw [hv] at hr
        clear hv k1 k1a k1b k2 k2a
        subst k4
        cases hk : keyOk key <;> cases ho : valOk old <;> cases hv : valOk val
        all_goals
          rw [hk, ho, hv] at hr
          simp only [Bool.and_true, Bool.and_false, Bool.and_self] at hr
          subst hr
          go_enter Try.func15, Try.ntmps15
          go_wp2_with (first | (go_at_call 23; refine (key_any _ _).mono ?_; rintro e w' ⟨rfl, rfl⟩) | (go_at_call 24; refine (value_any _ _).mono ?_; rintro e w' ⟨rfl, rfl⟩))
          go_ret
          exact ⟨rfl, by (repeat' (first | (with_reducible exact Below.refl _ _) | (with_reducible assumption) | (with_reducible refine Below.alloc ?_ ?_ _) | (with_reducible refine Below.drew ?_) | (with_reducible refine below_drewN ?_ _) | (with_reducible refine Below.setCell ?_ ?_ _) | (with_reducible refine Below.trans ?_ (by assumption)) | go_size))⟩
      · have k4a : (k == 4) = false := by rw [beq_eq_false_iff_ne]; exact k4
        have hv : mayV k old val = false := by simp [mayV, k1, k2, k4]
        have hr2 : r = false := by rw [← hr, hv]; simp
        subst hr2
        clear hr hv k1 k2 k4
        go_enter Try.func15, Try.ntmps15
        go_wp2
        go_ret
        exact ⟨rfl, by (repeat' (first | (with_reducible exact Below.refl _ _) | (with_reducible assumption) | (with_reducible refine Below.alloc ?_ ?_ _) | (with_reducible refine Below.drew ?_) | (with_reducible refine below_drewN ?_ _) | (with_reducible refine Below.setCell ?_ ?_ _) | (with_reducible refine Below.trans ?_ (by assumption)) | go_size))⟩

set_option maxRecDepth 100000 in
set_option maxHeartbeats 4000000 in
theorem rmayO_any (k : Int) (key old val : Tx) (w : World) (r : Bool) (hr : mayO ⟨k, key, old, val⟩ = r) :
    Calls Try.prog 19 #[.agg #[.int .u8 k, .string key, .string old, .string val]] w fun e w' => e = .returned (.bool r) ∧ Below w.heap.size w w' := by
  rw [mayO_eq] at hr
  by_cases q0 : key.size = 0
  · have hr2 : r = false := by rw [← hr]; simp [keyOk, q0]
    subst hr2
    have q0a : ((key.size : Int) == 0) = true := by simp [q0]
    clear hr q0
    go_enter Try.func19, Try.ntmps19
    go_wp2
    go_ret
    exact ⟨rfl, by (repeat' (first | (with_reducible exact Below.refl _ _) | (with_reducible assumption) | (with_reducible refine Below.alloc ?_ ?_ _) | (with_reducible refine Below.drew ?_) | (with_reducible refine below_drewN ?_ _) | (with_reducible refine Below.setCell ?_ ?_ _) | (with_reducible refine Below.trans ?_ (by assumption)) | go_size))⟩
  · have q0a : ((key.size : Int) == 0) = false := by rw [beq_eq_false_iff_ne]; omega
    by_cases q8 : key.size ≤ 8
    · by_cases qo : old.size ≤ 16
      · by_cases qv : val.size ≤ 16
        · have hk1 : keyOk key = true := by simp [keyOk, q8]; omega
          have ho1 : valOk old = true := by simp [valOk, qo]
          have hv1 : valOk val = true := by simp [valOk, qv]
          rw [hk1, ho1, hv1] at hr
          simp only [Bool.true_and, Bool.and_self] at hr
          clear hk1 ho1 hv1 q0
          by_cases k1 : k = 1 ∨ k = 3
          · have hv : mayV k old val = (decide (old.size = 0) && decide (val.size = 0)) := by simp [mayV, k1]
            rw [hv] at hr
            clear hv
            by_cases o1 : old.size = 0
            · have := tx_nil o1
              subst this
              by_cases v1 : val.size = 0
              · have := tx_nil v1
                subst this
                simp only [nil_size, Bool.and_self] at hr
                subst hr
                clear o1 v1
                rcases k1 with rfl | rfl
                all_goals
                  go_enter Try.func19, Try.ntmps19
                  go_wp2
                  go_ret
                  exact ⟨rfl, by (repeat' (first | (with_reducible exact Below.refl _ _) | (with_reducible assumption) | (with_reducible refine Below.alloc ?_ ?_ _) | (with_reducible refine Below.drew ?_) | (with_reducible refine below_drewN ?_ _) | (with_reducible refine Below.setCell ?_ ?_ _) | (with_reducible refine Below.trans ?_ (by assumption)) | go_size))⟩
              · obtain ⟨n1, n2⟩ := tx_some v1
                have hr2 : r = false := by rw [← hr]; simp [v1]
                subst hr2
                clear hr
                rcases k1 with rfl | rfl
                all_goals
                  go_enter Try.func19, Try.ntmps19
                  go_wp2
                  go_ret
                  exact ⟨rfl, by (repeat' (first | (with_reducible exact Below.refl _ _) | (with_reducible assumption) | (with_reducible refine Below.alloc ?_ ?_ _) | (with_reducible refine Below.drew ?_) | (with_reducible refine below_drewN ?_ _) | (with_reducible refine Below.setCell ?_ ?_ _) | (with_reducible refine Below.trans ?_ (by assumption)) | go_size))⟩
            · obtain ⟨n1, n2⟩ := tx_some o1
              have hr2 : r = false := by rw [← hr]; simp [o1]
              subst hr2
              clear hr
              rcases k1 with rfl | rfl
              all_goals
                go_enter Try.func19, Try.ntmps19
                go_wp2
                go_ret
                exact ⟨rfl, by (repeat' (first | (with_reducible exact Below.refl _ _) | (with_reducible assumption) | (with_reducible refine Below.alloc ?_ ?_ _) | (with_reducible refine Below.drew ?_) | (with_reducible refine below_drewN ?_ _) | (with_reducible refine Below.setCell ?_ ?_ _) | (with_reducible refine Below.trans ?_ (by assumption)) | go_size))⟩
          · have k1a : (k == 1) = false := by rw [beq_eq_false_iff_ne]; exact fun e => k1 (.inl e)
            have k1b : (k == 3) = false := by rw [beq_eq_false_iff_ne]; exact fun e => k1 (.inr e)
            by_cases k2 : k = 2
            · have hv : mayV k old val = decide (old.size = 0) := by simp [mayV, k2]
              rw [hv] at hr
              clear hv k1 k1a k1b
              subst k2
              by_cases o1 : old.size = 0
              · have := tx_nil o1
                subst this
                simp only [nil_size] at hr
                subst hr
                clear o1
                go_enter Try.func19, Try.ntmps19
                go_wp2
                go_ret
                exact ⟨rfl, by (repeat' (first | (with_reducible exact Below.refl _ _) | (with_reducible assumption) | (with_reducible refine Below.alloc ?_ ?_ _) | (with_reducible refine Below.drew ?_) | (with_reducible refine below_drewN ?_ _) | (with_reducible refine Below.setCell ?_ ?_ _) | (with_reducible refine Below.trans ?_ (by assumption)) | go_size))⟩
              · obtain ⟨n1, n2⟩ := tx_some o1
                have hr2 : r = false := by rw [← hr]; simp [o1]
                subst hr2
                clear hr
                go_enter Try.func19, Try.ntmps19
                go_wp2
                go_ret
                exact ⟨rfl, by (repeat' (first | (with_reducible exact Below.refl _ _) | (with_reducible assumption) | (with_reducible refine Below.alloc ?_ ?_ _) | (with_reducible refine Below.drew ?_) | (with_reducible refine below_drewN ?_ _) | (with_reducible refine Below.setCell ?_ ?_ _) | (with_reducible refine Below.trans ?_ (by assumption)) | go_size))⟩
            · have k2a : (k == 2) = false := by rw [beq_eq_false_iff_ne]; exact k2
              have hv : mayV k old val = decide (k = 4) := by simp [mayV, k1, k2]
              rw [hv] at hr
              clear hv
              by_cases k4 : k = 4
              · subst k4
                simp only [decide_true] at hr
                subst hr
                clear k1 k1a k1b k2 k2a
                go_enter Try.func19, Try.ntmps19
                go_wp2
                go_ret
                exact ⟨rfl, by (repeat' (first | (with_reducible exact Below.refl _ _) | (with_reducible assumption) | (with_reducible refine Below.alloc ?_ ?_ _) | (with_reducible refine Below.drew ?_) | (with_reducible refine below_drewN ?_ _) | (with_reducible refine Below.setCell ?_ ?_ _) | (with_reducible refine Below.trans ?_ (by assumption)) | go_size))⟩
              · have k4a : (k == 4) = false := by rw [beq_eq_false_iff_ne]; exact k4
                have hr2 : r = false := by rw [← hr]; simp [k4]
                subst hr2
                clear hr k1 k2 k4
                go_enter Try.func19, Try.ntmps19
                go_wp2
                go_ret
                exact ⟨rfl, by (repeat' (first | (with_reducible exact Below.refl _ _) | (with_reducible assumption) | (with_reducible refine Below.alloc ?_ ?_ _) | (with_reducible refine Below.drew ?_) | (with_reducible refine below_drewN ?_ _) | (with_reducible refine Below.setCell ?_ ?_ _) | (with_reducible refine Below.trans ?_ (by assumption)) | go_size))⟩
        · have hr2 : r = false := by rw [← hr]; simp [valOk, qv]
          subst hr2
          clear hr q0
          go_enter Try.func19, Try.ntmps19
          go_wp2
          go_ret
          exact ⟨rfl, by (repeat' (first | (with_reducible exact Below.refl _ _) | (with_reducible assumption) | (with_reducible refine Below.alloc ?_ ?_ _) | (with_reducible refine Below.drew ?_) | (with_reducible refine below_drewN ?_ _) | (with_reducible refine Below.setCell ?_ ?_ _) | (with_reducible refine Below.trans ?_ (by assumption)) | go_size))⟩
      · have hr2 : r = false := by rw [← hr]; simp [valOk, qo]
        subst hr2
        clear hr q0
        go_enter Try.func19, Try.ntmps19
        go_wp2
        go_ret
        exact ⟨rfl, by (repeat' (first | (with_reducible exact Below.refl _ _) | (with_reducible assumption) | (with_reducible refine Below.alloc ?_ ?_ _) | (with_reducible refine Below.drew ?_) | (with_reducible refine below_drewN ?_ _) | (with_reducible refine Below.setCell ?_ ?_ _) | (with_reducible refine Below.trans ?_ (by assumption)) | go_size))⟩
    · have hr2 : r = false := by rw [← hr]; simp [keyOk, q8]
      subst hr2
      clear hr q0
      go_enter Try.func19, Try.ntmps19
      go_wp2
      go_ret
      exact ⟨rfl, by (repeat' (first | (with_reducible exact Below.refl _ _) | (with_reducible assumption) | (with_reducible refine Below.alloc ?_ ?_ _) | (with_reducible refine Below.drew ?_) | (with_reducible refine below_drewN ?_ _) | (with_reducible refine Below.setCell ?_ ?_ _) | (with_reducible refine Below.trans ?_ (by assumption)) | go_size))⟩
end Go.Proofs.Ytiipelccmkidbaa
