/- The reference of layer 1, walked: width, Fits, Put, Get, Same, Copy. -/
import Derived.Test.YtmnjmjbmnhppfaaO2
import Derived.Test.YtmnjmjbmnhppfaaRows
import Derived.WalkKit
import Derived.WalkSpells
import Derived.WalkLawsBesides
import Derived.Handy
import Derived.Deep.QuietTactic
import Derived.BigQuiet
import Derived.Deep.DeepCutAuto
import Derived.Lib.Hide
import Derived.RegionTactic
import Derived.ChangeAlike
namespace Go.Proofs.Ytmnjmjbmnhppfaa
open Go.RowKit

def widthB (k : Int) : Bool := k == 1 || k == 2 || k == 4 || k == 6
theorem width_any (k : Int) (w : World) : Calls Try.prog 93 #[.int .i64 k] w fun e w' => e = .returned (.bool (widthB k)) ∧ w = w' := by
  by_cases h : k = 1 ∨ k = 2 ∨ k = 4 ∨ k = 6
  · rcases h with rfl | rfl | rfl | rfl
    all_goals
      go_enter Try.func93, Try.ntmps93
      go_wp2
      go_ret
      exact ⟨rfl, rfl⟩
  · have h1 : (k == 1) = false := by rw [beq_eq_false_iff_ne]; omega
    have h2 : (k == 2) = false := by rw [beq_eq_false_iff_ne]; omega
    have h3 : (k == 4) = false := by rw [beq_eq_false_iff_ne]; omega
    have h4 : (k == 6) = false := by rw [beq_eq_false_iff_ne]; omega
    go_enter Try.func93, Try.ntmps93
    go_wp2
    go_ret
    exact ⟨ret_bool (by simp [widthB, h1, h2, h3, h4]), rfl⟩
theorem widthB_many (k : Int) : widthB k = !(manyI k == 0) := by
  unfold widthB manyI
  by_cases h1 : k = 1; · subst h1; rfl
  by_cases h2 : k = 2; · subst h2; rfl
  by_cases h3 : k = 4; · subst h3; rfl
  by_cases h4 : k = 6; · subst h4; rfl
  simp [h1, h2, h3, h4]

theorem fits_pow {kk nn : Nat} (hk : kk = 1 ∨ kk = 2 ∨ kk = 4 ∨ kk = 6) : fitsB kk nn = (((nn / 256 ^ kk : Nat) : Int) == 0) := by
  have h : (((nn / 256 ^ kk : Nat) : Int) == 0) = decide (nn < 256 ^ kk) := by
    rw [Bool.eq_iff_iff]
    simp only [beq_iff_eq, decide_eq_true_eq]
    rw [show (((nn / 256 ^ kk : Nat) : Int) = 0 ↔ nn / 256 ^ kk = 0) from by omega, Nat.div_eq_zero_iff]
    constructor
    · rintro (h | h)
      · have := Nat.pow_pos (n := kk) (show 0 < 256 by omega)
        omega
      · exact h
    · intro h; exact .inr h
  rw [h]
  unfold fitsB manyI
  rcases hk with rfl | rfl | rfl | rfl
  all_goals
    rw [Bool.eq_iff_iff]
    simp
    try omega

set_option maxHeartbeats 1000000 in
theorem rfits_any (k n : Int) (w : World) (hn : n ≤ 9223372036854775807) : Calls Try.prog 90 #[.int .i64 k, .int .i64 n] w fun e w' => e = .returned (.bool (fitsB k n)) ∧ w = w' := by
  by_cases hk : k = 1 ∨ k = 2 ∨ k = 4 ∨ k = 6
  · have hw : widthB k = true := by rcases hk with rfl | rfl | rfl | rfl <;> rfl
    have HW := Lib.hid hw
    clear hw
    by_cases h0 : 0 ≤ n
    · obtain ⟨kk, rfl⟩ : ∃ kk : Nat, k = kk := ⟨k.toNat, by omega⟩
      obtain ⟨nn, rfl⟩ : ∃ nn : Nat, n = nn := ⟨n.toNat, by omega⟩
      have hk6 : kk ≤ 6 := by omega
      rw [fits_pow (show kk = 1 ∨ kk = 2 ∨ kk = 4 ∨ kk = 6 by omega)]
      go_enter Try.func90, Try.ntmps90
      refine wp_seq_k (fun K hK => ?_)
      have HK := Lib.hid hK
      clear hK
      go_wp2
      refine HK.out _ _ ?_
      clear HK
      refine wp_seq_k (fun K hK => ?_)
      have HK := Lib.hid hK
      clear hK
      go_wp2_with (go_at_call 93; refine (width_any _ _).mono ?_; rintro e w' ⟨rfl, rfl⟩; rw [HW.out])
      refine HK.out _ _ ?_
      clear HK
      refine wp_seq_k (fun K hK => ?_)
      go_cut [1] (fun n wx => n = .int .i64 ((nn / 256 ^ kk : Nat) : Int) ∧ wx = w)
      case first =>
        go_wp2_with fail
        go_loopw [1, 5] (fun n i wr => ∃ j : Nat, j ≤ kk ∧ i = .int .i64 j ∧ n = .int .i64 ((nn / 256 ^ j : Nat) : Int) ∧ wr = w) (fun _ i _ => kk - (intOf i).toNat)
        case atStart => exact ⟨0, by omega, rfl, by simp, rfl⟩
        case round =>
          obtain ⟨j, hj, rfl, rfl, rfl⟩ := hrel
          have hq : nn / 256 ^ (j + 1) = nn / 256 ^ j / 256 := by rw [Nat.pow_succ, Nat.div_div_eq_div_mul]
          have hqn : nn / 256 ^ j ≤ nn := Nat.div_le_self _ _
          by_cases hlt : j < kk
          · generalize nn / 256 ^ j = q at *
            have HQ := Lib.hid hq
            clear hq
            go_wp2
            refine ⟨⟨j + 1, by omega, by go_num, ?_, by first | trivial | rfl⟩, by simp [intOf]; omega⟩
            rw [HQ.out]
            exact int_eq (by omega)
          · obtain rfl : j = kk := by omega
            clear hq
            generalize nn / 256 ^ j = q at *
            go_wp2
            go_meet
            exact ⟨rfl, by first | trivial | rfl⟩
      obtain ⟨rfl, rfl⟩ := hcut
      refine hK _ _ ?_; clear hK
      generalize nn / 256 ^ kk = q at *
      go_wp2
      go_ret
      exact ⟨rfl, rfl⟩
    · go_enter Try.func90, Try.ntmps90
      go_wp2_with (go_at_call 93; refine (width_any _ _).mono ?_; rintro e w' ⟨rfl, rfl⟩; rw [HW.out])
      go_ret
      exact ⟨ret_bool (by unfold fitsB; rw [decide_eq_false (by omega)]; rfl), rfl⟩
  · have hm : manyI k = 0 := by unfold manyI; rw [if_neg (by omega), if_neg (by omega), if_neg (by omega), if_neg (by omega)]
    have hw : widthB k = false := by rw [widthB_many, hm]; rfl
    have HW := Lib.hid hw
    have hf : fitsB k n = false := by unfold fitsB; rw [hm]; simp
    have HF := Lib.hid hf
    clear hw hm hf
    go_enter Try.func90, Try.ntmps90
    go_wp2_with (go_at_call 93; refine (width_any _ _).mono ?_; rintro e w' ⟨rfl, rfl⟩; rw [HW.out])
    go_ret
    exact ⟨ret_bool HF.out.symm, rfl⟩
end Go.Proofs.Ytmnjmjbmnhppfaa
