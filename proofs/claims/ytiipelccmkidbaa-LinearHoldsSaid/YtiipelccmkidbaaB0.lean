/- Plain: one bit of a word, and a word with one bit more. -/
import Derived.Test.YtiipelccmkidbaaKit
import Derived.Laws.BitsAllLaws
import Derived.Laws.Shifts
import Derived.IntWalk
namespace Go.Proofs.Ytiipelccmkidbaa
open Go.RowKit

theorem bit_get (m n : Nat) (hm : m < 2 ^ 40) : bits .and .u64 ((m : Int) / 2 ^ n) 1 = if m.testBit n then 1 else 0 := by
  have e : ((m : Int) / 2 ^ n) = ((m / 2 ^ n : Nat) : Int) := by push_cast; rfl
  have hd : m / 2 ^ n ≤ m := Nat.div_le_self _ _
  rw [e]
  have := u64_and_nat (m / 2 ^ n) 1 (by omega) (by omega)
  rw [show ((1 : Nat) : Int) = 1 from rfl] at this
  rw [this, Nat.and_one_is_mod, Nat.testBit_eq_decide_div_mod_eq]
  rcases Nat.mod_two_eq_zero_or_one (m / 2 ^ n) with h | h <;> simp [h]
theorem bit_set (m n : Nat) (hm : m < 2 ^ 40) (hn : n < 40) : bits .or .u64 (m : Int) (2 ^ n) = ((m ||| 2 ^ n : Nat) : Int) ∧ m ||| 2 ^ n < 2 ^ 40 := by
  have h2 : 2 ^ n < 2 ^ 40 := Nat.pow_lt_pow_right (by omega) hn
  have := u64_or_nat m (2 ^ n) (by omega) (by omega)
  rw [show ((2 ^ n : Nat) : Int) = 2 ^ n by push_cast; rfl] at this
  exact ⟨this, Nat.or_lt_two_pow hm h2⟩
theorem bit_shl (n : Nat) (hn : n < 40) : IntKind.u64.wrap (2 ^ min n 64) = 2 ^ n := by
  have h2 : 2 ^ n < 2 ^ 40 := Nat.pow_lt_pow_right (by omega) hn
  rw [show min n 64 = n by omega]
  have e : ((2 : Int) ^ n) = ((2 ^ n : Nat) : Int) := by push_cast; rfl
  rw [e]
  clear e
  generalize 2 ^ n = x at *
  exact IntWalk.u64_in _ (by omega)
theorem bit_or (m n : Nat) (hm : m < 2 ^ 40) (hn : n < 40) : bits .or .u64 (m : Int) (IntKind.u64.wrap (2 ^ n)) = ((m ||| 2 ^ n : Nat) : Int) := by
  have h := bit_shl n hn
  rw [show min n 64 = n by omega] at h
  rw [h]
  exact (bit_set m n hm hn).1
theorem bit_test (m n j : Nat) : (m ||| 2 ^ n).testBit j = (m.testBit j || decide (n = j)) := by
  rw [Nat.testBit_or, Nat.testBit_two_pow]
end Go.Proofs.Ytiipelccmkidbaa
