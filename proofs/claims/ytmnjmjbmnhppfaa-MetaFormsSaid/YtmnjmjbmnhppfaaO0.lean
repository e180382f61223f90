/- Plain: numbers as bytes, the lowest first. No program in sight. -/
import Derived.Test.YtmnjmjbmnhppfaaKit
namespace Go.Proofs.Ytmnjmjbmnhppfaa
open Go.RowKit

/-- A byte's cell; the cells of bytes. -/
def byv (b : UInt8) : Value := .int .u8 (b.toNat : Int)
def bys (l : List UInt8) : List Value := l.map byv
theorem bys_len (l : List UInt8) : (bys l).length = l.length := by simp [bys]
theorem bys_app (l m : List UInt8) : bys (l ++ m) = bys l ++ bys m := by simp [bys]
theorem bys_one {l : List UInt8} : ∀ u ∈ bys l, u.oneCell' = true := by
  intro u hu
  simp only [bys, List.mem_map] at hu
  obtain ⟨z, _, rfl⟩ := hu
  rfl
theorem Row.byte {w : World} {a : Option Addr} {l : List UInt8} (h : Row w a (bys l)) {i : Nat} (hi : i < l.length) :
    ∃ b off, a = some ⟨b, off, none⟩ ∧ w.cell? ⟨b, off + i, none⟩ = some (.int .u8 (l[i].toNat : Int)) := by
  obtain ⟨b, off, ha, hc⟩ := h.at (k := i) (by rw [bys_len]; exact hi)
  exact ⟨b, off, ha, hc i _ (by simp [bys, hi, byv])⟩
theorem Row.byteAt {w : World} {b off : Nat} {l : List UInt8} (h : Row w (some ⟨b, off, none⟩) (bys l)) {i : Nat} (hi : i < l.length) : w.cell? ⟨b, off + i, none⟩ = some (.int .u8 (l[i].toNat : Int)) := by
  obtain ⟨b', off', e, hc⟩ := h.byte hi
  cases e
  exact hc

def manyI (w : Int) : Int := if w = 1 then 256 else if w = 2 then 65536 else if w = 4 then 4294967296 else if w = 6 then 281474976710656 else 0
theorem manyI_bd (w : Int) : 0 ≤ manyI w ∧ manyI w ≤ 281474976710656 := by unfold manyI; split; omega; split; omega; split; omega; split <;> omega
def fitsB (w n : Int) : Bool := decide (0 ≤ n) && decide (n < manyI w)
theorem fits_w {w n : Int} (h : fitsB w n = true) : (w = 1 ∨ w = 2 ∨ w = 4 ∨ w = 6) ∧ 0 ≤ n ∧ n < manyI w := by
  simp only [fitsB, Bool.and_eq_true, decide_eq_true_eq] at h
  refine ⟨?_, h.1, h.2⟩
  have := h.2
  unfold manyI at this
  split at this; · omega
  split at this; · omega
  split at this; · omega
  split at this <;> omega

/-- A number's bytes, the lowest first. -/
def le : Nat → Nat → List UInt8
  | 0, _ => []
  | k + 1, n => UInt8.ofNat (n % 256) :: le k (n / 256)
theorem le_len (k n : Nat) : (le k n).length = k := by
  induction k generalizing n with
  | zero => rfl
  | succ k ih => simp [le, ih]
theorem le_at (k n i : Nat) (h : i < k) : (le k n)[i]? = some (UInt8.ofNat (n / 256 ^ i % 256)) := by
  induction k generalizing n i with
  | zero => omega
  | succ k ih =>
    cases i with
    | zero => simp [le]
    | succ i =>
      simp only [le, List.getElem?_cons_succ]
      rw [ih (n / 256) i (by omega), Nat.div_div_eq_div_mul, Nat.pow_succ', ]
theorem le_snoc (k n : Nat) : le (k + 1) n = le k n ++ [UInt8.ofNat (n / 256 ^ k % 256)] := by
  induction k generalizing n with
  | zero => simp [le]
  | succ k ih =>
    rw [le, ih (n / 256)]
    simp only [le, List.cons_append, List.cons.injEq, true_and, List.append_cancel_left_eq, and_true]
    rw [Nat.div_div_eq_div_mul, Nat.pow_succ']
theorem byv_shift (n j : Nat) : byv (UInt8.ofNat (n / 256 ^ j % 256)) = .int .u8 ((n : Int) / 2 ^ (8 * j) % 256) := by
  unfold byv
  congr 1
  have e : (2 : Int) ^ (8 * j) = ((256 ^ j : Nat) : Int) := by
    rw [Int.pow_mul]; norm_cast
  rw [e, ← Int.natCast_ediv, show (256 : Int) = ((256 : Nat) : Int) from rfl, ← Int.natCast_emod]
  congr 1
  simp
theorem byv_low (n : Nat) : byv (UInt8.ofNat (n % 256)) = .int .u8 ((n : Int) % 256) := by
  have := byv_shift n 0
  simpa using this
/-- The number that bytes are. -/
def ofLe : List UInt8 → Nat
  | [] => 0
  | b :: l => b.toNat + 256 * ofLe l
theorem ofLe_lt : ∀ l : List UInt8, ofLe l < 256 ^ l.length
  | [] => by simp [ofLe]
  | b :: l => by
    have h1 := ofLe_lt l
    have h2 : b.toNat < 256 := b.toNat_lt
    simp only [ofLe, List.length_cons, Nat.pow_succ]
    omega
theorem ofLe_le (k n : Nat) (h : n < 256 ^ k) : ofLe (le k n) = n := by
  induction k generalizing n with
  | zero => simp at h; subst h; rfl
  | succ k ih =>
    simp only [le, ofLe]
    rw [ih (n / 256) (by rw [Nat.pow_succ] at h; omega)]
    have : (UInt8.ofNat (n % 256)).toNat = n % 256 := by simp
    rw [this]; omega
theorem le_ofLe : ∀ l : List UInt8, le l.length (ofLe l) = l
  | [] => rfl
  | b :: l => by
    have h2 : b.toNat < 256 := b.toNat_lt
    simp only [List.length_cons, le, ofLe]
    rw [show (b.toNat + 256 * ofLe l) / 256 = ofLe l by omega, show (b.toNat + 256 * ofLe l) % 256 = b.toNat by omega, le_ofLe l]
    simp
theorem ofLe_app (l m : List UInt8) : ofLe (l ++ m) = ofLe l + 256 ^ l.length * ofLe m := by
  induction l with
  | nil => simp [ofLe]
  | cons b l ih =>
    simp only [List.cons_append, ofLe, ih, List.length_cons, Nat.pow_succ]
    rw [Nat.mul_add, Nat.mul_comm (256 ^ l.length) 256, Nat.mul_assoc]
    omega
end Go.Proofs.Ytmnjmjbmnhppfaa
