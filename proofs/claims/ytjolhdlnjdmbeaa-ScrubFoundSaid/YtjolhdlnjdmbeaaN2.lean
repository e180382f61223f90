/- cmp.Less, slices.BinarySearch at []int, the closure 'live'. -/
import Derived.Test.YtjolhdlnjdmbeaaN1
import Derived.Test.YtjolhdlnjdmbeaaRows
import Derived.WalkKit
import Derived.WalkSpells
import Derived.WalkLawsBesides
import Derived.Handy
import Derived.Deep.QuietTactic
import Derived.BigQuiet
import Derived.Deep.DeepCutAuto
import Derived.Lib.Hide
import Derived.RegionTactic
import Derived.ChangeAlike
namespace Go.Proofs.Ytjolhdlnjdmbeaa
open Go.RowKit

theorem isnan1 (n : Int) (w : World) : Calls Try.prog 27 #[.int .i64 n] w fun e w' => e = .returned (.bool false) ∧ w = w' := by
  go_enter Try.func27, Try.ntmps27
  have h : ((n != n) : Bool) = false := by simp
  go_wp2
  go_ret
  exact ⟨rfl, rfl⟩
theorem isnan2 (n : Int) (w : World) : Calls Try.prog 24 #[.int .i64 n] w fun e w' => e = .returned (.bool false) ∧ w = w' := by
  go_enter Try.func24, Try.ntmps24
  have h : ((n != n) : Bool) = false := by simp
  go_wp2
  go_ret
  exact ⟨rfl, rfl⟩
theorem less_any (n m : Int) (w : World) : Calls Try.prog 23 #[.int .i64 n, .int .i64 m] w fun e w' => e = .returned (.bool (decide (n < m))) ∧ w = w' := by
  by_cases h : n < m
  all_goals
    go_enter Try.func23, Try.ntmps23
    go_wp2_with (go_at_call 27; refine (isnan1 _ _).mono ?_; rintro e w' ⟨rfl, rfl⟩)
    go_ret
    exact ⟨by simp [h], rfl⟩
theorem live_any (i sn : Int) (p : Addr) (w : World) (hp : w.cell? p = some (.int .i64 sn)) (hs : 0 ≤ sn ∧ sn ≤ 1099511627752) :
    Calls Try.prog 17 #[.int .i64 i, .pointer (some p)] w fun e w' => e = .returned (.bool (decide (sn < i ∧ i ≤ sn + 24))) ∧ w = w' := by
  by_cases h1 : sn < i
  all_goals by_cases h2 : i ≤ sn + 24
  all_goals
    go_enter Try.func17, Try.ntmps17
    go_wp2
    all_goals go_ret
    all_goals exact ⟨ret_bool (by simp; omega), rfl⟩


def bsPos (l : List Int) (x : Int) : Nat := (l.filter (fun y => decide (y < x))).length
theorem bs_unique (l : List Int) (x : Int) (i : Nat) (hi : i ≤ l.length) (h1 : ∀ j y, l[j]? = some y → j < i → y < x) (h2 : ∀ j y, l[j]? = some y → i ≤ j → x ≤ y) : bsPos l x = i := by
  unfold bsPos
  have e : l = l.take i ++ l.drop i := by simp
  rw [e, List.filter_append]
  have f1 : (l.take i).filter (fun y => decide (y < x)) = l.take i := by
    rw [List.filter_eq_self]
    intro y hy
    obtain ⟨j, hj, rfl⟩ := List.getElem_of_mem hy
    have hj2 := hj
    rw [List.length_take] at hj2
    have hj3 : j < i := by omega
    have hj4 : j < l.length := by omega
    simp only [List.getElem_take, decide_eq_true_eq]
    exact h1 j _ (by simp [hj4]) hj3
  have f2 : (l.drop i).filter (fun y => decide (y < x)) = [] := by
    rw [List.filter_eq_nil_iff]
    intro y hy
    obtain ⟨j, hj, rfl⟩ := List.getElem_of_mem hy
    rw [List.length_drop] at hj
    simp only [List.getElem_drop, decide_eq_true_eq, Int.not_lt]
    exact h2 (i + j) _ (by rw [List.getElem?_eq_getElem (by omega)]) (by omega)
  rw [f1, f2]
  simp
  omega

def BsInv (l : List Int) (x : Int) (a b : Nat) : Prop := (∀ j y, l[j]? = some y → j < a → y < x) ∧ (∀ j y, l[j]? = some y → b ≤ j → x ≤ y)

theorem sorted_lt {l : List Int} (h : l.Pairwise (· < ·)) {i j : Nat} {a b : Int} (hi : l[i]? = some a) (hj : l[j]? = some b) (hij : i < j) : a < b := by
  obtain ⟨h1, rfl⟩ := List.getElem?_eq_some_iff.1 hi
  obtain ⟨h2, rfl⟩ := List.getElem?_eq_some_iff.1 hj
  exact List.pairwise_iff_getElem.1 h i j h1 h2 hij
theorem bsInv_lo {l : List Int} {x y : Int} {a b m : Nat} (h : l.Pairwise (· < ·)) (hi : BsInv l x a b) (hy : l[m]? = some y) (_hm : a ≤ m) (hyx : y < x) : BsInv l x (m + 1) b := by
  refine ⟨fun j z hz hj => ?_, hi.2⟩
  by_cases e : j = m
  · subst e; rw [hy] at hz; cases hz; exact hyx
  · have := sorted_lt h hz hy (by omega); omega
theorem bsInv_hi {l : List Int} {x y : Int} {a b m : Nat} (h : l.Pairwise (· < ·)) (hi : BsInv l x a b) (hy : l[m]? = some y) (_hm : m < b) (hyx : x ≤ y) : BsInv l x a m := by
  refine ⟨hi.1, fun j z hz hj => ?_⟩
  by_cases e : j = m
  · subst e; rw [hy] at hz; cases hz; exact hyx
  · have := sorted_lt h hy hz (by omega); omega
theorem filter_lt_take {l : List Int} {x : Int} (h : l.Pairwise (· < ·)) : ∀ j y, l[j]? = some y → (j < bsPos l x ↔ y < x) := by
  induction l with
  | nil => intro j y hy; simp at hy
  | cons a l ih =>
    have h' := List.pairwise_cons.1 h
    intro j y hy
    unfold bsPos
    rw [List.filter_cons]
    by_cases ha : a < x
    · simp only [ha, decide_true, if_true, List.length_cons]
      cases j with
      | zero => simp at hy; subst hy; simp [ha]
      | succ j =>
        have := ih h'.2 j y (by simpa using hy)
        unfold bsPos at this
        omega
    · have e : l.filter (fun y => decide (y < x)) = [] := by
        rw [List.filter_eq_nil_iff]
        intro z hz
        have := h'.1 z hz
        simp
        omega
      simp only [ha, decide_false, e]
      cases j with
      | zero => simp at hy; subst hy; simp [ha]
      | succ j =>
        have hz : y ∈ l := List.mem_of_getElem? (by simpa using hy)
        have := h'.1 y hz
        simp
        omega
theorem bs_mem {l : List Int} {x y : Int} (h : l.Pairwise (· < ·)) (hy : l[bsPos l x]? = some y) : decide (x ∈ l) = (y == x) := by
  rw [Bool.eq_iff_iff]
  simp only [decide_eq_true_eq, beq_iff_eq]
  constructor
  · intro hm
    obtain ⟨j, hj⟩ := List.getElem?_of_mem hm
    have h1 := filter_lt_take (x := x) h j x hj
    have h2 := filter_lt_take (x := x) h _ y hy
    have h3 : bsPos l x ≤ j := by omega
    by_cases e : bsPos l x = j
    · subst e; rw [hy] at hj; exact Option.some.inj hj
    · have := sorted_lt h hy hj (by omega); omega
  · rintro rfl
    exact List.mem_of_getElem? hy
theorem bs_nomem {l : List Int} {x : Int} (h : l.Pairwise (· < ·)) (hy : l.length ≤ bsPos l x) : decide (x ∈ l) = false := by
  simp only [decide_eq_false_iff_not]
  intro hm
  obtain ⟨j, hj⟩ := List.getElem?_of_mem hm
  have h1 := filter_lt_take (x := x) h j x hj
  have h2 : j < l.length := by rw [List.getElem?_eq_some_iff] at hj; exact hj.1
  omega

set_option maxHeartbeats 1000000 in
theorem bs_any (ad : Option Addr) (cap : Nat) (l : List Int) (x : Int) (w : World) (hr : Row w ad (l.map (Value.int .i64))) (hl : l.length ≤ 1000000) (hso : l.Pairwise (· < ·)) :
    Calls Try.prog 18 #[.slice ad l.length cap, .int .i64 x] w fun e w' => e = .returned (.tuple #[.int .i64 (bsPos l x), .bool (decide (x ∈ l))]) ∧ ∃ m, w' = w.drewN m := by
  go_enter Try.func18, Try.ntmps18
  refine wp_seq_k (fun K hK => ?_)
  have HK := Lib.hid hK
  clear hK
  go_wp2
  refine HK.out _ _ ?_
  clear HK
  refine wp_seq_k (fun K hK => ?_)
  have HK := Lib.hid hK
  clear hK
  go_wp2
  refine HK.out _ _ ?_
  clear HK
  refine wp_seq_k (fun K hK => ?_)
  have HK := Lib.hid hK
  clear hK
  go_wp2
  refine HK.out _ _ ?_
  clear HK
  refine wp_seq_k (fun K hK => ?_)
  go_cut [7] (fun i wx => i = .int .i64 (bsPos l x) ∧ wx = w)
  case first =>
    go_wp2_with fail
    go_loopw [7, 8] (fun i j wr => ∃ a b : Nat, a ≤ b ∧ b ≤ l.length ∧ i = .int .i64 a ∧ j = .int .i64 b ∧ BsInv l x a b ∧ wr = w)
      (fun i j _ => (intOf j).toNat - (intOf i).toNat)
    case atStart => exact ⟨0, l.length, by omega, by omega, rfl, rfl, ⟨fun _ _ _ h => by omega, fun k y h hk => by rw [List.getElem?_eq_none hk] at h; cases h⟩, rfl⟩
    case round =>
      obtain ⟨a, b, hab, hb, rfl, rfl, hinv, rfl⟩ := hrel
      by_cases hlt : a < b
      · obtain ⟨bb, off, y, rfl, hy, hc⟩ := hr.int (i := (a + b) / 2) (by omega)
        have hlo := bsInv_lo hso hinv hy (by omega)
        have hhi := bsInv_hi hso hinv hy (by omega)
        have HY := Lib.hid hy
        clear hy
        by_cases hyx : y < x
        all_goals
          go_wp2_with (go_at_call 23; refine (less_any _ _ _).mono ?_; rintro e w' ⟨rfl, rfl⟩)
          go_roundw
          case measure => simp [intOf]; omega
        case rel => exact ⟨(a + b) / 2 + 1, b, by omega, hb, by go_num, rfl, hlo hyx, trivial⟩
        case rel => exact ⟨a, (a + b) / 2, by omega, by omega, rfl, by go_num, hhi (by omega), trivial⟩
      · go_wp2
        go_meet
        have := bs_unique l x a (by omega) hinv.1 (by rw [show a = b by omega]; exact hinv.2)
        exact ⟨by rw [this], rfl⟩
  obtain ⟨rfl, rfl⟩ := hcut
  refine hK _ _ ?_; clear hK
  have hle : bsPos l x ≤ l.length := List.length_filter_le _ _
  by_cases hlt : bsPos l x < l.length
  · obtain ⟨bb, off, y, rfl, hy, hc⟩ := hr.int hlt
    have hmem : decide (x ∈ l) = (y == x) := bs_mem hso hy
    rw [hmem]
    have HM := Lib.hid hmem
    clear hmem hy
    generalize bsPos l x = p at *
    cases hyx : (y == x)
    all_goals
      go_wp2_with (go_at_call 24; refine (isnan2 _ _).mono ?_; rintro e w' ⟨rfl, rfl⟩)
      go_returns
      exact ⟨rfl, 0, rfl⟩
  · have hmem : decide (x ∈ l) = false := bs_nomem hso (by omega)
    rw [hmem]
    clear hmem
    generalize bsPos l x = p at *
    go_wp2
    go_returns
    exact ⟨rfl, 0, rfl⟩
end Go.Proofs.Ytjolhdlnjdmbeaa
