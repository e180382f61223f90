/- Cells of disks that are none, or too small. -/
import Derived.Test.YtgbojbcnenljbaaDoorD0
import Derived.Test.YtgbojbcnenljbaaDoorRows
import Derived.WalkKit
import Derived.WalkSpells
import Derived.WalkLawsBesides
import Derived.Handy
import Derived.Deep.QuietTactic
import Derived.BigQuiet
import Derived.Deep.DeepCutAuto
import Derived.Lib.Hide
import Derived.RegionTactic
import Derived.ChangeAlike
import Derived.Laws.ResultCell
import Derived.Outline
namespace Go.Proofs.YtgbojbcnenljbaaDoor
open Go.RowKit

/-- The error that a dull disk is answered with. -/
def dull (n : Nat) : Int := if n = 0 then 1 else 2

set_option maxRecDepth 100000 in
set_option maxHeartbeats 1000000 in
theorem open_dull (p : Value) (n : Nat) (rp rg : Int) (w : World) (hd : DiskN w p n) (hn : n < 156) :
    Calls Tryd.prog 31 #[p, .int .i64 rp, .int .i64 rg] w fun e w' => e = .returned (.tuple #[.pointer none, .int .i64 (dull n)]) ∧ Below w.heap.size w w' := by
  by_cases h0 : n = 0
  · subst h0
    have hdl : dull 0 = 1 := rfl
    rw [hdl]
    go_enter Tryd.func31, Tryd.ntmps31
    go_wp2_with (go_at_call 30; refine (size_any _ _ _ hd).mono ?_; rintro e w1 ⟨rfl, rfl⟩)
    go_ret2
    exact ⟨rfl, Below.refl _ _⟩
  · have hdl : dull n = 2 := by simp [dull, h0]
    have h0b : ((n : Int) == 0) = false := by rw [beq_eq_false_iff_ne]; omega
    rw [hdl]
    clear hdl h0
    go_enter Tryd.func31, Tryd.ntmps31
    go_wp2_with (first
      | (go_at_call 30; refine (size_any _ _ _ hd).mono ?_; rintro e w1 ⟨rfl, rfl⟩)
      | (go_at_call 47; refine (all_any _).mono ?_; rintro e w1 ⟨rfl, hb1⟩))
    go_ret2
    exact ⟨rfl, hb1⟩

theorem dull_ne (n : Nat) : (dull n != 0) = true := by unfold dull; split <;> rfl
theorem dull_ne5 (n : Nat) : (dull n != 5) = true := by unfold dull; split <;> rfl
set_option maxRecDepth 100000 in
set_option maxHeartbeats 1000000 in
theorem load_dull (p : Value) (n : Nat) (rp rg : Int) (w : World) (hd : DiskN w p n) (hn : n < 156) :
    Calls Tryd.prog 11 #[p, .int .i64 rp, .int .i64 rg] w fun e w' => e = .returned (.tuple #[.int .i64 0, .slice none 0 0, .int .i64 (dull n)]) ∧ Below w.heap.size w w' := by
  have hne := dull_ne n
  go_enter Tryd.func11, Tryd.ntmps11
  go_wp2_with (go_at_call 31; refine (open_dull _ _ _ _ _ hd hn).mono ?_; rintro e w1 ⟨rfl, hb1⟩)
  go_ret3
  exact ⟨rfl, hb1⟩
set_option maxRecDepth 100000 in
set_option maxHeartbeats 1000000 in
theorem heal_dull (p : Value) (n : Nat) (rp rg : Int) (w : World) (hd : DiskN w p n) (hn : n < 156) :
    Calls Tryd.prog 12 #[p, .int .i64 rp, .int .i64 rg] w fun e w' => e = .returned (.int .i64 (dull n)) ∧ Below w.heap.size w w' := by
  have hne := dull_ne n
  go_enter Tryd.func12, Tryd.ntmps12
  go_wp2_with (go_at_call 31; refine (open_dull _ _ _ _ _ hd hn).mono ?_; rintro e w1 ⟨rfl, hb1⟩)
  go_ret
  exact ⟨rfl, hb1⟩
set_option maxRecDepth 100000 in
set_option maxHeartbeats 1000000 in
theorem store_dull (p : Value) (n : Nat) (rp rg inc : Int) (b : Value) (w : World) (hd : DiskN w p n) (hn : n < 156) :
    Calls Tryd.prog 13 #[p, .int .i64 rp, .int .i64 rg, .int .i64 inc, b] w fun e w' => e = .returned (.int .i64 (dull n)) ∧ Below w.heap.size w w' := by
  have hne := dull_ne n
  have hne5 := dull_ne5 n
  go_enter Tryd.func13, Tryd.ntmps13
  go_wp2_with (go_at_call 31; refine (open_dull _ _ _ _ _ hd hn).mono ?_; rintro e w1 ⟨rfl, hb1⟩)
  go_ret
  exact ⟨rfl, hb1⟩
end Go.Proofs.YtgbojbcnenljbaaDoor
