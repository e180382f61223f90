/- Shelves that nobody made. -/
import Derived.Test.YtgbojbcnenljbaaDoorD2
import Derived.Test.YtgbojbcnenljbaaDoorRows
import Derived.WalkKit
import Derived.WalkSpells
import Derived.WalkLawsBesides
import Derived.Handy
import Derived.Deep.QuietTactic
import Derived.BigQuiet
import Derived.Deep.DeepCutAuto
import Derived.Lib.Hide
import Derived.RegionTactic
import Derived.ChangeAlike
import Derived.Laws.ResultCell
import Derived.Laws.EntriesVeiled
import Derived.Outline
namespace Go.Proofs.YtgbojbcnenljbaaDoor
open Go.RowKit

/-- A shelf that nobody made: nil, or one without a disk. -/
def NilS (w : World) (p : Value) : Prop := p = .pointer none ∨ ∃ g, p = .pointer (some ⟨g, 0, none⟩) ∧ w.cell? ⟨g, 3, none⟩ = some (.pointer none)
theorem NilS.below {w w' : World} {p : Value} (h : NilS w p) (hb : Below w.heap.size w w') : NilS w' p := by
  rcases h with h | ⟨g, hp, hc⟩
  · exact .inl h
  · exact .inr ⟨g, hp, (hb.cell (World.block_lt_of_cell? _ _ hc)).trans hc⟩
set_option maxRecDepth 100000 in
theorem snone_any (p : Value) (w : World) (h : NilS w p) : Calls Tryd.prog 36 #[p] w fun e w' => e = .returned (.bool true) ∧ w = w' := by
  rcases h with rfl | ⟨g, rfl, hc⟩
  all_goals
    go_enter Tryd.func36, Tryd.ntmps36
    go_wp2
    go_ret
    exact ⟨rfl, rfl⟩
set_option maxRecDepth 100000 in
theorem sindex_any (p : Value) (w : World) (h : NilS w p) : Calls Tryd.prog 18 #[p] w fun e w' => e = .returned (.int .i64 0) ∧ w = w' := by
  go_enter Tryd.func18, Tryd.ntmps18
  go_wp2_with (go_at_call 36; refine (snone_any _ _ h).mono ?_; rintro e w' ⟨rfl, rfl⟩)
  go_ret
  exact ⟨rfl, rfl⟩
set_option maxRecDepth 100000 in
theorem scount_any (p : Value) (w : World) (h : NilS w p) : Calls Tryd.prog 19 #[p] w fun e w' => e = .returned (.int .i64 0) ∧ w = w' := by
  go_enter Tryd.func19, Tryd.ntmps19
  go_wp2_with (go_at_call 36; refine (snone_any _ _ h).mono ?_; rintro e w' ⟨rfl, rfl⟩)
  go_ret
  exact ⟨rfl, rfl⟩
set_option maxRecDepth 100000 in
theorem sbytes_any (p : Value) (w : World) (h : NilS w p) : Calls Tryd.prog 14 #[p] w fun e w' => e = .returned (.tuple #[.slice none 0 0, .int .i64 1]) ∧ w = w' := by
  go_enter Tryd.func14, Tryd.ntmps14
  go_wp2_with (go_at_call 36; refine (snone_any _ _ h).mono ?_; rintro e w' ⟨rfl, rfl⟩)
  go_ret2
  exact ⟨rfl, rfl⟩
set_option maxRecDepth 100000 in
theorem sasked_any (p : Value) (k : Int) (w : World) (h : NilS w p) : Calls Tryd.prog 38 #[p, .int .i64 k] w fun e w' => e = .returned (.int .i64 1) ∧ w = w' := by
  go_enter Tryd.func38, Tryd.ntmps38
  go_wp2_with (go_at_call 36; refine (snone_any _ _ h).mono ?_; rintro e w' ⟨rfl, rfl⟩)
  go_ret
  exact ⟨rfl, rfl⟩
set_option maxRecDepth 100000 in
theorem schunk_any (p : Value) (k : Int) (w : World) (h : NilS w p) : Calls Tryd.prog 15 #[p, .int .i64 k] w fun e w' => e = .returned (.tuple #[.slice none 0 0, .int .i64 1]) ∧ w = w' := by
  go_enter Tryd.func15, Tryd.ntmps15
  go_wp2_with (go_at_call 38; refine (sasked_any _ _ _ h).mono ?_; rintro e w' ⟨rfl, rfl⟩)
  go_ret2
  exact ⟨rfl, rfl⟩
set_option maxRecDepth 100000 in
theorem sinstall_any (p : Value) (k : Int) (b : Value) (w : World) (h : NilS w p) : Calls Tryd.prog 16 #[p, .int .i64 k, b] w fun e w' => e = .returned (.int .i64 1) ∧ w = w' := by
  go_enter Tryd.func16, Tryd.ntmps16
  go_wp2_with (go_at_call 36; refine (snone_any _ _ h).mono ?_; rintro e w' ⟨rfl, rfl⟩)
  go_ret
  exact ⟨rfl, rfl⟩
set_option maxRecDepth 100000 in
theorem smend_any (p : Value) (k : Int) (b : Value) (w : World) (h : NilS w p) : Calls Tryd.prog 17 #[p, .int .i64 k, b] w fun e w' => e = .returned (.int .i64 1) ∧ w = w' := by
  go_enter Tryd.func17, Tryd.ntmps17
  go_wp2_with (go_at_call 38; refine (sasked_any _ _ _ h).mono ?_; rintro e w' ⟨rfl, rfl⟩)
  go_ret
  exact ⟨rfl, rfl⟩
set_option maxRecDepth 100000 in
theorem swhich_any (p f : Value) (w : World) (h : NilS w p) : Calls Tryd.prog 46 #[p, f] w fun e w' => e = .returned (.slice none 0 0) ∧ w = w' := by
  go_enter Tryd.func46, Tryd.ntmps46
  go_wp2_with (go_at_call 19; refine (scount_any _ _ h).mono ?_; rintro e w' ⟨rfl, rfl⟩)
  go_loop [5, 9] (fun o i => o = .slice none 0 0 ∧ i = .int .i64 0) (fun _ _ => 0)
  case atStart => exact ⟨rfl, rfl⟩
  case round =>
    obtain ⟨rfl, rfl⟩ := hrel
    go_wp2
    go_ret
    exact ⟨rfl, rfl⟩
set_option maxRecDepth 100000 in
theorem shurt_any (p : Value) (w : World) (h : NilS w p) : Calls Tryd.prog 20 #[p] w fun e w' => e = .returned (.slice none 0 0) ∧ w = w' := by
  go_enter Tryd.func20, Tryd.ntmps20
  go_wp2_with (go_at_call 46; refine (swhich_any _ _ _ h).mono ?_; rintro e w' ⟨rfl, rfl⟩)
  go_ret
  exact ⟨rfl, rfl⟩

set_option maxRecDepth 100000 in
set_option maxHeartbeats 1000000 in
theorem sopen_dull (p : Value) (n : Nat) (rp inc : Int) (w : World) (hd : DiskN w p n) (hn : n < 156) :
    Calls Tryd.prog 21 #[p, .int .i64 rp, .int .i64 inc] w fun e w' => e = .returned (.tuple #[.pointer none, .int .i64 (dull n)]) ∧ Below w.heap.size w w' := by
  have hne := dull_ne n
  by_cases h0 : n = 0
  · subst h0
    go_enter Tryd.func21, Tryd.ntmps21
    go_wp2_with (first
      | (go_at_call 30; refine (size_any _ _ _ hd).mono ?_; rintro e w1 ⟨rfl, rfl⟩)
      | (go_at_call 11; refine (load_dull _ _ _ _ _ hd hn).mono ?_; rintro e w1 ⟨rfl, hb1⟩))
    go_ret2
    exact ⟨rfl, hb1⟩
  · have hdl : dull n = 2 := dull_p (by omega)
    have h1 : 0 < n := by omega
    rw [hdl]
    clear hdl hne h0
    go_enter Tryd.func21, Tryd.ntmps21
    go_wp2_with (first
      | (go_at_call 30; refine (size_any _ _ _ hd).mono ?_; rintro e w1 ⟨rfl, rfl⟩)
      | (go_at_call 47; refine (all_any _).mono ?_; rintro e w1 ⟨rfl, hb1⟩))
    go_ret2
    exact ⟨rfl, hb1⟩
end Go.Proofs.YtgbojbcnenljbaaDoor
