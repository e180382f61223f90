/- ScrubLooks. -/
import Derived.Test.YtjolhdlnjdmbeaaL1
import Derived.Test.YtjolhdlnjdmbeaaRows
import Derived.WalkKit
import Derived.WalkSpells
import Derived.WalkLawsBesides
import Derived.Handy
import Derived.Deep.QuietTactic
import Derived.BigQuiet
import Derived.Deep.DeepCutAuto
import Derived.Lib.Hide
import Derived.RegionTactic
import Derived.ChangeAlike
namespace Go.Proofs.Ytjolhdlnjdmbeaa
open Go.RowKit

set_option maxHeartbeats 1000000 in
theorem looks_law (s c snap count : Int) (w : World) :
    Calls Try.prog 3 #[.agg #[.int .i64 s, .int .i64 c], .int .i64 snap, .int .i64 count] w fun e w' => e = .returned (.bool true) ∧ Below w.heap.size w w' := by
  go_enter Try.func3, Try.ntmps3
  go_wp2_with fail
  refine (next_any _ _ _ _ _).mono ?_
  rintro e w1 ⟨rfl, hb1⟩
  have c0 := cell_later (a := ⟨w.heap.size, 0, none⟩) hb1 (by simp [go_sem]; rfl)
  have c1 := cell_later (a := ⟨w.heap.size, 1, none⟩) hb1 (by simp [go_sem]; rfl)
  have hz1 : w.heap.size < w1.heap.size := by have := hb1.size; simp at this; omega
  go_wp2_with fail
  refine (rnext_any _ _ _ _ _).mono ?_
  rintro e w2 ⟨rfl, hb2⟩
  have c2 := cell_later (a := ⟨w1.heap.size, 0, none⟩) hb2 (by simp [go_sem]; rfl)
  have c3 := cell_later (a := ⟨w1.heap.size, 1, none⟩) hb2 (by simp [go_sem]; rfl)
  have hz2 : w1.heap.size < w2.heap.size := by have := hb2.size; simp at this; omega
  have d1 : ((nxI s snap == nxI s snap) : Bool) = true := by simp
  go_wp2_with (go_at_call 9; refine (rounds_any _ _).mono ?_; rintro e w3 ⟨rfl, rfl⟩)
  go_returns
  refine ⟨rfl, ?_⟩
  have hb3 : Below w.heap.size w w1 := (((Below.refl _ _).alloc (Nat.le_refl _) _)).trans (hb1.mono (by simp))
  have hb4 : Below w.heap.size w w2 := (hb3.alloc (by omega) _).trans (hb2.mono (by simp; omega))
  exact hb4.alloc (by omega) _
end Go.Proofs.Ytjolhdlnjdmbeaa
