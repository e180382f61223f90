/- A small disk that is made; the law CellNone. -/
import Derived.Test.YtgbojbcnenljbaaGreatDoorD1
import Derived.Test.YtgbojbcnenljbaaGreatDoorRows
import Derived.WalkKit
import Derived.WalkSpells
import Derived.WalkLawsBesides
import Derived.Handy
import Derived.Deep.QuietTactic
import Derived.BigQuiet
import Derived.Deep.DeepCutAuto
import Derived.Lib.Hide
import Derived.RegionTactic
import Derived.ChangeAlike
import Derived.Laws.ResultCell
import Derived.Laws.MakeOwn
import Derived.Laws.Shifts
import Derived.IntWalk
import Derived.Outline
namespace Go.Proofs.YtgbojbcnenljbaaGreatDoor
open Go.RowKit

theorem infoPlace : (Tryz.prog.info? 165).map (fun i => (i.zero.isSome, i.size, i.bytes)) = some (true, 129, 129) := by kernel_rfl
theorem make_places (s : Nat) (hs : s ≤ 1024) : ∃ cs : Array Value, ∀ w : World, (Instr.makeSlice 86 (.int .i64 s) (.int .i64 s)).run Tryz.prog w = .ok (.slice (some ⟨w.heap.size, 0, none⟩) s s) (w.alloc (.cells cs 165)) := by
  have h := infoPlace
  obtain ⟨i, hi, h2⟩ := Option.map_eq_some_iff.1 h
  simp only [Prod.mk.injEq] at h2
  obtain ⟨hz, hsz, hb⟩ := h2
  obtain ⟨z, hz⟩ := Option.isSome_iff_exists.1 hz
  refine ⟨madeCells z.cells (s * 129), fun w => ?_⟩
  have := run_make (P := Tryz.prog) w 86 165 i z Tryz.underlying86 hi hz .i64 .i64 s s (by omega) (by omega) (by rw [hb]; omega) (by omega)
  rw [hsz] at this
  simpa using this

set_option maxRecDepth 100000 in
set_option maxHeartbeats 1000000 in
theorem new_small (s : Nat) (w : World) (h1 : 1 ≤ s) (h2 : s ≤ 1024) :
    Calls Tryz.prog 11 #[.int .i64 s] w fun e w' => (∃ g a, e = .returned (.tuple #[.pointer (some ⟨g, 0, none⟩), .int .i64 0]) ∧ w'.cell? ⟨g, 0, none⟩ = some (.slice a s s)) ∧ Below w.heap.size w w' := by
  obtain ⟨cs, hmk⟩ := make_places s h2
  go_enter Tryz.func11, Tryz.ntmps11
  go_wp2
  go_ret2
  exact ⟨⟨w.heap.size + 1, some ⟨w.heap.size, 0, none⟩, rfl, by simp [go_sem]⟩, by (repeat' (first | (with_reducible exact Below.refl _ _) | (with_reducible assumption) | (with_reducible refine Below.alloc ?_ ?_ _) | (with_reducible refine Below.drew ?_) | (with_reducible refine below_drewN ?_ _) | (with_reducible refine Below.setCell ?_ ?_ _) | (with_reducible refine Below.trans ?_ (by assumption)) | go_size))⟩

theorem small_sec (x : Int) : ∃ s : Nat, 1 ≤ s ∧ s ≤ 155 ∧ wrap64 (1 + wrap64 ((IntKind.u64.wrap x).tmod 155)) = s := by
  have h0 := wrap_u64_nonneg x
  generalize IntKind.u64.wrap x = y at *
  have h1 : y.tmod 155 = y % 155 := Int.tmod_eq_emod_of_nonneg h0
  rw [h1]
  unfold wrap64
  exact ⟨(1 + y % 155).toNat, by omega, by omega, by omega⟩
theorem dull_z : dull 0 = 1 := rfl
theorem dull_p {n : Nat} (h : 1 ≤ n) : dull n = 2 := by unfold dull; rw [if_neg (by omega)]

end Go.Proofs.YtgbojbcnenljbaaGreatDoor
