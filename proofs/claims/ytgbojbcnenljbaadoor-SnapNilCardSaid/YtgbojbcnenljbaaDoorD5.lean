/- The law SnapNil, walked. -/
import Derived.Test.YtgbojbcnenljbaaDoorD4
import Derived.Test.YtgbojbcnenljbaaDoorRows
import Derived.WalkKit
import Derived.WalkSpells
import Derived.WalkLawsBesides
import Derived.Handy
import Derived.Deep.QuietTactic
import Derived.BigQuiet
import Derived.Deep.DeepCutAuto
import Derived.Lib.Hide
import Derived.RegionTactic
import Derived.ChangeAlike
import Derived.Laws.ResultCell
import Derived.Outline
namespace Go.Proofs.YtgbojbcnenljbaaDoor
open Go.RowKit

set_option maxRecDepth 100000 in
set_option maxHeartbeats 4000000 in
theorem snapNil_law (n rp inc sec : Int) (ba : Option Addr) (bl bc : Nat) (w : World) (hb : bl ≤ maxLen) :
    Calls Tryd.prog 5 #[.int .i64 n, .int .i64 rp, .int .i64 inc, .int .i64 sec, .slice ba bl bc] w fun e w' => e = .returned (.bool true) ∧ Below w.heap.size w w' := by
  unfold maxLen at hb
  by_cases h100 : 700 < bl
  · go_enter Tryd.func5, Tryd.ntmps5
    go_wp2
    go_ret
    exact ⟨rfl, Below.refl _ _⟩
  · go_enter Tryd.func5, Tryd.ntmps5
    go_wp2_with fail
    have hA : ((w.alloc (Obj.cells #[.int .i64 0, .int .i64 0, .int .i64 0, .pointer none, .int .i64 0, .int .i64 0] 53)).alloc (Obj.cells #[.pointer none, .pointer (some ⟨w.heap.size, 0, none⟩)] 49)).heap[w.heap.size]? = some (Obj.cells #[.int .i64 0, .int .i64 0, .int .i64 0, .pointer none, .int .i64 0, .int .i64 0] 53 (0, 0)) := (heap_alloc_old _ _ (by simp)).trans (heap_alloc_new w _)
    have hB := heap_alloc_new (w.alloc (Obj.cells #[.int .i64 0, .int .i64 0, .int .i64 0, .pointer none, .int .i64 0, .int .i64 0] 53)) (Obj.cells #[.pointer none, .pointer (some ⟨w.heap.size, 0, none⟩)] 49)
    have hbN : Below w.heap.size w ((w.alloc (Obj.cells #[.int .i64 0, .int .i64 0, .int .i64 0, .pointer none, .int .i64 0, .int .i64 0] 53)).alloc (Obj.cells #[.pointer none, .pointer (some ⟨w.heap.size, 0, none⟩)] 49)) := ((Below.refl _ _).alloc (Nat.le_refl _) _).alloc (by simp) _
    have hsz : (w.alloc (Obj.cells #[.int .i64 0, .int .i64 0, .int .i64 0, .pointer none, .int .i64 0, .int .i64 0] 53)).heap.size = w.heap.size + 1 := by simp
    rw [hsz] at hB
    generalize (w.alloc (Obj.cells #[.int .i64 0, .int .i64 0, .int .i64 0, .pointer none, .int .i64 0, .int .i64 0] 53)).alloc (Obj.cells #[.pointer none, .pointer (some ⟨w.heap.size, 0, none⟩)] 49) = w2 at *
    have z1 : NilS w2 (.pointer (some ⟨w.heap.size, 0, none⟩)) := .inr ⟨w.heap.size, rfl, by simp [World.cell?, hA]⟩
    have k0 : w2.cell? ⟨w.heap.size + 1, 0, none⟩ = some (.pointer none) := by simp [World.cell?, hB]
    have k1 : w2.cell? ⟨w.heap.size + 1, 1, none⟩ = some (.pointer (some ⟨w.heap.size, 0, none⟩)) := by simp [World.cell?, hB]
    clear hA hB hsz
    go_loop [13] (fun i => ∃ k : Nat, k ≤ 2 ∧ i = .int .i64 k) (fun i => 2 - (intOf i).toNat)
    case atStart => exact ⟨0, by omega, rfl⟩
    case round =>
      obtain ⟨k, hk, rfl⟩ := hrel
      by_cases hk3 : k < 2
      · have h3 : k = 0 ∨ k = 1 := by omega
        rcases h3 with rfl | rfl
        · have hd : NilS w2 (.pointer none) := .inl rfl
          go_wp2_with (first
            | (go_at_call 14; refine (sbytes_any _ _ hd).mono ?_; rintro e w3 ⟨rfl, rfl⟩)
            | (go_at_call 15; refine (schunk_any _ _ _ hd).mono ?_; rintro e w3 ⟨rfl, rfl⟩)
            | (go_at_call 16; refine (sinstall_any _ _ _ _ hd).mono ?_; rintro e w3 ⟨rfl, rfl⟩)
            | (go_at_call 17; refine (smend_any _ _ _ _ hd).mono ?_; rintro e w3 ⟨rfl, rfl⟩)
            | (go_at_call 18; refine (sindex_any _ _ hd).mono ?_; rintro e w3 ⟨rfl, rfl⟩)
            | (go_at_call 19; refine (scount_any _ _ hd).mono ?_; rintro e w3 ⟨rfl, rfl⟩)
            | (go_at_call 20; refine (shurt_any _ _ hd).mono ?_; rintro e w3 ⟨rfl, rfl⟩))
          go_round
          case rel => exact ⟨1, by omega, by rfl⟩
          case measure => simp [intOf]
        · have hd : NilS w2 (.pointer (some ⟨w.heap.size, 0, none⟩)) := z1
          go_wp2_with (first
            | (go_at_call 14; refine (sbytes_any _ _ hd).mono ?_; rintro e w3 ⟨rfl, rfl⟩)
            | (go_at_call 15; refine (schunk_any _ _ _ hd).mono ?_; rintro e w3 ⟨rfl, rfl⟩)
            | (go_at_call 16; refine (sinstall_any _ _ _ _ hd).mono ?_; rintro e w3 ⟨rfl, rfl⟩)
            | (go_at_call 17; refine (smend_any _ _ _ _ hd).mono ?_; rintro e w3 ⟨rfl, rfl⟩)
            | (go_at_call 18; refine (sindex_any _ _ hd).mono ?_; rintro e w3 ⟨rfl, rfl⟩)
            | (go_at_call 19; refine (scount_any _ _ hd).mono ?_; rintro e w3 ⟨rfl, rfl⟩)
            | (go_at_call 20; refine (shurt_any _ _ hd).mono ?_; rintro e w3 ⟨rfl, rfl⟩))
          go_round
          case rel => exact ⟨2, by omega, by rfl⟩
          case measure => simp [intOf]
      · have : k = 2 := by omega
        subst this
        go_wp2_with fail
        obtain ⟨s, hs1, hs2, hse⟩ := small_sec sec
        rw [hse]
        clear hse
        refine (new_small s _ hs1 (by omega)).mono ?_
        rintro e w3 ⟨⟨g, a, rfl, hg⟩, hb3⟩
        have d1 : DiskN w3 (.pointer none) 0 := .inl ⟨rfl, rfl⟩
        have d2 : DiskN w3 (.pointer (some ⟨g, 0, none⟩)) s := .inr ⟨g, a, s, rfl, hg⟩
        have HD1 := Lib.hid dull_z
        have HD2 := Lib.hid (dull_p hs1)
        clear hg
        go_wp2_with (first
          | (go_at_call 21; (with_reducible refine (sopen_dull (.pointer none) _ _ _ _ d1 (by omega)).mono ?_); rintro e w4 ⟨rfl, hb4⟩; rw [HD1.out])
          | (go_at_call 21; refine (sopen_dull _ _ _ _ _ (d2.below hb4) (by omega)).mono ?_; rintro e w5 ⟨rfl, hb5⟩; rw [HD2.out]))
        go_ret
        have hb23 := hbN.trans (hb3.mono hbN.size)
        have hb24 := hb23.trans (hb4.mono hb23.size)
        exact ⟨rfl, hb24.trans (hb5.mono hb24.size)⟩
end Go.Proofs.YtgbojbcnenljbaaDoor
