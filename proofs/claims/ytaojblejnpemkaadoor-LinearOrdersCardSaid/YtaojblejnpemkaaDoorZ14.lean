/- Texts that the claim leans on, part 14: M22. -/
import Derived.Test.YtaojblejnpemkaaDoorZ1
import Derived.Test.YtaojblejnpemkaaDoorZ2
import Derived.Test.YtaojblejnpemkaaDoorZ3
import Derived.Test.YtaojblejnpemkaaDoorRows
import Derived.WalkKit
import Derived.WalkSpells
import Derived.WalkLawsBesides
import Derived.Handy
import Derived.Deep.QuietTactic
import Derived.BigQuiet
import Derived.Deep.DeepCutAuto
import Derived.Lib.Hide
import Derived.RegionTactic
import Derived.ChangeAlike
import Derived.Laws.ResultCell
import Derived.Deep.RegionHeld3
import Derived.Outline
import Derived.StillTailTactics
import Derived.Deep.RegionWith
import Derived.Laws.BitsAllLaws
import Derived.Laws.Shifts
import Derived.IntWalk
import Derived.Lib.Overlaps
import Derived.ProofKit
import Derived.OpenShut
import Derived.Laws.Strings
import Derived.Laws.CopyOwn
import Derived.Laws.CopyRow
import Derived.Laws.NewBlocks
import Derived.Deep.RegionLaw
namespace Go.Proofs.YtaojblejnpemkaaDoor
open Go.RowKit
def LongR60 (n : Nat) (w : World) (e : Ending) (w' : World) : Prop := (∃ b : Bool, e = .returned (.bool b) ∧ (b = false → n ≤ 60)) ∧ Below w.heap.size w w'
set_option maxRecDepth 100000 in
set_option maxHeartbeats 4000000 in
theorem long60_any (a : Option Addr) (cap : Nat) (l : List Cl) (w : World) (hs : SlC w a cap l) :
    Calls Tryd.prog 8 #[.slice a l.length cap, .int .i64 60] w (LongR60 l.length w) := by
  have hr := hs.row
  have hle := hs.le
  have hmx := hs.max
  unfold maxLen at hmx
  by_cases h60 : 60 < l.length
  · go_enter Tryd.func8, Tryd.ntmps8
    go_wp2
    go_ret
    exact ⟨⟨_, rfl, fun h => by cases h⟩, Below.refl _ _⟩
  · have h60b : l.length ≤ 60 := by omega
    go_enter Tryd.func8, Tryd.ntmps8
    refine wp_seq_k (fun K hK => ?_)
    have HK := Lib.hid hK
    clear hK
    go_wp2
    refine HK.out _ _ ?_
    clear HK
    refine wp_seq_k (fun K hK => ?_)
    have HK := Lib.hid hK
    clear hK
    go_wp2
    refine HK.out _ _ ?_
    clear HK
    go_wp2_with fail
    go_loopw [5] (fun i wr => ∃ k : Nat, k ≤ l.length ∧ i = .int .i64 k ∧ Below w.heap.size w wr) (fun i _ => l.length - (intOf i).toNat)
    case atStart => exact ⟨0, by omega, rfl, Below.refl _ _⟩
    case round =>
      obtain ⟨k, hk, rfl, hbr⟩ := hrel
      by_cases hlt : k < l.length
      · obtain ⟨bb, off, rfl, hblt, ht0⟩ := hr.call (List.getElem?_eq_getElem hlt)
        obtain ⟨c0, c1, c2, c3, c4, c5, c6, c7, c8, c9⟩ := ht0.below hbr hblt
        clear ht0 c0 c8 c9
        generalize l[k] = c at *
        obtain ⟨cli, ⟨kd, key, old, val⟩, ⟨er, fo, va⟩, st, en⟩ := c
        simp only at c1 c2 c3 c4 c5 c6 c7
        have hbs := hbr.size
        have h5 : 50 < key.size ∨ (¬ 50 < key.size ∧ 50 < old.size) ∨ (¬ 50 < key.size ∧ ¬ 50 < old.size ∧ 50 < val.size) ∨ (¬ 50 < key.size ∧ ¬ 50 < old.size ∧ ¬ 50 < val.size ∧ 50 < va.size) ∨ (¬ 50 < key.size ∧ ¬ 50 < old.size ∧ ¬ 50 < val.size ∧ ¬ 50 < va.size) := by omega
        rcases h5 with q1 | ⟨q1, q2⟩ | ⟨q1, q2, q3⟩ | ⟨q1, q2, q3, q4⟩ | ⟨q1, q2, q3, q4⟩
        · skip
          go_wp2_with fail
          have n1 := World.new_ne wr _ c1
          go_region_held3 (fun w' => w'.cell? ⟨bb, off + k * 10 + 1, none⟩ = some (.int .u8 kd) ∧ w'.cell? ⟨bb, off + k * 10 + 2, none⟩ = some (.string key) ∧ w'.cell? ⟨bb, off + k * 10 + 3, none⟩ = some (.string old) ∧ w'.cell? ⟨bb, off + k * 10 + 4, none⟩ = some (.string val) ∧ w'.cell? ⟨bb, off + k * 10 + 5, none⟩ = some (.int .i64 er) ∧ w'.cell? ⟨bb, off + k * 10 + 6, none⟩ = some (.bool fo) ∧ w'.cell? ⟨bb, off + k * 10 + 7, none⟩ = some (.string va))
            (first
              | exact ⟨c1, c2, c3, c4, c5, c6, c7⟩
              | go_keep)
            (fail)
          all_goals
            go_wp2
            go_ret
            exact ⟨⟨_, rfl, fun _ => h60b⟩, by (repeat' (first | (with_reducible exact Below.refl _ _) | (with_reducible assumption) | (with_reducible refine Below.alloc ?_ ?_ _) | (with_reducible refine Below.drew ?_) | (with_reducible refine below_drewN ?_ _) | (with_reducible refine Below.setCell ?_ ?_ _) | (with_reducible refine Below.trans ?_ (by assumption)) | go_size))⟩
        · skip
          go_wp2_with fail
          have n1 := World.new_ne wr _ c1
          go_region_held3 (fun w' => w'.cell? ⟨bb, off + k * 10 + 1, none⟩ = some (.int .u8 kd) ∧ w'.cell? ⟨bb, off + k * 10 + 2, none⟩ = some (.string key) ∧ w'.cell? ⟨bb, off + k * 10 + 3, none⟩ = some (.string old) ∧ w'.cell? ⟨bb, off + k * 10 + 4, none⟩ = some (.string val) ∧ w'.cell? ⟨bb, off + k * 10 + 5, none⟩ = some (.int .i64 er) ∧ w'.cell? ⟨bb, off + k * 10 + 6, none⟩ = some (.bool fo) ∧ w'.cell? ⟨bb, off + k * 10 + 7, none⟩ = some (.string va))
            (first
              | exact ⟨c1, c2, c3, c4, c5, c6, c7⟩
              | go_keep)
            (fail)
          all_goals
            go_wp2
            go_ret
            exact ⟨⟨_, rfl, fun _ => h60b⟩, by (repeat' (first | (with_reducible exact Below.refl _ _) | (with_reducible assumption) | (with_reducible refine Below.alloc ?_ ?_ _) | (with_reducible refine Below.drew ?_) | (with_reducible refine below_drewN ?_ _) | (with_reducible refine Below.setCell ?_ ?_ _) | (with_reducible refine Below.trans ?_ (by assumption)) | go_size))⟩
        · skip
          go_wp2_with fail
          have n1 := World.new_ne wr _ c1
          go_region_held3 (fun w' => w'.cell? ⟨bb, off + k * 10 + 1, none⟩ = some (.int .u8 kd) ∧ w'.cell? ⟨bb, off + k * 10 + 2, none⟩ = some (.string key) ∧ w'.cell? ⟨bb, off + k * 10 + 3, none⟩ = some (.string old) ∧ w'.cell? ⟨bb, off + k * 10 + 4, none⟩ = some (.string val) ∧ w'.cell? ⟨bb, off + k * 10 + 5, none⟩ = some (.int .i64 er) ∧ w'.cell? ⟨bb, off + k * 10 + 6, none⟩ = some (.bool fo) ∧ w'.cell? ⟨bb, off + k * 10 + 7, none⟩ = some (.string va))
            (first
              | exact ⟨c1, c2, c3, c4, c5, c6, c7⟩
              | go_keep)
            (fail)
          all_goals
            go_wp2
            go_ret
            exact ⟨⟨_, rfl, fun _ => h60b⟩, by (repeat' (first | (with_reducible exact Below.refl _ _) | (with_reducible assumption) | (with_reducible refine Below.alloc ?_ ?_ _) | (with_reducible refine Below.drew ?_) | (with_reducible refine below_drewN ?_ _) | (with_reducible refine Below.setCell ?_ ?_ _) | (with_reducible refine Below.trans ?_ (by assumption)) | go_size))⟩
        · skip
          go_wp2_with fail
          have n1 := World.new_ne wr _ c1
          go_region_held3 (fun w' => w'.cell? ⟨bb, off + k * 10 + 1, none⟩ = some (.int .u8 kd) ∧ w'.cell? ⟨bb, off + k * 10 + 2, none⟩ = some (.string key) ∧ w'.cell? ⟨bb, off + k * 10 + 3, none⟩ = some (.string old) ∧ w'.cell? ⟨bb, off + k * 10 + 4, none⟩ = some (.string val) ∧ w'.cell? ⟨bb, off + k * 10 + 5, none⟩ = some (.int .i64 er) ∧ w'.cell? ⟨bb, off + k * 10 + 6, none⟩ = some (.bool fo) ∧ w'.cell? ⟨bb, off + k * 10 + 7, none⟩ = some (.string va))
            (first
              | exact ⟨c1, c2, c3, c4, c5, c6, c7⟩
              | go_keep)
            (fail)
          all_goals
            go_wp2
            go_ret
            exact ⟨⟨_, rfl, fun _ => h60b⟩, by (repeat' (first | (with_reducible exact Below.refl _ _) | (with_reducible assumption) | (with_reducible refine Below.alloc ?_ ?_ _) | (with_reducible refine Below.drew ?_) | (with_reducible refine below_drewN ?_ _) | (with_reducible refine Below.setCell ?_ ?_ _) | (with_reducible refine Below.trans ?_ (by assumption)) | go_size))⟩
        · skip
          go_wp2_with fail
          have n1 := World.new_ne wr _ c1
          go_region_held3 (fun w' => w'.cell? ⟨bb, off + k * 10 + 1, none⟩ = some (.int .u8 kd) ∧ w'.cell? ⟨bb, off + k * 10 + 2, none⟩ = some (.string key) ∧ w'.cell? ⟨bb, off + k * 10 + 3, none⟩ = some (.string old) ∧ w'.cell? ⟨bb, off + k * 10 + 4, none⟩ = some (.string val) ∧ w'.cell? ⟨bb, off + k * 10 + 5, none⟩ = some (.int .i64 er) ∧ w'.cell? ⟨bb, off + k * 10 + 6, none⟩ = some (.bool fo) ∧ w'.cell? ⟨bb, off + k * 10 + 7, none⟩ = some (.string va))
            (first
              | exact ⟨c1, c2, c3, c4, c5, c6, c7⟩
              | go_keep)
            (fail)
          all_goals
            go_wp2
            go_roundw
            case rel => exact ⟨k + 1, by omega, by go_num, by (repeat' (first | (with_reducible exact Below.refl _ _) | (with_reducible assumption) | (with_reducible refine Below.alloc ?_ ?_ _) | (with_reducible refine Below.drew ?_) | (with_reducible refine below_drewN ?_ _) | (with_reducible refine Below.setCell ?_ ?_ _) | (with_reducible refine Below.trans ?_ (by assumption)) | go_size))⟩
            case measure => simp [intOf]; omega
      · go_wp2
        go_ret
        exact ⟨⟨_, rfl, fun _ => h60b⟩, hbr⟩
end Go.Proofs.YtaojblejnpemkaaDoor
