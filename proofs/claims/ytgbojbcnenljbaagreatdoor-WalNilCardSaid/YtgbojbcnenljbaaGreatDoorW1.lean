/- Logs that nobody made; the law's own guard at a lone act. -/
import Derived.Test.YtgbojbcnenljbaaGreatDoorD2
import Derived.Test.YtgbojbcnenljbaaGreatDoorRows
import Derived.WalkKit
import Derived.WalkSpells
import Derived.WalkLawsBesides
import Derived.Handy
import Derived.Deep.QuietTactic
import Derived.BigQuiet
import Derived.Deep.DeepCutAuto
import Derived.Lib.Hide
import Derived.RegionTactic
import Derived.ChangeAlike
import Derived.Laws.ResultCell
import Derived.Laws.EntriesVeiled
import Derived.Outline
namespace Go.Proofs.YtgbojbcnenljbaaGreatDoor
open Go.RowKit

theorem new2 (w : World) (A B : Obj) : ((w.alloc A).alloc B).heap[w.heap.size + 1]? = some B := by
  have h := heap_alloc_new (w.alloc A) B
  rwa [show (w.alloc A).heap.size = w.heap.size + 1 by simp] at h
theorem box1 (w : World) (o : Obj) : Below w.heap.size w (w.alloc o) := (Below.refl _ _).alloc (Nat.le_refl _) _

set_option maxRecDepth 100000 in
theorem great5_zero (g : Nat) (w : World) (hg : w.heap[g]? = some (.cells #[.int .u8 0, .int .i64 0, .int .i64 0, .slice none 0 0, .slice none 0 0] 34 (0, 0))) :
    Calls Tryz.prog 28 #[.slice (some ⟨g, 0, none⟩) 1 1] w fun e w' => e = .returned (.bool false) ∧ w = w' := by
  have c3 : w.cell? ⟨g, 3, none⟩ = some (.slice none 0 0) := by simp [World.cell?, hg]
  have c4 : w.cell? ⟨g, 4, none⟩ = some (.slice none 0 0) := by simp [World.cell?, hg]
  clear hg
  go_enter Tryz.func28, Tryz.ntmps28
  go_wp2_with fail
  go_loop [3] (fun i => ∃ k : Nat, k ≤ 1 ∧ i = .int .i64 k) (fun i => 1 - (intOf i).toNat)
  case atStart => exact ⟨0, by omega, rfl⟩
  case round =>
    obtain ⟨k, hk, rfl⟩ := hrel
    have h2 : k = 0 ∨ k = 1 := by omega
    rcases h2 with rfl | rfl
    · go_wp2
      go_round
      case rel => exact ⟨1, by omega, by rfl⟩
      case measure => simp [intOf]
    · go_wp2
      go_ret
      exact ⟨rfl, rfl⟩
set_option maxRecDepth 100000 in
set_option maxHeartbeats 1000000 in
theorem great6_zero (g : Nat) (w : World) (hg : w.heap[g]? = some (.cells #[.bool false, .int .i64 0, .int .i64 0, .int .i64 0, .int .i64 0, .int .i64 0, .slice none 0 0, .int .u8 0, .int .i64 0, .int .i64 0, .slice none 0 0, .slice none 0 0] 36 (0, 0))) :
    Calls Tryz.prog 13 #[.slice (some ⟨g, 0, none⟩) 1 1] w fun e w' => e = .returned (.bool false) ∧ Below w.heap.size w w' := by
  have c6 : w.cell? ⟨g, 6, none⟩ = some (.slice none 0 0) := by simp [World.cell?, hg]
  have c7 : w.cell? ⟨g, 7, none⟩ = some (.int .u8 0) := by simp [World.cell?, hg]
  have c8 : w.cell? ⟨g, 8, none⟩ = some (.int .i64 0) := by simp [World.cell?, hg]
  have c9 : w.cell? ⟨g, 9, none⟩ = some (.int .i64 0) := by simp [World.cell?, hg]
  have c10 : w.cell? ⟨g, 10, none⟩ = some (.slice none 0 0) := by simp [World.cell?, hg]
  have c11 : w.cell? ⟨g, 11, none⟩ = some (.slice none 0 0) := by simp [World.cell?, hg]
  clear hg
  go_enter Tryz.func13, Tryz.ntmps13
  go_wp2_with fail
  go_loopw [3] (fun i wr => ∃ k : Nat, k ≤ 1 ∧ i = .int .i64 k ∧ Below w.heap.size w wr ∧ (k = 0 → w = wr)) (fun i _ => 1 - (intOf i).toNat)
  case atStart => exact ⟨0, by omega, rfl, Below.refl _ _, fun _ => rfl⟩
  case round =>
    obtain ⟨k, hk, rfl, hbr, hw⟩ := hrel
    have h2 : k = 0 ∨ k = 1 := by omega
    rcases h2 with rfl | rfl
    · have := hw rfl
      subst this
      clear hw
      go_wp2_with (go_at_call 28; refine (great5_zero _ _ (heap_alloc_new _ _)).mono ?_; rintro e w1 ⟨rfl, rfl⟩)
      go_roundw
      case rel => exact ⟨1, by omega, by rfl, box1 _ _, fun h => by cases h⟩
      case measure => simp [intOf]
    · go_wp2
      go_ret
      exact ⟨rfl, hbr⟩

def SomeB (w : World) (e : Ending) (w' : World) : Prop := (∃ b, e = .returned (.bool b)) ∧ Below w.heap.size w w'
set_option maxRecDepth 100000 in
set_option maxHeartbeats 2000000 in
theorem great11_one (g : Nat) (ek ec es ok : Int) (key old val : ByteArray) (w : World) (hg : w.heap[g]? = some (.cells #[.int .u8 0, .int .i64 0, .int .i64 0, .int .i64 0, .int .i64 0, .int .u8 ek, .int .i64 ec, .int .i64 es, .int .u8 ok, .string key, .string old, .string val, .bool false, .int .i64 0, .int .i64 0, .int .i64 0, .int .i64 0, .int .i64 0, .slice none 0 0, .int .u8 0, .int .i64 0, .int .i64 0, .slice none 0 0, .slice none 0 0] 38 (0, 0))) :
    Calls Tryz.prog 4 #[.slice (some ⟨g, 0, none⟩) 1 1] w (SomeB w) := by
  have c8 : w.cell? ⟨g, 8, none⟩ = some (.int .u8 ok) := by simp [World.cell?, hg]
  have c9 : w.cell? ⟨g, 9, none⟩ = some (.string key) := by simp [World.cell?, hg]
  have c10 : w.cell? ⟨g, 10, none⟩ = some (.string old) := by simp [World.cell?, hg]
  have c11 : w.cell? ⟨g, 11, none⟩ = some (.string val) := by simp [World.cell?, hg]
  have c12 : w.cell? ⟨g, 12, none⟩ = some (.bool false) := by simp [World.cell?, hg]
  have c13 : w.cell? ⟨g, 13, none⟩ = some (.int .i64 0) := by simp [World.cell?, hg]
  have c14 : w.cell? ⟨g, 14, none⟩ = some (.int .i64 0) := by simp [World.cell?, hg]
  have c15 : w.cell? ⟨g, 15, none⟩ = some (.int .i64 0) := by simp [World.cell?, hg]
  have c16 : w.cell? ⟨g, 16, none⟩ = some (.int .i64 0) := by simp [World.cell?, hg]
  have c17 : w.cell? ⟨g, 17, none⟩ = some (.int .i64 0) := by simp [World.cell?, hg]
  have c18 : w.cell? ⟨g, 18, none⟩ = some (.slice none 0 0) := by simp [World.cell?, hg]
  have c19 : w.cell? ⟨g, 19, none⟩ = some (.int .u8 0) := by simp [World.cell?, hg]
  have c20 : w.cell? ⟨g, 20, none⟩ = some (.int .i64 0) := by simp [World.cell?, hg]
  have c21 : w.cell? ⟨g, 21, none⟩ = some (.int .i64 0) := by simp [World.cell?, hg]
  have c22 : w.cell? ⟨g, 22, none⟩ = some (.slice none 0 0) := by simp [World.cell?, hg]
  have c23 : w.cell? ⟨g, 23, none⟩ = some (.slice none 0 0) := by simp [World.cell?, hg]
  clear hg
  go_enter Tryz.func4, Tryz.ntmps4
  go_wp2_with fail
  go_loopw [3] (fun i wr => ∃ k : Nat, k ≤ 1 ∧ i = .int .i64 k ∧ Below w.heap.size w wr ∧ (k = 0 → w = wr)) (fun i _ => 1 - (intOf i).toNat)
  case atStart => exact ⟨0, by omega, rfl, Below.refl _ _, fun _ => rfl⟩
  case round =>
    obtain ⟨k, hk, rfl, hbr, hw⟩ := hrel
    have h2 : k = 0 ∨ k = 1 := by omega
    rcases h2 with rfl | rfl
    · have := hw rfl
      subst this
      clear hw
      have hb1 := box1 w (Obj.cells #[.int .u8 ok, .string key, .string old, .string val] 25)
      have hlt : g < w.heap.size := World.block_lt_of_cell? _ _ c8
      have d12 := (hb1.cell (p := ⟨g, 12, none⟩) hlt).trans c12
      have d13 := (hb1.cell (p := ⟨g, 13, none⟩) hlt).trans c13
      have d14 := (hb1.cell (p := ⟨g, 14, none⟩) hlt).trans c14
      have d15 := (hb1.cell (p := ⟨g, 15, none⟩) hlt).trans c15
      have d16 := (hb1.cell (p := ⟨g, 16, none⟩) hlt).trans c16
      have d17 := (hb1.cell (p := ⟨g, 17, none⟩) hlt).trans c17
      have d18 := (hb1.cell (p := ⟨g, 18, none⟩) hlt).trans c18
      have d19 := (hb1.cell (p := ⟨g, 19, none⟩) hlt).trans c19
      have d20 := (hb1.cell (p := ⟨g, 20, none⟩) hlt).trans c20
      have d21 := (hb1.cell (p := ⟨g, 21, none⟩) hlt).trans c21
      have d22 := (hb1.cell (p := ⟨g, 22, none⟩) hlt).trans c22
      have d23 := (hb1.cell (p := ⟨g, 23, none⟩) hlt).trans c23
      by_cases q1 : 100 < key.size
      · go_wp2
        go_ret
        exact ⟨⟨_, rfl⟩, hb1⟩
      · by_cases q2 : 100 < old.size
        · go_wp2
          go_ret
          exact ⟨⟨_, rfl⟩, hb1⟩
        · by_cases q3 : 100 < val.size
          · go_wp2
            go_ret
            exact ⟨⟨_, rfl⟩, hb1⟩
          · go_wp2_with (go_at_call 13; refine (great6_zero _ _ (new2 _ _ _)).mono ?_; rintro e w1 ⟨rfl, hb2⟩)
            go_roundw
            case rel => exact ⟨1, by omega, by rfl, hb1.trans (((box1 _ _).trans (hb2.mono (by simp))).mono (by simp)), fun h => by cases h⟩
            case measure => simp [intOf]
    · go_wp2
      go_ret
      exact ⟨⟨_, rfl⟩, hbr⟩

/-- A log that nobody made: nil, or one without a disk. -/
def NilL (w : World) (p : Value) : Prop := p = .pointer none ∨ ∃ g, p = .pointer (some ⟨g, 0, none⟩) ∧ w.cell? ⟨g, 0, none⟩ = some (.pointer none)
theorem NilL.below {w w' : World} {p : Value} (h : NilL w p) (hb : Below w.heap.size w w') : NilL w' p := by
  rcases h with h | ⟨g, hp, hc⟩
  · exact .inl h
  · exact .inr ⟨g, hp, (hb.cell (World.block_lt_of_cell? _ _ hc)).trans hc⟩
set_option maxRecDepth 100000 in
theorem lnone_any (p : Value) (w : World) (h : NilL w p) : Calls Tryz.prog 16 #[p] w fun e w' => e = .returned (.bool true) ∧ w = w' := by
  rcases h with rfl | ⟨g, rfl, hc⟩
  all_goals
    go_enter Tryz.func16, Tryz.ntmps16
    go_wp2
    go_ret
    exact ⟨rfl, rfl⟩
set_option maxRecDepth 100000 in
theorem llive_any (p : Value) (i : Int) (w : World) (h : NilL w p) : Calls Tryz.prog 14 #[p, .int .i64 i] w fun e w' => e = .returned (.int .i64 1) ∧ w = w' := by
  go_enter Tryz.func14, Tryz.ntmps14
  go_wp2_with (go_at_call 16; refine (lnone_any _ _ h).mono ?_; rintro e w' ⟨rfl, rfl⟩)
  go_ret
  exact ⟨rfl, rfl⟩
abbrev repV : Value := .agg #[.int .i64 0, .int .u8 0, .int .i64 0, .int .i64 0, .int .u8 0, .int .i64 0, .int .i64 0, .int .u8 0, .string ⟨#[]⟩, .string ⟨#[]⟩, .string ⟨#[]⟩]
set_option maxRecDepth 100000 in
theorem lget_any (p : Value) (i : Int) (w : World) (h : NilL w p) : Calls Tryz.prog 5 #[p, .int .i64 i] w fun e w' => e = .returned (.tuple #[repV, .int .i64 1]) ∧ Below w.heap.size w w' := by
  go_enter Tryz.func5, Tryz.ntmps5
  go_wp2_with (go_at_call 14; refine (llive_any _ _ _ (h.below (box1 _ _))).mono ?_; rintro e w' ⟨rfl, rfl⟩)
  (try simp only [Exit.inBlock, Exit.then])
  refine bodyPost_ret (v := .tuple #[repV, .int .i64 1]) ?hr rfl ⟨rfl, ?_⟩
  case hr =>
    simp only [results, Tryz.results5]
    go_simp
    try rfl
  (repeat' (first | (with_reducible exact Below.refl _ _) | (with_reducible assumption) | (with_reducible refine Below.alloc ?_ ?_ _) | (with_reducible refine Below.drew ?_) | (with_reducible refine below_drewN ?_ _) | (with_reducible refine Below.setCell ?_ ?_ _) | (with_reducible refine Below.trans ?_ (by assumption)) | go_size))
set_option maxRecDepth 100000 in
theorem lclass_any (p : Value) (i : Int) (w : World) (h : NilL w p) : Calls Tryz.prog 6 #[p, .int .i64 i] w fun e w' => e = .returned (.tuple #[.int .u8 0, .int .i64 1]) ∧ w = w' := by
  go_enter Tryz.func6, Tryz.ntmps6
  go_wp2_with (go_at_call 14; refine (llive_any _ _ _ h).mono ?_; rintro e w' ⟨rfl, rfl⟩)
  go_ret2
  exact ⟨rfl, rfl⟩
set_option maxRecDepth 100000 in
theorem lall_any (p : Value) (w : World) (h : NilL w p) : Calls Tryz.prog 7 #[p] w fun e w' => e = .returned (.tuple #[.slice none 0 0, .int .i64 1]) ∧ w = w' := by
  go_enter Tryz.func7, Tryz.ntmps7
  go_wp2_with (go_at_call 16; refine (lnone_any _ _ h).mono ?_; rintro e w' ⟨rfl, rfl⟩)
  go_ret2
  exact ⟨rfl, rfl⟩
set_option maxRecDepth 100000 in
theorem lput_any (p : Value) (i b1 b2 ek ec es ok : Int) (key old val : ByteArray) (w : World) (h : NilL w p) : Calls Tryz.prog 8 #[p, .int .i64 i, .agg #[.int .i64 b1, .int .i64 b2], .agg #[.int .u8 ek, .int .i64 ec, .int .i64 es, .int .u8 ok, .string key, .string old, .string val]] w fun e w' => e = .returned (.int .i64 1) ∧ Below w.heap.size w w' := by
  go_enter Tryz.func8, Tryz.ntmps8
  go_wp2_with (go_at_call 14; refine (llive_any _ _ _ ((h.below (box1 _ _)).below (box1 _ _))).mono ?_; rintro e w1 ⟨rfl, rfl⟩)
  go_ret
  exact ⟨rfl, by (repeat' (first | (with_reducible exact Below.refl _ _) | (with_reducible assumption) | (with_reducible refine Below.alloc ?_ ?_ _) | (with_reducible refine Below.drew ?_) | (with_reducible refine below_drewN ?_ _) | (with_reducible refine Below.setCell ?_ ?_ _) | (with_reducible refine Below.trans ?_ (by assumption)) | go_size))⟩
set_option maxRecDepth 100000 in
theorem lcut_any (p : Value) (i : Int) (w : World) (h : NilL w p) : Calls Tryz.prog 9 #[p, .int .i64 i] w fun e w' => e = .returned (.int .i64 1) ∧ w = w' := by
  go_enter Tryz.func9, Tryz.ntmps9
  go_wp2_with (go_at_call 16; refine (lnone_any _ _ h).mono ?_; rintro e w' ⟨rfl, rfl⟩)
  go_ret
  exact ⟨rfl, rfl⟩
set_option maxRecDepth 100000 in
theorem lsnap_any (p : Value) (w : World) (h : NilL w p) : Calls Tryz.prog 10 #[p] w fun e w' => e = .returned (.int .i64 0) ∧ w = w' := by
  go_enter Tryz.func10, Tryz.ntmps10
  go_wp2_with (go_at_call 16; refine (lnone_any _ _ h).mono ?_; rintro e w' ⟨rfl, rfl⟩)
  go_ret
  exact ⟨rfl, rfl⟩
set_option maxRecDepth 100000 in
set_option maxHeartbeats 1000000 in
theorem lopen_dull (p : Value) (n : Nat) (rp inc sn : Int) (w : World) (hd : DiskN w p n) (hn : n < 156) :
    Calls Tryz.prog 12 #[p, .int .i64 rp, .int .i64 inc, .int .i64 sn] w fun e w' => e = .returned (.tuple #[.pointer none, .int .i64 (dull n)]) ∧ Below w.heap.size w w' := by
  by_cases h0 : n = 0
  · subst h0
    rw [dull_z]
    go_enter Tryz.func12, Tryz.ntmps12
    go_wp2_with (go_at_call 26; refine (size_any _ _ _ hd).mono ?_; rintro e w1 ⟨rfl, rfl⟩)
    go_ret2
    exact ⟨rfl, Below.refl _ _⟩
  · have hdl : dull n = 2 := dull_p (by omega)
    have h0b : ((n : Int) == 0) = false := by rw [beq_eq_false_iff_ne]; omega
    rw [hdl]
    clear hdl h0
    go_enter Tryz.func12, Tryz.ntmps12
    go_wp2_with (first
      | (go_at_call 26; refine (size_any _ _ _ hd).mono ?_; rintro e w1 ⟨rfl, rfl⟩)
      | (go_at_call 27; refine (all_any _).mono ?_; rintro e w1 ⟨rfl, hb1⟩))
    go_ret2
    exact ⟨rfl, hb1⟩
end Go.Proofs.YtgbojbcnenljbaaGreatDoor
