/- A small disk that is made; the law CellNone. -/
import Derived.Test.YtgbojbcnenljbaaDoorD1
import Derived.Test.YtgbojbcnenljbaaDoorRows
import Derived.WalkKit
import Derived.WalkSpells
import Derived.WalkLawsBesides
import Derived.Handy
import Derived.Deep.QuietTactic
import Derived.BigQuiet
import Derived.Deep.DeepCutAuto
import Derived.Lib.Hide
import Derived.RegionTactic
import Derived.ChangeAlike
import Derived.Laws.ResultCell
import Derived.Laws.MakeOwn
import Derived.Laws.Shifts
import Derived.IntWalk
import Derived.Outline
namespace Go.Proofs.YtgbojbcnenljbaaDoor
open Go.RowKit

theorem infoPlace : (Tryd.prog.info? 108).map (fun i => (i.zero.isSome, i.size, i.bytes)) = some (true, 129, 129) := by kernel_rfl
theorem make_places (s : Nat) (hs : s ≤ 1024) : ∃ cs : Array Value, ∀ w : World, (Instr.makeSlice 27 (.int .i64 s) (.int .i64 s)).run Tryd.prog w = .ok (.slice (some ⟨w.heap.size, 0, none⟩) s s) (w.alloc (.cells cs 108)) := by
  have h := infoPlace
  obtain ⟨i, hi, h2⟩ := Option.map_eq_some_iff.1 h
  simp only [Prod.mk.injEq] at h2
  obtain ⟨hz, hsz, hb⟩ := h2
  obtain ⟨z, hz⟩ := Option.isSome_iff_exists.1 hz
  refine ⟨madeCells z.cells (s * 129), fun w => ?_⟩
  have := run_make (P := Tryd.prog) w 27 108 i z Tryd.underlying27 hi hz .i64 .i64 s s (by omega) (by omega) (by rw [hb]; omega) (by omega)
  rw [hsz] at this
  simpa using this

set_option maxRecDepth 100000 in
set_option maxHeartbeats 1000000 in
theorem new_small (s : Nat) (w : World) (h1 : 1 ≤ s) (h2 : s ≤ 1024) :
    Calls Tryd.prog 6 #[.int .i64 s] w fun e w' => (∃ g a, e = .returned (.tuple #[.pointer (some ⟨g, 0, none⟩), .int .i64 0]) ∧ w'.cell? ⟨g, 0, none⟩ = some (.slice a s s)) ∧ Below w.heap.size w w' := by
  obtain ⟨cs, hmk⟩ := make_places s h2
  go_enter Tryd.func6, Tryd.ntmps6
  go_wp2
  go_ret2
  exact ⟨⟨w.heap.size + 1, some ⟨w.heap.size, 0, none⟩, rfl, by simp [go_sem]⟩, by (repeat' (first | (with_reducible exact Below.refl _ _) | (with_reducible assumption) | (with_reducible refine Below.alloc ?_ ?_ _) | (with_reducible refine Below.drew ?_) | (with_reducible refine below_drewN ?_ _) | (with_reducible refine Below.setCell ?_ ?_ _) | (with_reducible refine Below.trans ?_ (by assumption)) | go_size))⟩

theorem small_sec (x : Int) : ∃ s : Nat, 1 ≤ s ∧ s ≤ 155 ∧ wrap64 (1 + wrap64 ((IntKind.u64.wrap x).tmod 155)) = s := by
  have h0 := wrap_u64_nonneg x
  generalize IntKind.u64.wrap x = y at *
  have h1 : y.tmod 155 = y % 155 := Int.tmod_eq_emod_of_nonneg h0
  rw [h1]
  unfold wrap64
  exact ⟨(1 + y % 155).toNat, by omega, by omega, by omega⟩
theorem dull_z : dull 0 = 1 := rfl
theorem dull_p {n : Nat} (h : 1 ≤ n) : dull n = 2 := by unfold dull; rw [if_neg (by omega)]

set_option maxRecDepth 100000 in
set_option maxHeartbeats 4000000 in
theorem cellNone_law (rp rg inc sec : Int) (ba : Option Addr) (bl bc : Nat) (w : World) (hb : bl ≤ maxLen) :
    Calls Tryd.prog 4 #[.int .i64 rp, .int .i64 rg, .int .i64 inc, .int .i64 sec, .slice ba bl bc] w fun e w' => e = .returned (.bool true) ∧ Below w.heap.size w w' := by
  unfold maxLen at hb
  by_cases h100 : 100 < bl
  · go_enter Tryd.func4, Tryd.ntmps4
    go_wp2
    go_ret
    exact ⟨rfl, Below.refl _ _⟩
  · go_enter Tryd.func4, Tryd.ntmps4
    go_wp2_with fail
    obtain ⟨s, hs1, hs2, hse⟩ := small_sec sec
    rw [hse]
    clear hse
    refine (new_small s _ hs1 (by omega)).mono ?_
    rintro e w1 ⟨⟨g, a, rfl, hg⟩, hb1⟩
    go_wp2_with fail
    have hA : ((w1.alloc (Obj.cells #[.slice none 0 0, .slice none 0 0, .bool false, .bool false, .int .i64 0] 30)).alloc (Obj.cells #[.pointer none, .pointer (some ⟨w1.heap.size, 0, none⟩), .pointer (some ⟨g, 0, none⟩)] 23)).heap[w1.heap.size]? = some (.cells #[.slice none 0 0, .slice none 0 0, .bool false, .bool false, .int .i64 0] 30 (0, 0)) := (heap_alloc_old _ _ (by simp)).trans (heap_alloc_new w1 _)
    have hB := heap_alloc_new (w1.alloc (Obj.cells #[.slice none 0 0, .slice none 0 0, .bool false, .bool false, .int .i64 0] 30)) (Obj.cells #[.pointer none, .pointer (some ⟨w1.heap.size, 0, none⟩), .pointer (some ⟨g, 0, none⟩)] 23)
    have hbN : Below w1.heap.size w1 ((w1.alloc (Obj.cells #[.slice none 0 0, .slice none 0 0, .bool false, .bool false, .int .i64 0] 30)).alloc (Obj.cells #[.pointer none, .pointer (some ⟨w1.heap.size, 0, none⟩), .pointer (some ⟨g, 0, none⟩)] 23)) := ((Below.refl _ _).alloc (Nat.le_refl _) _).alloc (by simp) _
    have hsz : (w1.alloc (Obj.cells #[.slice none 0 0, .slice none 0 0, .bool false, .bool false, .int .i64 0] 30)).heap.size = w1.heap.size + 1 := by simp
    rw [hsz] at hB
    generalize (w1.alloc (Obj.cells #[.slice none 0 0, .slice none 0 0, .bool false, .bool false, .int .i64 0] 30)).alloc (Obj.cells #[.pointer none, .pointer (some ⟨w1.heap.size, 0, none⟩), .pointer (some ⟨g, 0, none⟩)] 23) = w2 at *
    have hb2 := hb1.trans (hbN.mono hb1.size)
    have z1 : DiskN w2 (.pointer (some ⟨w1.heap.size, 0, none⟩)) 0 := .inr ⟨w1.heap.size, none, 0, rfl, by simp [World.cell?, hA]⟩
    have z2 : DiskN w2 (.pointer (some ⟨g, 0, none⟩)) s := .inr ⟨g, a, s, rfl, (hbN.cell (World.block_lt_of_cell? _ _ hg)).trans hg⟩
    have k0 : w2.cell? ⟨w1.heap.size + 1, 0, none⟩ = some (.pointer none) := by simp [World.cell?, hB]
    have k1 : w2.cell? ⟨w1.heap.size + 1, 1, none⟩ = some (.pointer (some ⟨w1.heap.size, 0, none⟩)) := by simp [World.cell?, hB]
    have k2 : w2.cell? ⟨w1.heap.size + 1, 2, none⟩ = some (.pointer (some ⟨g, 0, none⟩)) := by simp [World.cell?, hB]
    have hlt2 : w1.heap.size + 1 < w2.heap.size := World.block_lt_of_cell? _ _ k0
    clear hA hB hg hsz
    go_loopw [15] (fun i wr => ∃ k : Nat, k ≤ 3 ∧ i = .int .i64 k ∧ Below w2.heap.size w2 wr) (fun i _ => 3 - (intOf i).toNat)
    case atStart => exact ⟨0, by omega, rfl, Below.refl _ _⟩
    case round =>
      obtain ⟨k, hk, rfl, hbr⟩ := hrel
      by_cases hk3 : k < 3
      · have c0 := (hbr.cell hlt2).trans k0
        have c1 := (hbr.cell hlt2).trans k1
        have c2 := (hbr.cell hlt2).trans k2
        have hlt : w1.heap.size + 1 < wr.heap.size := Nat.lt_of_lt_of_le hlt2 hbr.size
        have h3 : k = 0 ∨ k = 1 ∨ k = 2 := by omega
        rcases h3 with rfl | rfl | rfl
        · have hd : DiskN wr (.pointer none) 0 := .inl ⟨rfl, rfl⟩
          have HDL := Lib.hid (dull_z)
          have hn : 0 < 156 := by omega
          go_wp2_with (first
            | (go_at_call 11; refine (load_dull _ _ _ _ _ hd hn).mono ?_; rintro e w3 ⟨rfl, hb3⟩; rw [HDL.out]; have hd3 := hd.below hb3; have e0 := (hb3.cell hlt).trans c0; have e1 := (hb3.cell hlt).trans c1; have e2 := (hb3.cell hlt).trans c2)
            | (go_at_call 12; refine (heal_dull _ _ _ _ _ hd3 hn).mono ?_; rintro e w4 ⟨rfl, hb4⟩; rw [HDL.out]; have hd4 := hd3.below hb4; have hb34 := hb3.trans (hb4.mono hb3.size); have f0 := (hb34.cell hlt).trans c0; have f1 := (hb34.cell hlt).trans c1; have f2 := (hb34.cell hlt).trans c2)
            | (go_at_call 13; refine (store_dull _ _ _ _ _ _ _ hd4 hn).mono ?_; rintro e w5 ⟨rfl, hb5⟩; rw [HDL.out]))
          go_roundw
          case rel => exact ⟨1, by omega, by rfl, hbr.trans ((hb34.trans (hb5.mono hb34.size)).mono hbr.size)⟩
          case measure => simp [intOf]
        · have hd : DiskN wr (.pointer (some ⟨w1.heap.size, 0, none⟩)) 0 := z1.below hbr
          have HDL := Lib.hid (dull_z)
          have hn : 0 < 156 := by omega
          go_wp2_with (first
            | (go_at_call 11; refine (load_dull _ _ _ _ _ hd hn).mono ?_; rintro e w3 ⟨rfl, hb3⟩; rw [HDL.out]; have hd3 := hd.below hb3; have e0 := (hb3.cell hlt).trans c0; have e1 := (hb3.cell hlt).trans c1; have e2 := (hb3.cell hlt).trans c2)
            | (go_at_call 12; refine (heal_dull _ _ _ _ _ hd3 hn).mono ?_; rintro e w4 ⟨rfl, hb4⟩; rw [HDL.out]; have hd4 := hd3.below hb4; have hb34 := hb3.trans (hb4.mono hb3.size); have f0 := (hb34.cell hlt).trans c0; have f1 := (hb34.cell hlt).trans c1; have f2 := (hb34.cell hlt).trans c2)
            | (go_at_call 13; refine (store_dull _ _ _ _ _ _ _ hd4 hn).mono ?_; rintro e w5 ⟨rfl, hb5⟩; rw [HDL.out]))
          go_roundw
          case rel => exact ⟨2, by omega, by rfl, hbr.trans ((hb34.trans (hb5.mono hb34.size)).mono hbr.size)⟩
          case measure => simp [intOf]
        · have hd : DiskN wr (.pointer (some ⟨g, 0, none⟩)) s := z2.below hbr
          have HDL := Lib.hid (dull_p hs1)
          have hn : s < 156 := by omega
          go_wp2_with (first
            | (go_at_call 11; refine (load_dull _ _ _ _ _ hd hn).mono ?_; rintro e w3 ⟨rfl, hb3⟩; rw [HDL.out]; have hd3 := hd.below hb3; have e0 := (hb3.cell hlt).trans c0; have e1 := (hb3.cell hlt).trans c1; have e2 := (hb3.cell hlt).trans c2)
            | (go_at_call 12; refine (heal_dull _ _ _ _ _ hd3 hn).mono ?_; rintro e w4 ⟨rfl, hb4⟩; rw [HDL.out]; have hd4 := hd3.below hb4; have hb34 := hb3.trans (hb4.mono hb3.size); have f0 := (hb34.cell hlt).trans c0; have f1 := (hb34.cell hlt).trans c1; have f2 := (hb34.cell hlt).trans c2)
            | (go_at_call 13; refine (store_dull _ _ _ _ _ _ _ hd4 hn).mono ?_; rintro e w5 ⟨rfl, hb5⟩; rw [HDL.out]))
          go_roundw
          case rel => exact ⟨3, by omega, by rfl, hbr.trans ((hb34.trans (hb5.mono hb34.size)).mono hbr.size)⟩
          case measure => simp [intOf]
      · have : k = 3 := by omega
        subst this
        go_wp2
        go_ret
        exact ⟨rfl, hb2.trans (hbr.mono hb2.size)⟩
end Go.Proofs.YtgbojbcnenljbaaDoor
