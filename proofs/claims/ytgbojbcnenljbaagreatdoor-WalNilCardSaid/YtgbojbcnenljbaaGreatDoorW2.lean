/- The law WalNil, walked. -/
import Derived.Test.YtgbojbcnenljbaaGreatDoorW1
import Derived.Test.YtgbojbcnenljbaaGreatDoorRows
import Derived.WalkKit
import Derived.WalkSpells
import Derived.WalkLawsBesides
import Derived.Handy
import Derived.Deep.QuietTactic
import Derived.BigQuiet
import Derived.Deep.DeepCutAuto
import Derived.Lib.Hide
import Derived.RegionTactic
import Derived.ChangeAlike
import Derived.Laws.ResultCell
import Derived.Outline
namespace Go.Proofs.YtgbojbcnenljbaaGreatDoor
open Go.RowKit

@[go_sem] theorem eqReport0 (w : World) : (Op.equalIn 10000 46 repV repV).run Tryz.prog w = .ok true w := by kernel_rfl
theorem eleven {w : World} {g : Nat} {x0 x1 x2 x3 x4 x5 x6 x7 x8 x9 x10 : Value} {T : TypeId} (h : w.heap[g]? = some (.cells #[x0, x1, x2, x3, x4, x5, x6, x7, x8, x9, x10] T (0, 0))) :
    w.cell? ⟨g, 0, none⟩ = some x0 ∧ w.cell? ⟨g, 1, none⟩ = some x1 ∧ w.cell? ⟨g, 2, none⟩ = some x2 ∧ w.cell? ⟨g, 3, none⟩ = some x3 ∧ w.cell? ⟨g, 4, none⟩ = some x4 ∧ w.cell? ⟨g, 5, none⟩ = some x5 ∧ w.cell? ⟨g, 6, none⟩ = some x6 ∧ w.cell? ⟨g, 7, none⟩ = some x7 ∧ w.cell? ⟨g, 8, none⟩ = some x8 ∧ w.cell? ⟨g, 9, none⟩ = some x9 ∧ w.cell? ⟨g, 10, none⟩ = some x10 := by
  refine ⟨?_, ?_, ?_, ?_, ?_, ?_, ?_, ?_, ?_, ?_, ?_⟩
  all_goals simp [World.cell?, h]
theorem seven {w : World} {g : Nat} {x0 x1 x2 x3 x4 x5 x6 : Value} {T : TypeId} (h : w.heap[g]? = some (.cells #[x0, x1, x2, x3, x4, x5, x6] T (0, 0))) :
    w.cell? ⟨g, 0, none⟩ = some x0 ∧ w.cell? ⟨g, 1, none⟩ = some x1 ∧ w.cell? ⟨g, 2, none⟩ = some x2 ∧ w.cell? ⟨g, 3, none⟩ = some x3 ∧ w.cell? ⟨g, 4, none⟩ = some x4 ∧ w.cell? ⟨g, 5, none⟩ = some x5 ∧ w.cell? ⟨g, 6, none⟩ = some x6 := by
  refine ⟨?_, ?_, ?_, ?_, ?_, ?_, ?_⟩
  all_goals simp [World.cell?, h]
theorem after_alloc {w w1 : World} {o : Obj} (hb : Below (w.alloc o).heap.size (w.alloc o) w1) : Below w.heap.size w w1 := (box1 w o).trans (hb.mono (box1 w o).size)
theorem old1 (w : World) (A B : Obj) : ((w.alloc A).alloc B).heap[w.heap.size]? = some A := (heap_alloc_old _ _ (by simp)).trans (heap_alloc_new w _)

set_option maxRecDepth 100000 in
set_option maxHeartbeats 8000000 in
theorem walNil_law (i rp inc sec b1 b2 ek ec es ok : Int) (key old val : ByteArray) (w : World) :
    Calls Tryz.prog 3 #[.int .i64 i, .int .i64 rp, .int .i64 inc, .int .i64 sec, .agg #[.int .i64 b1, .int .i64 b2], .agg #[.int .u8 ek, .int .i64 ec, .int .i64 es, .int .u8 ok, .string key, .string old, .string val]] w fun e w' => e = .returned (.bool true) ∧ Below w.heap.size w w' := by
  have hbA : Below w.heap.size w ((w.alloc (Obj.cells #[.int .i64 b1, .int .i64 b2] 23)).alloc (Obj.cells #[.int .u8 ek, .int .i64 ec, .int .i64 es, .int .u8 ok, .string key, .string old, .string val] 27)) := ((Below.refl _ _).alloc (Nat.le_refl _) _).alloc (by simp) _
  have gb := old1 w (Obj.cells #[.int .i64 b1, .int .i64 b2] 23) (Obj.cells #[.int .u8 ek, .int .i64 ec, .int .i64 es, .int .u8 ok, .string key, .string old, .string val] 27)
  have ge := new2 w (Obj.cells #[.int .i64 b1, .int .i64 b2] 23) (Obj.cells #[.int .u8 ek, .int .i64 ec, .int .i64 es, .int .u8 ok, .string key, .string old, .string val] 27)
  go_enter Tryz.func3, Tryz.ntmps3
  refine wp_seq_k (fun K hK => ?_)
  have HK := Lib.hid hK
  clear hK
  go_wp2
  refine HK.out _ _ ?_
  clear HK
  have hltA : w.heap.size + 1 < ((w.alloc (Obj.cells #[.int .i64 b1, .int .i64 b2] 23)).alloc (Obj.cells #[.int .u8 ek, .int .i64 ec, .int .i64 es, .int .u8 ok, .string key, .string old, .string val] 27)).heap.size := by simp
  generalize (w.alloc (Obj.cells #[.int .i64 b1, .int .i64 b2] 23)).alloc (Obj.cells #[.int .u8 ek, .int .i64 ec, .int .i64 es, .int .u8 ok, .string key, .string old, .string val] 27) = wA at *
  obtain ⟨y0, y1, y2, y3, y4, y5, y6⟩ := seven ge
  go_wp2_with fail
  refine (great11_one _ _ _ _ _ _ _ _ _ (heap_alloc_new wA _)).mono ?_
  rintro e w1 ⟨⟨b, rfl⟩, hb1⟩
  have hbA1 := after_alloc hb1
  have hbw1 := hbA.trans (hbA1.mono hbA.size)
  clear hb1
  cases b
  · go_wp2_with fail
    have k10 := (hbA1.cell (p := ⟨w.heap.size, 0, none⟩) (by simp; omega)).trans (show wA.cell? ⟨w.heap.size, 0, none⟩ = some (.int .i64 b1) by simp [World.cell?, gb])
    have k11 := (hbA1.cell (p := ⟨w.heap.size, 1, none⟩) (by simp; omega)).trans (show wA.cell? ⟨w.heap.size, 1, none⟩ = some (.int .i64 b2) by simp [World.cell?, gb])
    have y0 := (hbA1.cell (p := ⟨w.heap.size + 1, 0, none⟩) hltA).trans y0
    have y1 := (hbA1.cell (p := ⟨w.heap.size + 1, 1, none⟩) hltA).trans y1
    have y2 := (hbA1.cell (p := ⟨w.heap.size + 1, 2, none⟩) hltA).trans y2
    have y3 := (hbA1.cell (p := ⟨w.heap.size + 1, 3, none⟩) hltA).trans y3
    have y4 := (hbA1.cell (p := ⟨w.heap.size + 1, 4, none⟩) hltA).trans y4
    have y5 := (hbA1.cell (p := ⟨w.heap.size + 1, 5, none⟩) hltA).trans y5
    have y6 := (hbA1.cell (p := ⟨w.heap.size + 1, 6, none⟩) hltA).trans y6
    have hA := old1 w1 (Obj.cells #[.pointer none, .int .i64 0, .int .i64 0, .int .i64 0] 43) (Obj.cells #[.pointer none, .pointer (some ⟨w1.heap.size, 0, none⟩)] 40)
    have hB := new2 w1 (Obj.cells #[.pointer none, .int .i64 0, .int .i64 0, .int .i64 0] 43) (Obj.cells #[.pointer none, .pointer (some ⟨w1.heap.size, 0, none⟩)] 40)
    have hbN : Below w1.heap.size w1 ((w1.alloc (Obj.cells #[.pointer none, .int .i64 0, .int .i64 0, .int .i64 0] 43)).alloc (Obj.cells #[.pointer none, .pointer (some ⟨w1.heap.size, 0, none⟩)] 40)) := ((Below.refl _ _).alloc (Nat.le_refl _) _).alloc (by simp) _
    have hs1 := hbA1.size
    clear gb ge
    generalize (w1.alloc (Obj.cells #[.pointer none, .int .i64 0, .int .i64 0, .int .i64 0] 43)).alloc (Obj.cells #[.pointer none, .pointer (some ⟨w1.heap.size, 0, none⟩)] 40) = w2 at *
    have hs2 := hbN.size
    have k10 := (hbN.cell (p := ⟨w.heap.size, 0, none⟩) (by simp; omega)).trans k10
    have k11 := (hbN.cell (p := ⟨w.heap.size, 1, none⟩) (by simp; omega)).trans k11
    have y0 := (hbN.cell (p := ⟨w.heap.size + 1, 0, none⟩) (by simp; omega)).trans y0
    have y1 := (hbN.cell (p := ⟨w.heap.size + 1, 1, none⟩) (by simp; omega)).trans y1
    have y2 := (hbN.cell (p := ⟨w.heap.size + 1, 2, none⟩) (by simp; omega)).trans y2
    have y3 := (hbN.cell (p := ⟨w.heap.size + 1, 3, none⟩) (by simp; omega)).trans y3
    have y4 := (hbN.cell (p := ⟨w.heap.size + 1, 4, none⟩) (by simp; omega)).trans y4
    have y5 := (hbN.cell (p := ⟨w.heap.size + 1, 5, none⟩) (by simp; omega)).trans y5
    have y6 := (hbN.cell (p := ⟨w.heap.size + 1, 6, none⟩) (by simp; omega)).trans y6
    have z1 : NilL w2 (.pointer (some ⟨w1.heap.size, 0, none⟩)) := .inr ⟨w1.heap.size, rfl, by simp [World.cell?, hA]⟩
    have k0 : w2.cell? ⟨w1.heap.size + 1, 0, none⟩ = some (.pointer none) := by simp [World.cell?, hB]
    have k1 : w2.cell? ⟨w1.heap.size + 1, 1, none⟩ = some (.pointer (some ⟨w1.heap.size, 0, none⟩)) := by simp [World.cell?, hB]
    have hlt2 : w1.heap.size + 1 < w2.heap.size := World.block_lt_of_cell? _ _ k0
    have hltx : w.heap.size < w2.heap.size := by omega
    have hlty : w.heap.size + 1 < w2.heap.size := by omega
    have hb2 := hbw1.trans (hbN.mono hbw1.size)
    clear hA hB
    go_loopw [15] (fun i wr => ∃ k : Nat, k ≤ 2 ∧ i = .int .i64 k ∧ Below w2.heap.size w2 wr) (fun i _ => 2 - (intOf i).toNat)
    case atStart => exact ⟨0, by omega, rfl, Below.refl _ _⟩
    case round =>
      obtain ⟨k, hk, rfl, hbr⟩ := hrel
      by_cases hk3 : k < 2
      · have c0 := (hbr.cell hlt2).trans k0
        have c1 := (hbr.cell hlt2).trans k1
        have hlt : w1.heap.size + 1 < wr.heap.size := Nat.lt_of_lt_of_le hlt2 hbr.size
        have h3 : k = 0 ∨ k = 1 := by omega
        rcases h3 with rfl | rfl
        · have hd : NilL wr (.pointer none) := .inl rfl
          go_wp2_with (first
            | (go_at_call 5; refine (lget_any _ _ _ hd).mono ?_; rintro e w4 ⟨rfl, hb4⟩; have hbr5 := hb4.trans ((box1 w4 (Obj.cells #[.int .i64 0, .int .u8 0, .int .i64 0, .int .i64 0, .int .u8 0, .int .i64 0, .int .i64 0, .int .u8 0, .string ⟨#[]⟩, .string ⟨#[]⟩, .string ⟨#[]⟩] 46)).mono hb4.size); have hd5 := hd.below hbr5; have e0 := (hbr5.cell hlt).trans c0; have e1 := (hbr5.cell hlt).trans c1)
            | (go_at_call 6; refine (lclass_any _ _ _ hd5).mono ?_; rintro e w6 ⟨rfl, rfl⟩)
            | (go_at_call 7; refine (lall_any _ _ hd5).mono ?_; rintro e w6 ⟨rfl, rfl⟩))
          have rb := heap_alloc_new w4 (Obj.cells #[.int .i64 0, .int .u8 0, .int .i64 0, .int .i64 0, .int .u8 0, .int .i64 0, .int .i64 0, .int .u8 0, .string ⟨#[]⟩, .string ⟨#[]⟩, .string ⟨#[]⟩] 46)
          generalize w4.alloc (Obj.cells #[.int .i64 0, .int .u8 0, .int .i64 0, .int .i64 0, .int .u8 0, .int .i64 0, .int .i64 0, .int .u8 0, .string ⟨#[]⟩, .string ⟨#[]⟩, .string ⟨#[]⟩] 46) = w5 at *
          have hw5 := hbr.trans (hbr5.mono hbr.size)
          obtain ⟨r0, r1, r2, r3, r4, r5, r6, r7, r8, r9, r10⟩ := eleven rb
          have e0 := under_cell e0
          have e1 := under_cell e1
          have r0 := under_cell r0
          have r1 := under_cell r1
          have r2 := under_cell r2
          have r3 := under_cell r3
          have r4 := under_cell r4
          have r5 := under_cell r5
          have r6 := under_cell r6
          have r7 := under_cell r7
          have r8 := under_cell r8
          have r9 := under_cell r9
          have r10 := under_cell r10
          have x0 := under_cell ((hw5.cell hltx).trans k10)
          have x1 := under_cell ((hw5.cell hltx).trans k11)
          have y0 := under_cell ((hw5.cell hlty).trans y0)
          have y1 := under_cell ((hw5.cell hlty).trans y1)
          have y2 := under_cell ((hw5.cell hlty).trans y2)
          have y3 := under_cell ((hw5.cell hlty).trans y3)
          have y4 := under_cell ((hw5.cell hlty).trans y4)
          have y5 := under_cell ((hw5.cell hlty).trans y5)
          have y6 := under_cell ((hw5.cell hlty).trans y6)
          have hU : Hid (∀ x, NilL (Under w5 x) (.pointer none)) := Lib.hid fun x => hd5.below (under_below w5 x)
          refine wp_region_under (by kernel_rfl) (by kernel_rfl) ?_
          repeat (go_big_quiet_step ((first
                      | (go_at_call 8; exact under_call (lput_any _ _ _ _ _ _ _ _ _ _ _ _ (hU.out _)))
                      | (go_at_call 9; exact under_same (lcut_any _ _ _ (hU.out _)))
                      | (go_at_call 10; exact under_same (lsnap_any _ _ (hU.out _))))))
          refine wpQuiet_nil ?_
          intro _ hw'
          obtain ⟨xU, hw''⟩ := hw'
          subst hw''
          have hbU := under_below w5 xU
          go_wp2
          go_roundw
          case rel => exact ⟨1, by omega, by rfl, hw5.trans (hbU.mono hw5.size)⟩
          case measure => simp [intOf]
        · have hd : NilL wr (.pointer (some ⟨w1.heap.size, 0, none⟩)) := z1.below hbr
          go_wp2_with (first
            | (go_at_call 5; refine (lget_any _ _ _ hd).mono ?_; rintro e w4 ⟨rfl, hb4⟩; have hbr5 := hb4.trans ((box1 w4 (Obj.cells #[.int .i64 0, .int .u8 0, .int .i64 0, .int .i64 0, .int .u8 0, .int .i64 0, .int .i64 0, .int .u8 0, .string ⟨#[]⟩, .string ⟨#[]⟩, .string ⟨#[]⟩] 46)).mono hb4.size); have hd5 := hd.below hbr5; have e0 := (hbr5.cell hlt).trans c0; have e1 := (hbr5.cell hlt).trans c1)
            | (go_at_call 6; refine (lclass_any _ _ _ hd5).mono ?_; rintro e w6 ⟨rfl, rfl⟩)
            | (go_at_call 7; refine (lall_any _ _ hd5).mono ?_; rintro e w6 ⟨rfl, rfl⟩))
          have rb := heap_alloc_new w4 (Obj.cells #[.int .i64 0, .int .u8 0, .int .i64 0, .int .i64 0, .int .u8 0, .int .i64 0, .int .i64 0, .int .u8 0, .string ⟨#[]⟩, .string ⟨#[]⟩, .string ⟨#[]⟩] 46)
          generalize w4.alloc (Obj.cells #[.int .i64 0, .int .u8 0, .int .i64 0, .int .i64 0, .int .u8 0, .int .i64 0, .int .i64 0, .int .u8 0, .string ⟨#[]⟩, .string ⟨#[]⟩, .string ⟨#[]⟩] 46) = w5 at *
          have hw5 := hbr.trans (hbr5.mono hbr.size)
          obtain ⟨r0, r1, r2, r3, r4, r5, r6, r7, r8, r9, r10⟩ := eleven rb
          have e0 := under_cell e0
          have e1 := under_cell e1
          have r0 := under_cell r0
          have r1 := under_cell r1
          have r2 := under_cell r2
          have r3 := under_cell r3
          have r4 := under_cell r4
          have r5 := under_cell r5
          have r6 := under_cell r6
          have r7 := under_cell r7
          have r8 := under_cell r8
          have r9 := under_cell r9
          have r10 := under_cell r10
          have x0 := under_cell ((hw5.cell hltx).trans k10)
          have x1 := under_cell ((hw5.cell hltx).trans k11)
          have y0 := under_cell ((hw5.cell hlty).trans y0)
          have y1 := under_cell ((hw5.cell hlty).trans y1)
          have y2 := under_cell ((hw5.cell hlty).trans y2)
          have y3 := under_cell ((hw5.cell hlty).trans y3)
          have y4 := under_cell ((hw5.cell hlty).trans y4)
          have y5 := under_cell ((hw5.cell hlty).trans y5)
          have y6 := under_cell ((hw5.cell hlty).trans y6)
          have hU : Hid (∀ x, NilL (Under w5 x) (.pointer (some ⟨w1.heap.size, 0, none⟩))) := Lib.hid fun x => hd5.below (under_below w5 x)
          refine wp_region_under (by kernel_rfl) (by kernel_rfl) ?_
          repeat (go_big_quiet_step ((first
                      | (go_at_call 8; exact under_call (lput_any _ _ _ _ _ _ _ _ _ _ _ _ (hU.out _)))
                      | (go_at_call 9; exact under_same (lcut_any _ _ _ (hU.out _)))
                      | (go_at_call 10; exact under_same (lsnap_any _ _ (hU.out _))))))
          refine wpQuiet_nil ?_
          intro _ hw'
          obtain ⟨xU, hw''⟩ := hw'
          subst hw''
          have hbU := under_below w5 xU
          go_wp2
          go_roundw
          case rel => exact ⟨2, by omega, by rfl, hw5.trans (hbU.mono hw5.size)⟩
          case measure => simp [intOf]
      · have : k = 2 := by omega
        subst this
        go_wp2_with fail
        obtain ⟨s, hs1, hs2, hse⟩ := small_sec sec
        rw [hse]
        clear hse
        refine (new_small s _ hs1 (by omega)).mono ?_
        rintro e w3 ⟨⟨g, a, rfl, hg⟩, hb3⟩
        have d1 : DiskN w3 (.pointer none) 0 := .inl ⟨rfl, rfl⟩
        have d2 : DiskN w3 (.pointer (some ⟨g, 0, none⟩)) s := .inr ⟨g, a, s, rfl, hg⟩
        have HD1 := Lib.hid dull_z
        have HD2 := Lib.hid (dull_p hs1)
        clear hg
        go_wp2_with (first
          | (go_at_call 12; (with_reducible refine (lopen_dull (.pointer none) _ _ _ _ _ d1 (by omega)).mono ?_); rintro e w4 ⟨rfl, hb4⟩; rw [HD1.out])
          | (go_at_call 12; refine (lopen_dull _ _ _ _ _ _ (d2.below hb4) (by omega)).mono ?_; rintro e w5 ⟨rfl, hb5⟩; rw [HD2.out]))
        go_ret
        have hbr2 := hb2.trans (hbr.mono hb2.size)
        have hb23 := hbr2.trans (hb3.mono hbr2.size)
        have hb24 := hb23.trans (hb4.mono hb23.size)
        exact ⟨rfl, hb24.trans (hb5.mono hb24.size)⟩
  · go_wp2
    go_ret
    exact ⟨rfl, hbw1⟩
end Go.Proofs.YtgbojbcnenljbaaGreatDoor
