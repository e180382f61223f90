/- The law MetaForms, walked. -/
import Derived.Test.YtmnjmjbmnhppfaaM6
import Derived.Test.YtmnjmjbmnhppfaaUnder
import Derived.Outline
import Derived.Test.YtmnjmjbmnhppfaaRows
import Derived.WalkKit
import Derived.WalkSpells
import Derived.WalkLawsBesides
import Derived.Handy
import Derived.Deep.QuietTactic
import Derived.BigQuiet
import Derived.Deep.DeepCutAuto
import Derived.Lib.Hide
import Derived.RegionTactic
import Derived.ChangeAlike
import Derived.Deep.RegionWith
import Derived.Deep.RegionHeld3
namespace Go.Proofs.Ytmnjmjbmnhppfaa
open Go.RowKit

theorem below_next {w w1 w2 : World} (h1 : Below w.heap.size w w1) (h2 : Below w1.heap.size w1 w2) : Below w.heap.size w w2 := h1.trans (h2.mono h1.size)
theorem below_nx {w w1 w2 : World} (h2 : Below w1.heap.size w1 w2) (h1 : Below w.heap.size w w1) : Below w.heap.size w w2 := below_next h1 h2
theorem same_below {w w1 : World} {q : Nat} (h : w1 = w.drewN q) : Below w.heap.size w w1 := by
  subst h
  exact below_drewN (Below.refl _ _) q
theorem parV_tri (l : List UInt8) : ∃ x y z : Int, parV l = .agg #[.int .i64 x, .int .i64 y, .int .i64 z] := by
  unfold parV
  split
  · exact ⟨_, _, _, rfl⟩
  · exact ⟨_, _, _, rfl⟩

set_option maxRecDepth 20000 in
set_option maxHeartbeats 1600000 in
theorem forms_law (r p i : Int) (a : Option Addr) (cap : Nat) (l : List UInt8) (w : World) (hs : SlB w a cap l) :
    Calls Try.prog 3 #[.agg #[.int .i64 r, .int .i64 p, .int .i64 i], .slice a l.length cap] w fun e w' => e = .returned (.bool true) ∧ Below w.heap.size w w' := by
  obtain ⟨x, y, z, hpv⟩ := parV_tri l
  have HPV := Lib.hid hpv
  clear hpv
  by_cases h100 : 100 < l.length
  · go_enter Try.func3, Try.ntmps3
    go_wp2
    go_ret
    exact ⟨rfl, by (repeat' (first | (with_reducible exact Below.refl _ _) | (with_reducible assumption) | (with_reducible refine Below.alloc ?_ ?_ _) | (with_reducible refine Below.drew ?_) | (with_reducible refine below_drewN ?_ _) | (with_reducible refine Below.setCell ?_ ?_ _) | (with_reducible refine Below.trans ?_ (by assumption)) | go_size))⟩
  · go_enter Try.func3, Try.ntmps3
    have hb0 : Below w.heap.size w (w.alloc (Obj.cells #[.int .i64 r, .int .i64 p, .int .i64 i] 25)) := (Below.refl _ _).alloc (Nat.le_refl _) _
    have hs0 := hs.below hb0
    refine wp_seq_k (fun K hK => ?_)
    have HK := Lib.hid hK
    clear hK
    go_wp2
    refine HK.out _ _ ?_
    clear HK
    refine wp_seq_k (fun K hK => ?_)
    have HK := Lib.hid hK
    clear hK
    go_wp2
    refine HK.out _ _ ?_
    clear HK
    refine wp_seq_k (fun K hK => ?_)
    have HK := Lib.hid hK
    clear hK
    go_wp2_with (go_at_call 15; refine (copy_any a cap l _ hs0 (by omega)).mono ?_; rintro e w1 ⟨⟨v1, rfl, ho1⟩, hb1⟩)
    refine HK.out _ _ ?_
    clear HK
    obtain ⟨ma, mcap, rfl, hms1⟩ := SlB.of_owns ho1
    have hB1 := (hb1.block w.heap.size (by simp)).trans (heap_alloc_new _ _)
    have hw1 : Below w.heap.size w w1 := hb0.trans (hb1.mono (by simp))
    clear ho1
    obtain ⟨c0, c1, c2, -, -, -⟩ := tri_cells hB1
    have hl1 : w.heap.size < w1.heap.size := (Array.getElem?_eq_some_iff.1 hB1).1
    refine wp_seq_k (fun K hK => ?_)
    have HK := Lib.hid hK
    clear hK
    go_wp2_with (go_at_call 16; refine (print_any _ _ _ _).mono ?_; rintro e w2 ⟨⟨v2, rfl, ho2⟩, hb2⟩)
    refine HK.out _ _ ?_
    clear HK
    obtain ⟨xa, xcap, rfl, hx2⟩ := SlB.of_owns ho2
    have hB2 := (hb2.block w.heap.size hl1).trans hB1
    have hw2 : Below w.heap.size w w2 := hw1.trans (hb2.mono (by omega))
    have hms2 := hms1.below hb2
    have hl2 : w.heap.size < w2.heap.size := (Array.getElem?_eq_some_iff.1 hB2).1
    clear ho2 c0 c1 c2
    obtain ⟨c0, c1, c2, -, -, -⟩ := tri_cells hB2
    refine wp_seq_k (fun K hK => ?_)
    have HK := Lib.hid hK
    clear hK
    go_wp2_with (go_at_call 17; refine (rprint_any _ _ _ _).mono ?_; rintro e w3 ⟨⟨v3, rfl, ho3⟩, hb3⟩)
    refine HK.out _ _ ?_
    clear HK
    obtain ⟨ya, ycap, rfl, hy3⟩ := SlB.of_owns ho3
    have hB3 := (hb3.block w.heap.size hl2).trans hB2
    have hw3 : Below w.heap.size w w3 := hw2.trans (hb3.mono (by omega))
    have hms3 := hms2.below hb3
    have hx3 := hx2.below hb3
    have hl3 : w.heap.size < w3.heap.size := (Array.getElem?_eq_some_iff.1 hB3).1
    clear ho3 c0 c1 c2
    have hs3 := hs.below hw3
    refine wp_seq_k (fun K hK => ?_)
    have HK := Lib.hid hK
    clear hK
    go_wp2_with (go_at_call 18; refine (parse_any _ _ _ _ hms3).mono ?_; rintro e w4 ⟨rfl, hb4⟩; rw [HPV.out])
    refine HK.out _ _ ?_
    clear HK
    have hB4 := (hb4.block w.heap.size hl3).trans hB3
    have hw4 : Below w.heap.size w w4 := hw3.trans (hb4.mono (by omega))
    have hms4 := hms3.below hb4
    have hx4 := hx3.below hb4
    have hy4 := hy3.below hb4
    have hl4 : w.heap.size < w4.heap.size := (Array.getElem?_eq_some_iff.1 hB4).1
    have hs4 : SlB (w4.alloc (Obj.cells #[.int .i64 x, .int .i64 y, .int .i64 z] 25)) a cap l := hs.below (hw4.alloc (by omega) _)
    refine wp_seq_k (fun K hK => ?_)
    have HK := Lib.hid hK
    clear hK
    go_wp2_with (go_at_call 19; refine (rparse_any _ _ _ _ hs4).mono ?_; rintro e w5 ⟨rfl, hb5⟩; rw [HPV.out])
    refine HK.out _ _ ?_
    clear HK
    have hB4a := (heap_alloc_new w4 (Obj.cells #[.int .i64 x, .int .i64 y, .int .i64 z] 25))
    have hl5 : w4.heap.size < w5.heap.size := by have := hb5.size; simp at this; omega
    have hB5a := (hb5.block w4.heap.size (by simp)).trans hB4a
    have hb45 : Below w4.heap.size w4 w5 := ((Below.refl _ _).alloc (Nat.le_refl _) _).trans (hb5.mono (by simp))
    have hb46 : Below w4.heap.size w4 (w5.alloc (Obj.cells #[.int .i64 x, .int .i64 y, .int .i64 z] 25)) := hb45.alloc (by omega) _
    have hb56 : Below w5.heap.size w5 (w5.alloc (Obj.cells #[.int .i64 x, .int .i64 y, .int .i64 z] 25)) := (Below.refl _ _).alloc (Nat.le_refl _) _
    have hw6 : Below w.heap.size w (w5.alloc (Obj.cells #[.int .i64 x, .int .i64 y, .int .i64 z] 25)) := hw4.trans (hb46.mono (by omega))
    obtain ⟨c0, c1, c2, -, -, -⟩ := tri_cells ((hb46.block w.heap.size hl4).trans hB4)
    obtain ⟨x0, x1, x2, -, -, -⟩ := tri_cells ((hb56.block w4.heap.size hl5).trans hB5a)
    obtain ⟨y0, y1, y2, -, -, -⟩ := tri_cells (heap_alloc_new w5 (Obj.cells #[.int .i64 x, .int .i64 y, .int .i64 z] 25))
    have r1 := (hms4.below hb46).row
    have r2 := (hs.below hw6).row
    have r3 := (hx4.below hb46).row
    have r4 := (hy4.below hb46).row
    have hml : (metaL r p i).length ≤ 1000000 := by unfold metaL; split <;> simp [le_len]
    generalize hpm : metaL r p i = ml at *
    generalize hpe : metaE r p i = me at *
    generalize hpp : parE l = pe at *
    generalize hmm : mayM r p i = mm at *
    clear hB4a hB5a hb45 hb56 hB4 hB3 hB2 hB1 hms1 hms2 hms3 hms4 hx2 hx3 hx4 hy3 hy4 hs4 hs3 hs0
    generalize w5.alloc (Obj.cells #[.int .i64 x, .int .i64 y, .int .i64 z] 25) = w6 at *
    go_wp2_with fail
    have c0 := under_cell c0
    have c1 := under_cell c1
    have c2 := under_cell c2
    have x0 := under_cell x0
    have x1 := under_cell x1
    have x2 := under_cell x2
    have y0 := under_cell y0
    have y1 := under_cell y1
    have y2 := under_cell y2
    have R1 := Lib.hid (under_row r1)
    have R2 := Lib.hid (under_row r2)
    have R3 := Lib.hid (under_row r3)
    have R4 := Lib.hid (under_row r4)
    clear r1 r2 r3 r4
    refine wp_region_under (by kernel_rfl) (by kernel_rfl) ?_
    repeat (go_big_quiet_step ((first
            | (go_at_call 20; exact under_call (may_any _ _ _ _))
            | (go_at_call 21; exact under_call (rmay_any _ _ _ _))
            | (go_at_call 22; with_reducible exact under_drew (same_any xa ya xcap ycap ml ml _ (R3.out _) (R4.out _) hml hml true (by simp)))
            | (go_at_call 22; with_reducible exact under_drew (same_any ma a mcap cap l l _ (R1.out _) (R2.out _) (by omega) (by omega) true (by simp))))))
    refine wpQuiet_nil ?_
    intro _ hw'
    obtain ⟨xU, hw''⟩ := hw'
    subst hw''
    have hbU := under_below w6 xU
    rename_i hK
    refine hK _ _ ?_
    clear hK
    go_wp2
    go_ret
    exact ⟨rfl, hw6.trans (hbU.mono hw6.size)⟩
end Go.Proofs.Ytmnjmjbmnhppfaa
