/- Texts that the claim leans on, part 14: N11, N12, OM. -/
import Derived.Test.YtejjneamngkmoaaDoorZ1
import Derived.Test.YtejjneamngkmoaaDoorZ2
import Derived.Test.YtejjneamngkmoaaDoorZ3
import Derived.Test.YtejjneamngkmoaaDoorZ4
import Derived.Test.YtejjneamngkmoaaDoorZ5
import Derived.Test.YtejjneamngkmoaaDoorZ6
import Derived.Test.YtejjneamngkmoaaDoorZ7
import Derived.Test.YtejjneamngkmoaaDoorZ8
import Derived.Test.YtejjneamngkmoaaDoorZ9
import Derived.Test.YtejjneamngkmoaaDoorZ10
import Derived.Test.YtejjneamngkmoaaDoorZ11
import Derived.Test.YtejjneamngkmoaaDoorZ12
import Derived.Test.YtejjneamngkmoaaDoorZ13
import Derived.Test.YtejjneamngkmoaaDoorRows
import Derived.WalkKit
import Derived.WalkSpells
import Derived.WalkLawsBesides
import Derived.Handy
import Derived.Deep.QuietTactic
import Derived.BigQuiet
import Derived.Deep.DeepCutAuto
import Derived.Lib.Hide
import Derived.RegionTactic
import Derived.ChangeAlike
import Derived.Laws.ResultCell
import Derived.Outline
import Derived.ProofKit
import Derived.Lib.SmallJoins
import Derived.Laws.StructEq
import Derived.StillTailTactics
import Derived.Deep.RegionWith
import Derived.OpenShut
import Derived.ChangeSlices
import Derived.Deep.Slices
import Derived.Laws.IdiomStrings
import Derived.Laws.BytesArg
import Derived.Laws.MakeOwn
import Derived.Lib.SliceRun
import Derived.Laws.BitsAllLaws
import Derived.Great.BuildSlice
import Derived.Great.FillDense
import Derived.Laws.Rows
import Derived.Deep.Quiet
import Derived.Deep.RegionHeld3
import Derived.Laws.CopyOwn
import Derived.Laws.CopyRow
import Derived.Laws.NewBlocks
import Derived.Deep.RegionLaw
namespace Go.Proofs.YtejjneamngkmoaaDoor
open Go.RowKit

def abqB (r p r' p' : Int) : Bool := decide (r' < r) || (decide (r = r') && decide (p' ≤ p))
set_option maxHeartbeats 1000000 in
theorem labove_any (r p r' p' : Int) (w : World) : Calls Tryd.prog 49 #[.agg #[.int .i64 r, .int .i64 p], .agg #[.int .i64 r', .int .i64 p']] w fun e w' => e = .returned (.bool (abqB r p r' p')) ∧ Below w.heap.size w w' := by
  unfold abqB
  by_cases h1 : r' < r
  · go_enter Tryd.func49, Tryd.ntmps49
    go_wp2
    go_ret
    exact ⟨ret_bool (by simp [h1]), by (repeat' (first | (with_reducible exact Below.refl _ _) | (with_reducible assumption) | (with_reducible refine Below.alloc ?_ ?_ _) | (with_reducible refine Below.drew ?_) | (with_reducible refine below_drewN ?_ _) | (with_reducible refine Below.setCell ?_ ?_ _) | (with_reducible refine Below.trans ?_ (by assumption)) | go_size))⟩
  · by_cases h2 : r = r'
    · subst h2
      by_cases h3 : p' ≤ p
      all_goals
        go_enter Tryd.func49, Tryd.ntmps49
        go_wp2
        go_ret
        exact ⟨ret_bool (by simp [h3]), by (repeat' (first | (with_reducible exact Below.refl _ _) | (with_reducible assumption) | (with_reducible refine Below.alloc ?_ ?_ _) | (with_reducible refine Below.drew ?_) | (with_reducible refine below_drewN ?_ _) | (with_reducible refine Below.setCell ?_ ?_ _) | (with_reducible refine Below.trans ?_ (by assumption)) | go_size))⟩
    · go_enter Tryd.func49, Tryd.ntmps49
      go_wp2
      go_ret
      exact ⟨ret_bool (by simp [h1]), by (repeat' (first | (with_reducible exact Below.refl _ _) | (with_reducible assumption) | (with_reducible refine Below.alloc ?_ ?_ _) | (with_reducible refine Below.drew ?_) | (with_reducible refine below_drewN ?_ _) | (with_reducible refine Below.setCell ?_ ?_ _) | (with_reducible refine Below.trans ?_ (by assumption)) | go_size))⟩
theorem row_13 {w : World} {q : Nat} (h : w.heap[q]? = some (.cells #[.int .u8 2, .int .u8 0, .int .u8 0, .int .u8 0, .int .u8 0, .int .u8 0, .int .u8 1, .int .u8 1, .int .u8 0, .int .u8 0, .int .u8 0, .int .u8 0, .int .u8 0] 5 (0, 0))) : Row w (some ⟨q, 0, none⟩) (bys [2, 0, 0, 0, 0, 0, 1, 1, 0, 0, 0, 0, 0]) :=
  Row.of_block (cs := [.int .u8 2, .int .u8 0, .int .u8 0, .int .u8 0, .int .u8 0, .int .u8 0, .int .u8 1, .int .u8 1, .int .u8 0, .int .u8 0, .int .u8 0, .int .u8 0, .int .u8 0]) h 0 (fun i u hu => by rw [Nat.zero_add]; exact hu)
set_option maxRecDepth 100000 in
set_option maxHeartbeats 2000000 in
theorem mawake_any (w : World) : Calls Tryd.prog 43 #[] w fun e w' => e = .returned (.bool true) ∧ Below w.heap.size w w' := by
  obtain ⟨d1, d2, d3, e1, e2, e3, e4, w1, w2, pe, pl⟩ := ex_meta
  have HE1 := Lib.hid e1
  have HE2 := Lib.hid e2
  have HE3 := Lib.hid e3
  have HE4 := Lib.hid e4
  have HW1 := Lib.hid w1
  have HW2 := Lib.hid w2
  have HPE := Lib.hid pe
  have HPL := Lib.hid pl
  clear e1 e2 e3 e4 w1 w2 pe pl
  go_enter Tryd.func43, Tryd.ntmps43
  go_wp2_with fail
  refine (new156 (Nat.le_refl w.heap.size)).mono ?_
  rintro e w1 ⟨⟨g, gp, rfl, D1⟩, hb1⟩
  go_wp2_with fail
  have T2 := heap_alloc_new w1 (Obj.cells #[.int .i64 2, .int .i64 1] 86)
  have D2 := D1.below (blw w1 (Obj.cells #[.int .i64 2, .int .i64 1] 86))
  have k2 := (Kt.of hb1 (Nat.le_refl w.heap.size)).trans (Kt.of (blw w1 (Obj.cells #[.int .i64 2, .int .i64 1] 86)) hb1.size)
  generalize w1.alloc (Obj.cells #[.int .i64 2, .int .i64 1] 86) = w2 at *
  generalize w1.heap.size = qt at *
  clear D1 hb1
  have hbg := begin_any D2 k2.bl.size (by simp [newDk]) 3
  rw [HE1.out] at hbg
  refine hbg.mono ?_
  rintro e w3 ⟨rfl, ⟨wv3, D3⟩, hk3⟩
  simp only [mV]
  (try simp only at D3)
  have T3 := hk3.ty _ _ _ T2 (by decide) (by decide) (by decide)
  have k3 := k2.trans hk3
  clear hbg D2 k2 hk3 T2
  have T4 := tr_al (Obj.cells #[.int .i64 0, .int .i64 0, .int .i64 1] 88) T3
  obtain ⟨t0, t1⟩ := two_cells T4
  go_wp2_with fail
  have A4 := heap_alloc_new w3 (Obj.cells #[.int .i64 0, .int .i64 0, .int .i64 1] 88)
  have D4 := D3.below (blw w3 (Obj.cells #[.int .i64 0, .int .i64 0, .int .i64 1] 88))
  have k4 := k3.trans (Kt.of (blw w3 (Obj.cells #[.int .i64 0, .int .i64 0, .int .i64 1] 88)) k3.bl.size)
  generalize w3.alloc (Obj.cells #[.int .i64 0, .int .i64 0, .int .i64 1] 88) = w4 at *
  generalize w3.heap.size = qa at *
  clear D3 k3 T3 t0 t1
  have hpr := prom_any D4 k4.bl.size (by rw [HW1.out]; simp) 3 0 0 1 2 1
  rw [HE2.out] at hpr
  refine hpr.mono ?_
  rintro e w5 ⟨rfl, ⟨wv5, D5⟩, hk5⟩
  simp only [mV]
  (try simp only at D5)
  have T5 := hk5.ty _ _ _ T4 (by decide) (by decide) (by decide)
  have A5 := hk5.ty _ _ _ A4 (by decide) (by decide) (by decide)
  have k5 := k4.trans hk5
  clear hpr D4 k4 hk5 T4 A4
  go_wp2_with fail
  have B6 := heap_alloc_new w5 (Obj.cells #[.int .i64 2, .int .i64 1, .int .i64 1] 88)
  have T6 := tr_al (Obj.cells #[.int .i64 2, .int .i64 1, .int .i64 1] 88) T5
  have A6 := tr_al (Obj.cells #[.int .i64 2, .int .i64 1, .int .i64 1] 88) A5
  have D6 := D5.below (blw w5 (Obj.cells #[.int .i64 2, .int .i64 1, .int .i64 1] 88))
  have k6 := k5.trans (Kt.of (blw w5 (Obj.cells #[.int .i64 2, .int .i64 1, .int .i64 1] 88)) k5.bl.size)
  generalize w5.alloc (Obj.cells #[.int .i64 2, .int .i64 1, .int .i64 1] 88) = w6 at *
  generalize w5.heap.size = qb at *
  clear D5 k5 T5 A5
  have hpr := prom_any D6 k6.bl.size (by rw [HW2.out]; simp) 3 2 1 1 2 0
  rw [HE3.out] at hpr
  refine hpr.mono ?_
  rintro e w7 ⟨rfl, ⟨wv7, D7⟩, hk7⟩
  simp only [mV]
  (try simp only at D7)
  have T7 := hk7.ty _ _ _ T6 (by decide) (by decide) (by decide)
  have A7 := hk7.ty _ _ _ A6 (by decide) (by decide) (by decide)
  have B7 := hk7.ty _ _ _ B6 (by decide) (by decide) (by decide)
  have k7 := k6.trans hk7
  clear hpr D6 k6 hk7 T6 A6 B6
  go_wp2_with fail
  have T8 := tr_al (Obj.cells #[.int .i64 0, .int .i64 0, .int .i64 0] 88) T7
  have A8 := tr_al (Obj.cells #[.int .i64 0, .int .i64 0, .int .i64 0] 88) A7
  have B8 := tr_al (Obj.cells #[.int .i64 0, .int .i64 0, .int .i64 0] 88) B7
  have D8 := D7.below (blw w7 (Obj.cells #[.int .i64 0, .int .i64 0, .int .i64 0] 88))
  have k8 := k7.trans (Kt.of (blw w7 (Obj.cells #[.int .i64 0, .int .i64 0, .int .i64 0] 88)) k7.bl.size)
  generalize w7.alloc (Obj.cells #[.int .i64 0, .int .i64 0, .int .i64 0] 88) = w8 at *
  generalize w7.heap.size = qz at *
  clear D7 k7 T7 A7 B7
  have hbg := begin_any D8 k8.bl.size (by rw [HW2.out]; simp) 3
  rw [HE4.out] at hbg
  refine hbg.mono ?_
  rintro e w9 ⟨rfl, ⟨wv9, D9⟩, hk9⟩
  simp only [mV]
  have T9 := hk9.ty _ _ _ T8 (by decide) (by decide) (by decide)
  have A9 := hk9.ty _ _ _ A8 (by decide) (by decide) (by decide)
  have B9 := hk9.ty _ _ _ B8 (by decide) (by decide) (by decide)
  have k9 := k8.trans hk9
  clear hbg D8 k8 hk9 T8 A8 B8 D9
  have BX := tr_al (Obj.cells #[.int .i64 2, .int .i64 1, .int .i64 2] 88) B9
  obtain ⟨b0, b1, b2, -, -, -⟩ := tri_cells BX
  go_wp2_with fail
  have CX := heap_alloc_new w9 (Obj.cells #[.int .i64 2, .int .i64 1, .int .i64 2] 88)
  have TX := tr_al (Obj.cells #[.int .i64 2, .int .i64 1, .int .i64 2] 88) T9
  have AX := tr_al (Obj.cells #[.int .i64 2, .int .i64 1, .int .i64 2] 88) A9
  have kX := k9.trans (Kt.of (blw w9 (Obj.cells #[.int .i64 2, .int .i64 1, .int .i64 2] 88)) k9.bl.size)
  generalize w9.alloc (Obj.cells #[.int .i64 2, .int .i64 1, .int .i64 2] 88) = wX at *
  generalize w9.heap.size = qc at *
  clear k9 T9 A9 B9 b0 b1 b2
  refine (print_any 2 1 1 _).mono ?_
  rintro e wY ⟨⟨vY, rfl, hown⟩, hbY⟩
  rw [HPE.out]
  rw [HPL.out] at hown
  obtain ⟨pa, pc, rfl, hsl⟩ := SlB.of_owns hown
  have CY := tr_bl hbY CX
  have TY := tr_bl hbY TX
  have AY := tr_bl hbY AX
  have BY := tr_bl hbY BX
  have kY := kX.trans (Kt.of hbY kX.bl.size)
  clear CX TX AX BX kX hbY hown
  obtain ⟨a0, a1, a2, -, -, -⟩ := tri_cells AY
  obtain ⟨b0, b1, b2, -, -, -⟩ := tri_cells BY
  obtain ⟨c0, c1, c2, -, -, -⟩ := tri_cells CY
  obtain ⟨t0, t1⟩ := two_cells TY
  have hrow := hsl.row
  clear hsl
  go_wp2_with fail
  have hb12 := blw wY (Obj.cells #[.int .u8 2, .int .u8 0, .int .u8 0, .int .u8 0, .int .u8 0, .int .u8 0, .int .u8 1, .int .u8 1, .int .u8 0, .int .u8 0, .int .u8 0, .int .u8 0, .int .u8 0] 5)
  refine (rsame_any pa (some ⟨wY.heap.size, 0, none⟩) pc 13 _ [2, 0, 0, 0, 0, 0, 1, 1, 0, 0, 0, 0, 0] _ (hrow.below0 hb12) (row_13 (heap_alloc_new wY (Obj.cells #[.int .u8 2, .int .u8 0, .int .u8 0, .int .u8 0, .int .u8 0, .int .u8 0, .int .u8 1, .int .u8 1, .int .u8 0, .int .u8 0, .int .u8 0, .int .u8 0, .int .u8 0] 5))) (by decide)).mono ?_
  rintro e wZ ⟨rfl, hbZ⟩
  go_wp2
  go_ret
  exact ⟨rfl, (kY.trans (Kt.of (hb12.trans (hbZ.mono hb12.size)) kY.bl.size)).bl⟩
end Go.Proofs.YtejjneamngkmoaaDoor

namespace Go.Proofs.YtejjneamngkmoaaDoor
open Go.RowKit

theorem metaE_yes {r p i : Int} (h : mayM r p i = true) : metaE r p i = 0 := by
  unfold metaE
  rw [if_pos h]
theorem metaE_no {r p i : Int} (h : mayM r p i = false) : metaE r p i = 2 := by
  unfold metaE
  rw [h]
  rfl
theorem parV_print {r p i : Int} (h : mayM r p i = true) : parV (metaL r p i) = .agg #[.int .i64 r, .int .i64 p, .int .i64 i] := by
  rw [parV_T, (parE_print h).2]
  rfl
theorem par_no {l : List UInt8} (h : parM l = false) : parV l = .agg #[.int .i64 0, .int .i64 0, .int .i64 0] ∧ parE l = 80 := by
  unfold parV parE
  rw [h]
  exact ⟨rfl, rfl⟩
theorem par_yes {l : List UInt8} (h : parM l = true) : ∃ r p i : Int, parV l = .agg #[.int .i64 r, .int .i64 p, .int .i64 i] ∧ parE l = 0 ∧ metaL r p i = l ∧ metaE r p i = 0 := by
  obtain ⟨h1, h2⟩ := print_parse h
  refine ⟨getN l 0 6, getN l 6 1, getN l 7 6, ?_, ?_, h1, metaE_yes h2⟩
  · unfold parV
    rw [if_pos h]
  · unfold parE
    rw [if_pos h]
theorem SlB.below0 {w w' : World} {a : Option Addr} {cap : Nat} {l : List UInt8} (h : SlB w a cap l) (hb : Below w.heap.size w w') : SlB w' a cap l := h.below hb
set_option maxRecDepth 100000 in
set_option maxHeartbeats 2000000 in
theorem back_law (r p i : Int) (a : Option Addr) (cap : Nat) (l : List UInt8) (w : World) (hs : SlB w a cap l) :
    Calls Tryd.prog 11 #[.agg #[.int .i64 r, .int .i64 p, .int .i64 i], .slice a l.length cap] w fun e w' => e = .returned (.bool true) ∧ Below w.heap.size w w' := by
  by_cases h100 : 100 < l.length
  case pos =>
    have hI : (100 : Int) < l.length := by omega
    go_enter Tryd.func11, Tryd.ntmps11
    go_wp2_with fail
    have M0 := heap_alloc_new w (Obj.cells #[.int .i64 r, .int .i64 p, .int .i64 i] 88)
    have hb0 := blw w (Obj.cells #[.int .i64 r, .int .i64 p, .int .i64 i] 88)
    generalize w.alloc (Obj.cells #[.int .i64 r, .int .i64 p, .int .i64 i] 88) = w0 at *
    refine (mawake_any _).mono ?_
    rintro e w1 ⟨rfl, hb1⟩
    have M1 := tr_bl hb1 M0
    have k1 := hb0.trans (hb1.mono hb0.size)
    clear hb0 hb1 M0
    obtain ⟨q0, q1, q2, -, -, -⟩ := tri_cells M1
    go_wp2
    go_ret
    exact ⟨rfl, k1⟩
  case neg =>
  have hI : ¬ (100 : Int) < l.length := by omega
  cases hm : mayM r p i
  case false =>
    have HE := Lib.hid (metaE_no hm)
    have HM := Lib.hid hm
    clear hm
    cases hpm : parM l
    case false =>
      obtain ⟨v1, v2⟩ := par_no hpm
      have HV := Lib.hid v1
      have HPE := Lib.hid v2
      clear v1 v2 hpm
      go_enter Tryd.func11, Tryd.ntmps11
      go_wp2_with fail
      have M0 := heap_alloc_new w (Obj.cells #[.int .i64 r, .int .i64 p, .int .i64 i] 88)
      have hb0 := blw w (Obj.cells #[.int .i64 r, .int .i64 p, .int .i64 i] 88)
      generalize w.alloc (Obj.cells #[.int .i64 r, .int .i64 p, .int .i64 i] 88) = w0 at *
      refine (mawake_any _).mono ?_
      rintro e w1 ⟨rfl, hb1⟩
      have M1 := tr_bl hb1 M0
      have k1 := hb0.trans (hb1.mono hb0.size)
      clear hb0 hb1 M0
      obtain ⟨q0, q1, q2, -, -, -⟩ := tri_cells M1
      go_wp2_with fail
      refine (print_any r p i _).mono ?_
      rintro e w2 ⟨⟨v2, rfl, hown⟩, hb2⟩
      rw [HE.out]
      have M2 := tr_bl hb2 M1
      have k2 := k1.trans (hb2.mono k1.size)
      obtain ⟨xa, xc, rfl, hx2⟩ := SlB.of_owns hown
      clear hown q0 q1 q2 hb2 M1
      obtain ⟨q0, q1, q2, -, -, -⟩ := tri_cells M2
      go_wp2_with fail
      refine (may_any r p i _).mono ?_
      rintro e w3 ⟨rfl, hb3⟩
      rw [HM.out]
      have M3 := tr_bl hb3 M2
      have k3 := k2.trans (hb3.mono k2.size)
      have hx3 := hx2.below hb3
      clear q0 q1 q2 hb3 M2 hx2
      go_wp2_with fail
      have k5 := k3
      refine (parse_any a cap l _ (hs.below0 k5)).mono ?_
      rintro e w6 ⟨rfl, hb6⟩
      rw [HV.out, HPE.out]
      go_wp2
      go_ret
      exact ⟨rfl, (k5.trans (hb6.mono k5.size)).trans ((blw w6 (Obj.cells #[.int .i64 0, .int .i64 0, .int .i64 0] 88)).mono (k5.trans (hb6.mono k5.size)).size)⟩
    case true =>
      obtain ⟨rr, pp, ii, v1, v2, v3, v4⟩ := par_yes hpm
      have HV := Lib.hid v1
      have HPE := Lib.hid v2
      have HL := Lib.hid v3
      have HE2 := Lib.hid v4
      clear v1 v2 v3 v4 hpm
      go_enter Tryd.func11, Tryd.ntmps11
      go_wp2_with fail
      have M0 := heap_alloc_new w (Obj.cells #[.int .i64 r, .int .i64 p, .int .i64 i] 88)
      have hb0 := blw w (Obj.cells #[.int .i64 r, .int .i64 p, .int .i64 i] 88)
      generalize w.alloc (Obj.cells #[.int .i64 r, .int .i64 p, .int .i64 i] 88) = w0 at *
      refine (mawake_any _).mono ?_
      rintro e w1 ⟨rfl, hb1⟩
      have M1 := tr_bl hb1 M0
      have k1 := hb0.trans (hb1.mono hb0.size)
      clear hb0 hb1 M0
      obtain ⟨q0, q1, q2, -, -, -⟩ := tri_cells M1
      go_wp2_with fail
      refine (print_any r p i _).mono ?_
      rintro e w2 ⟨⟨v2, rfl, hown⟩, hb2⟩
      rw [HE.out]
      have M2 := tr_bl hb2 M1
      have k2 := k1.trans (hb2.mono k1.size)
      obtain ⟨xa, xc, rfl, hx2⟩ := SlB.of_owns hown
      clear hown q0 q1 q2 hb2 M1
      obtain ⟨q0, q1, q2, -, -, -⟩ := tri_cells M2
      go_wp2_with fail
      refine (may_any r p i _).mono ?_
      rintro e w3 ⟨rfl, hb3⟩
      rw [HM.out]
      have M3 := tr_bl hb3 M2
      have k3 := k2.trans (hb3.mono k2.size)
      have hx3 := hx2.below hb3
      clear q0 q1 q2 hb3 M2 hx2
      go_wp2_with fail
      have k5 := k3
      refine (parse_any a cap l _ (hs.below0 k5)).mono ?_
      rintro e w6 ⟨rfl, hb6⟩
      rw [HV.out, HPE.out]
      have k6 := k5.trans (hb6.mono k5.size)
      clear k5 hb6
      go_wp2_with fail
      have hb7 := blw w6 (Obj.cells #[.int .i64 rr, .int .i64 pp, .int .i64 ii] 88)
      generalize w6.alloc (Obj.cells #[.int .i64 rr, .int .i64 pp, .int .i64 ii] 88) = w7 at *
      have k7 := k6.trans (hb7.mono k6.size)
      refine (print_any rr pp ii _).mono ?_
      rintro e w8 ⟨⟨v8, rfl, hown⟩, hb8⟩
      rw [HE2.out]
      rw [HL.out] at hown
      obtain ⟨ya, yc, rfl, hy⟩ := SlB.of_owns hown
      have k8 := k7.trans (hb8.mono k7.size)
      clear hown hb7 hb8
      go_wp2_with fail
      refine (rsame_any ya a yc cap l l _ hy.row (hs.below0 k8).row (by omega)).mono ?_
      rintro e w9 ⟨rfl, hb9⟩
      rw [decide_eq_true rfl]
      go_wp2
      go_ret
      exact ⟨rfl, k8.trans (hb9.mono k8.size)⟩
  case true =>
    have HE := Lib.hid (metaE_yes hm)
    have HXV := Lib.hid (parV_print hm)
    have HXE := Lib.hid (parE_print hm).1
    have HM := Lib.hid hm
    clear hm
    cases hpm : parM l
    case false =>
      obtain ⟨v1, v2⟩ := par_no hpm
      have HV := Lib.hid v1
      have HPE := Lib.hid v2
      clear v1 v2 hpm
      go_enter Tryd.func11, Tryd.ntmps11
      go_wp2_with fail
      have M0 := heap_alloc_new w (Obj.cells #[.int .i64 r, .int .i64 p, .int .i64 i] 88)
      have hb0 := blw w (Obj.cells #[.int .i64 r, .int .i64 p, .int .i64 i] 88)
      generalize w.alloc (Obj.cells #[.int .i64 r, .int .i64 p, .int .i64 i] 88) = w0 at *
      refine (mawake_any _).mono ?_
      rintro e w1 ⟨rfl, hb1⟩
      have M1 := tr_bl hb1 M0
      have k1 := hb0.trans (hb1.mono hb0.size)
      clear hb0 hb1 M0
      obtain ⟨q0, q1, q2, -, -, -⟩ := tri_cells M1
      go_wp2_with fail
      refine (print_any r p i _).mono ?_
      rintro e w2 ⟨⟨v2, rfl, hown⟩, hb2⟩
      rw [HE.out]
      have M2 := tr_bl hb2 M1
      have k2 := k1.trans (hb2.mono k1.size)
      obtain ⟨xa, xc, rfl, hx2⟩ := SlB.of_owns hown
      clear hown q0 q1 q2 hb2 M1
      obtain ⟨q0, q1, q2, -, -, -⟩ := tri_cells M2
      go_wp2_with fail
      refine (may_any r p i _).mono ?_
      rintro e w3 ⟨rfl, hb3⟩
      rw [HM.out]
      have M3 := tr_bl hb3 M2
      have k3 := k2.trans (hb3.mono k2.size)
      have hx3 := hx2.below hb3
      clear q0 q1 q2 hb3 M2 hx2
      go_wp2_with fail
      refine (parse_any xa xc (metaL r p i) _ hx3).mono ?_
      rintro e w4 ⟨rfl, hb4⟩
      rw [HXV.out, HXE.out]
      have M4 := tr_al (Obj.cells #[.int .i64 r, .int .i64 p, .int .i64 i] 88) (tr_bl hb4 M3)
      have k4 := k3.trans (hb4.mono k3.size)
      clear hb4 M3
      obtain ⟨q0, q1, q2, -, -, -⟩ := tri_cells M4
      go_wp2_with fail
      have k5 := k4.trans ((blw w4 (Obj.cells #[.int .i64 r, .int .i64 p, .int .i64 i] 88)).mono k4.size)
      clear q0 q1 q2 k4 M4
      refine (parse_any a cap l _ (hs.below0 k5)).mono ?_
      rintro e w6 ⟨rfl, hb6⟩
      rw [HV.out, HPE.out]
      go_wp2
      go_ret
      exact ⟨rfl, (k5.trans (hb6.mono k5.size)).trans ((blw w6 (Obj.cells #[.int .i64 0, .int .i64 0, .int .i64 0] 88)).mono (k5.trans (hb6.mono k5.size)).size)⟩
    case true =>
      obtain ⟨rr, pp, ii, v1, v2, v3, v4⟩ := par_yes hpm
      have HV := Lib.hid v1
      have HPE := Lib.hid v2
      have HL := Lib.hid v3
      have HE2 := Lib.hid v4
      clear v1 v2 v3 v4 hpm
      go_enter Tryd.func11, Tryd.ntmps11
      go_wp2_with fail
      have M0 := heap_alloc_new w (Obj.cells #[.int .i64 r, .int .i64 p, .int .i64 i] 88)
      have hb0 := blw w (Obj.cells #[.int .i64 r, .int .i64 p, .int .i64 i] 88)
      generalize w.alloc (Obj.cells #[.int .i64 r, .int .i64 p, .int .i64 i] 88) = w0 at *
      refine (mawake_any _).mono ?_
      rintro e w1 ⟨rfl, hb1⟩
      have M1 := tr_bl hb1 M0
      have k1 := hb0.trans (hb1.mono hb0.size)
      clear hb0 hb1 M0
      obtain ⟨q0, q1, q2, -, -, -⟩ := tri_cells M1
      go_wp2_with fail
      refine (print_any r p i _).mono ?_
      rintro e w2 ⟨⟨v2, rfl, hown⟩, hb2⟩
      rw [HE.out]
      have M2 := tr_bl hb2 M1
      have k2 := k1.trans (hb2.mono k1.size)
      obtain ⟨xa, xc, rfl, hx2⟩ := SlB.of_owns hown
      clear hown q0 q1 q2 hb2 M1
      obtain ⟨q0, q1, q2, -, -, -⟩ := tri_cells M2
      go_wp2_with fail
      refine (may_any r p i _).mono ?_
      rintro e w3 ⟨rfl, hb3⟩
      rw [HM.out]
      have M3 := tr_bl hb3 M2
      have k3 := k2.trans (hb3.mono k2.size)
      have hx3 := hx2.below hb3
      clear q0 q1 q2 hb3 M2 hx2
      go_wp2_with fail
      refine (parse_any xa xc (metaL r p i) _ hx3).mono ?_
      rintro e w4 ⟨rfl, hb4⟩
      rw [HXV.out, HXE.out]
      have M4 := tr_al (Obj.cells #[.int .i64 r, .int .i64 p, .int .i64 i] 88) (tr_bl hb4 M3)
      have k4 := k3.trans (hb4.mono k3.size)
      clear hb4 M3
      obtain ⟨q0, q1, q2, -, -, -⟩ := tri_cells M4
      go_wp2_with fail
      have k5 := k4.trans ((blw w4 (Obj.cells #[.int .i64 r, .int .i64 p, .int .i64 i] 88)).mono k4.size)
      clear q0 q1 q2 k4 M4
      refine (parse_any a cap l _ (hs.below0 k5)).mono ?_
      rintro e w6 ⟨rfl, hb6⟩
      rw [HV.out, HPE.out]
      have k6 := k5.trans (hb6.mono k5.size)
      clear k5 hb6
      go_wp2_with fail
      have hb7 := blw w6 (Obj.cells #[.int .i64 rr, .int .i64 pp, .int .i64 ii] 88)
      generalize w6.alloc (Obj.cells #[.int .i64 rr, .int .i64 pp, .int .i64 ii] 88) = w7 at *
      have k7 := k6.trans (hb7.mono k6.size)
      refine (print_any rr pp ii _).mono ?_
      rintro e w8 ⟨⟨v8, rfl, hown⟩, hb8⟩
      rw [HE2.out]
      rw [HL.out] at hown
      obtain ⟨ya, yc, rfl, hy⟩ := SlB.of_owns hown
      have k8 := k7.trans (hb8.mono k7.size)
      clear hown hb7 hb8
      go_wp2_with fail
      refine (rsame_any ya a yc cap l l _ hy.row (hs.below0 k8).row (by omega)).mono ?_
      rintro e w9 ⟨rfl, hb9⟩
      rw [decide_eq_true rfl]
      go_wp2
      go_ret
      exact ⟨rfl, k8.trans (hb9.mono k8.size)⟩
end Go.Proofs.YtejjneamngkmoaaDoor

namespace Go.Proofs.YtejjneamngkmoaaDoor
open Go.ChangeShapes Go.WideShapes Go.ChangeAt Go.RowKit

theorem cellsInt : Tryd.prog.cellsOf 3 = 1 := by kernel_rfl
theorem cellsBallot : Tryd.prog.cellsOf 86 = 2 := by kernel_rfl
theorem cellsMeta : Tryd.prog.cellsOf 88 = 3 := by kernel_rfl
set_option maxRecDepth 100000 in
theorem open_meta {H : Type} {enc : TypeId × Value → H} {W : World} {base : Nat} {sp : Nat → Bool} {hd : Bool} {b0 : Nat} {v : Value} {d : DataW H} {p : List MemPlace}
    (hv : Value.okWide Tryd.prog W .any base 88 v) (h : DataW.Trod enc Tryd.prog W b0 sp hd 88 v d p) : ∃ x y z : Int, v = .agg #[.int .i64 x, .int .i64 y, .int .i64 z] := by
  obtain ⟨cs, rfl, hsz⟩ := okWide_struct Tryd.underlying88 hv
  rw [cellsMeta] at hsz
  obtain ⟨c0, c1, c2, rfl⟩ := Go.Joins.array3 hsz
  obtain ⟨fuel, hf⟩ := h
  obtain ⟨y0, y1, n, _, _, h0, h1⟩ := trod_struct2 Tryd.underlying88 hf
  obtain ⟨z0, z1, m, _, _, g0, g1⟩ := trod_struct2 Tryd.underlying86 h0
  simp [Value.cells, cellsBallot, cellsInt] at h1 g0 g1
  obtain ⟨x, e0, _⟩ := DataW.trod_int Tryd.underlying3 g0
  obtain ⟨y, e1, _⟩ := DataW.trod_int Tryd.underlying3 g1
  obtain ⟨z, e2, _⟩ := DataW.trod_int Tryd.underlying3 h1
  simp at e0 e1 e2
  subst e0 e1 e2
  exact ⟨x, y, z, rfl⟩

end Go.Proofs.YtejjneamngkmoaaDoor

