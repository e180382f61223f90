/- Texts that the claim leans on, part 21: G22. -/
import Derived.Test.YtejjneamngkmoaaDoorZ1
import Derived.Test.YtejjneamngkmoaaDoorZ2
import Derived.Test.YtejjneamngkmoaaDoorZ3
import Derived.Test.YtejjneamngkmoaaDoorZ4
import Derived.Test.YtejjneamngkmoaaDoorZ5
import Derived.Test.YtejjneamngkmoaaDoorZ6
import Derived.Test.YtejjneamngkmoaaDoorZ7
import Derived.Test.YtejjneamngkmoaaDoorZ8
import Derived.Test.YtejjneamngkmoaaDoorZ9
import Derived.Test.YtejjneamngkmoaaDoorZ10
import Derived.Test.YtejjneamngkmoaaDoorZ17
import Derived.Test.YtejjneamngkmoaaDoorZ18
import Derived.Test.YtejjneamngkmoaaDoorZ19
import Derived.Test.YtejjneamngkmoaaDoorZ20
import Derived.Test.YtejjneamngkmoaaDoorRows
import Derived.WalkKit
import Derived.WalkSpells
import Derived.WalkLawsBesides
import Derived.Handy
import Derived.Deep.QuietTactic
import Derived.BigQuiet
import Derived.Deep.DeepCutAuto
import Derived.Lib.Hide
import Derived.RegionTactic
import Derived.ChangeAlike
import Derived.Laws.ResultCell
import Derived.Outline
import Derived.IntWalk
import Derived.Laws.Shifts
import Derived.Deep.Slices
import Derived.Lib.SmallJoins
import Derived.Laws.BitsAllLaws
import Derived.Shelf.Abstract
import Derived.Shelf.RegionOpen
import Derived.OwnWalkIn
import Derived.TacticsInMore
import Derived.LoopNIn
import Derived.LoopIn
import Derived.Maps.AppendAt
import Derived.RangeFuncNested
import Derived.RangeFuncBound
import Derived.RangeFuncCalls
import Derived.RangeFuncLeaves
import Derived.RangeFuncBox
import Derived.Laws.IdiomStrings
import Derived.Laws.BytesArg
import Derived.Laws.MakeOwn
import Derived.Lib.SliceRun
import Derived.Great.BuildSlice
import Derived.Great.FillDense
import Derived.Laws.Rows
import Derived.Deep.Quiet
import Derived.Deep.RegionHeld3
import Derived.ProofKit
import Derived.OpenShut
import Derived.Laws.CopyOwn
import Derived.Laws.CopyRow
import Derived.Laws.NewBlocks
import Derived.Deep.RegionLaw
import Derived.ChangeSlices
namespace Go.Proofs.YtejjneamngkmoaaDoor
open Go.RowKit

theorem healed_key {t : Tg} {body : List UInt8} (ht : mayTg t = true) (hb : body.length ≤ 43) : ∃ f : Nat, firstN t.reg t.pla = f ∧ ∀ e : Dk, Ready e → ∃ dd, (flushD (putsD e f (sealF t body (64 * wideT t)) (wideT t))).1 = dd ∧ placeG dd t.rep t.reg t.pla = (false, false, 0) ∧ honG dd t.rep t.reg t.pla = ((1, t, body), 0) := by
  obtain ⟨f, hf, hfn, _⟩ := place_of ht
  obtain ⟨_, w2, w3⟩ := wide_may ht
  obtain ⟨r1, r2⟩ := room_wide w2 w3
  have hlen : (sealF t body (64 * wideT t)).length = 64 * wideT t := sealF_len (by omega) (by omega)
  refine ⟨f, hf, fun e he => ⟨_, rfl, ?_, ?_⟩⟩
  · exact place_held ht hf (put_held he w2 w3 hfn hlen).2.1
  · have := (put_held he w2 w3 hfn hlen).2.1
    exact hon_of ht hb this.len hf (this.meant hfn)
set_option maxRecDepth 100000 in
set_option maxHeartbeats 4000000 in
theorem ghealed_law (a : Option Addr) (cap : Nat) (l : List A6) (t : Tg) (ba : Option Addr) (bc : Nat) (body : List UInt8) (w : World) (hp : Acts w a l) (hs : SlB w ba bc body) :
    Calls Tryd.prog 7 #[.slice a l.length cap, tgV t, .slice ba body.length bc] w fun e w' => e = .returned (.bool true) ∧ Below w.heap.size w w' := by
  cases hg : gr6 l
  case true =>
    have HG := Lib.hid hg
    clear hg
    go_enter Tryd.func7, Tryd.ntmps7
    go_wp2_with fail
    refine (gawake_any (w.alloc (Obj.cells #[.int .i64 t.rep, .int .i64 t.reg, .int .i64 t.pla, .int .i64 t.idx, .int .i64 t.inc] 37))).mono ?_
    rintro e w1 ⟨rfl, hb1⟩
    have hb01 := (blw w (Obj.cells #[.int .i64 t.rep, .int .i64 t.reg, .int .i64 t.pla, .int .i64 t.idx, .int .i64 t.inc] 37)).trans (hb1.mono (blw w (Obj.cells #[.int .i64 t.rep, .int .i64 t.reg, .int .i64 t.pla, .int .i64 t.idx, .int .i64 t.inc] 37)).size)
    have B1 := tr_bl hb1 (heap_alloc_new w (Obj.cells #[.int .i64 t.rep, .int .i64 t.reg, .int .i64 t.pla, .int .i64 t.idx, .int .i64 t.inc] 37))
    clear hb1
    go_wp2_with fail
    refine (lgreat_any a cap l _ (hp.below hb01)).mono ?_
    rintro e w2 ⟨rfl, hb2⟩
    have hb02 := hb01.trans (hb2.mono hb01.size)
    have B2 := tr_bl hb2 B1
    have hq0 : w.heap.size ≤ w.heap.size := Nat.le_refl _
    clear hb2 hb01 B1
    rw [HG.out]
    go_wp2
    go_ret
    exact ⟨rfl, hb02⟩
  case false =>
  obtain ⟨hl60, hl6⟩ := gr6_no hg
  have HG := Lib.hid hg
  have HL6 := Lib.hid hl6
  clear hg hl6
  by_cases hb43 : 43 < body.length
  case pos =>
    have hI : (43 : Int) < body.length := by omega
    go_enter Tryd.func7, Tryd.ntmps7
    go_wp2_with fail
    refine (gawake_any (w.alloc (Obj.cells #[.int .i64 t.rep, .int .i64 t.reg, .int .i64 t.pla, .int .i64 t.idx, .int .i64 t.inc] 37))).mono ?_
    rintro e w1 ⟨rfl, hb1⟩
    have hb01 := (blw w (Obj.cells #[.int .i64 t.rep, .int .i64 t.reg, .int .i64 t.pla, .int .i64 t.idx, .int .i64 t.inc] 37)).trans (hb1.mono (blw w (Obj.cells #[.int .i64 t.rep, .int .i64 t.reg, .int .i64 t.pla, .int .i64 t.idx, .int .i64 t.inc] 37)).size)
    have B1 := tr_bl hb1 (heap_alloc_new w (Obj.cells #[.int .i64 t.rep, .int .i64 t.reg, .int .i64 t.pla, .int .i64 t.idx, .int .i64 t.inc] 37))
    clear hb1
    go_wp2_with fail
    refine (lgreat_any a cap l _ (hp.below hb01)).mono ?_
    rintro e w2 ⟨rfl, hb2⟩
    have hb02 := hb01.trans (hb2.mono hb01.size)
    have B2 := tr_bl hb2 B1
    have hq0 : w.heap.size ≤ w.heap.size := Nat.le_refl _
    clear hb2 hb01 B1
    rw [HG.out]
    go_wp2
    go_ret
    exact ⟨rfl, hb02⟩
  case neg =>
  have hI : ¬ (43 : Int) < body.length := by omega
  cases hm : mayTg t
  case false =>
    have HM := Lib.hid hm
    clear hm
    go_enter Tryd.func7, Tryd.ntmps7
    go_wp2_with fail
    refine (gawake_any (w.alloc (Obj.cells #[.int .i64 t.rep, .int .i64 t.reg, .int .i64 t.pla, .int .i64 t.idx, .int .i64 t.inc] 37))).mono ?_
    rintro e w1 ⟨rfl, hb1⟩
    have hb01 := (blw w (Obj.cells #[.int .i64 t.rep, .int .i64 t.reg, .int .i64 t.pla, .int .i64 t.idx, .int .i64 t.inc] 37)).trans (hb1.mono (blw w (Obj.cells #[.int .i64 t.rep, .int .i64 t.reg, .int .i64 t.pla, .int .i64 t.idx, .int .i64 t.inc] 37)).size)
    have B1 := tr_bl hb1 (heap_alloc_new w (Obj.cells #[.int .i64 t.rep, .int .i64 t.reg, .int .i64 t.pla, .int .i64 t.idx, .int .i64 t.inc] 37))
    clear hb1
    go_wp2_with fail
    refine (lgreat_any a cap l _ (hp.below hb01)).mono ?_
    rintro e w2 ⟨rfl, hb2⟩
    have hb02 := hb01.trans (hb2.mono hb01.size)
    have B2 := tr_bl hb2 B1
    have hq0 : w.heap.size ≤ w.heap.size := Nat.le_refl _
    clear hb2 hb01 B1
    rw [HG.out]
    have c0 := tg_c0 B2
    have c1 := tg_c1 B2
    have c2 := tg_c2 B2
    have c3 := tg_c3 B2
    have c4 := tg_c4 B2
    go_wp2_with fail
    refine (tmay_any t _).mono ?_
    rintro e w3 ⟨rfl, hb3⟩
    rw [HM.out]
    have hb03 := hb02.trans (hb3.mono hb02.size)
    have B3 := tr_bl hb3 B2
    clear c0 c1 c2 c3 c4 hb3 hb02 B2
    go_wp2
    go_ret
    exact ⟨rfl, hb03⟩
  case true =>
  have HM := Lib.hid hm
  clear hm
  go_enter Tryd.func7, Tryd.ntmps7
  go_wp2_with fail
  refine (gawake_any (w.alloc (Obj.cells #[.int .i64 t.rep, .int .i64 t.reg, .int .i64 t.pla, .int .i64 t.idx, .int .i64 t.inc] 37))).mono ?_
  rintro e w1 ⟨rfl, hb1⟩
  have hb01 := (blw w (Obj.cells #[.int .i64 t.rep, .int .i64 t.reg, .int .i64 t.pla, .int .i64 t.idx, .int .i64 t.inc] 37)).trans (hb1.mono (blw w (Obj.cells #[.int .i64 t.rep, .int .i64 t.reg, .int .i64 t.pla, .int .i64 t.idx, .int .i64 t.inc] 37)).size)
  have B1 := tr_bl hb1 (heap_alloc_new w (Obj.cells #[.int .i64 t.rep, .int .i64 t.reg, .int .i64 t.pla, .int .i64 t.idx, .int .i64 t.inc] 37))
  clear hb1
  go_wp2_with fail
  refine (lgreat_any a cap l _ (hp.below hb01)).mono ?_
  rintro e w2 ⟨rfl, hb2⟩
  have hb02 := hb01.trans (hb2.mono hb01.size)
  have B2 := tr_bl hb2 B1
  have hq0 : w.heap.size ≤ w.heap.size := Nat.le_refl _
  clear hb2 hb01 B1
  rw [HG.out]
  have c0 := tg_c0 B2
  have c1 := tg_c1 B2
  have c2 := tg_c2 B2
  have c3 := tg_c3 B2
  have c4 := tg_c4 B2
  go_wp2_with fail
  refine (tmay_any t _).mono ?_
  rintro e w3 ⟨rfl, hb3⟩
  rw [HM.out]
  have hb03 := hb02.trans (hb3.mono hb02.size)
  have B3 := tr_bl hb3 B2
  clear c0 c1 c2 c3 c4 hb3 hb02 B2
  go_wp2_with fail
  refine (new156b (B := w.heap.size) hb03.size).mono ?_
  rintro e w4 ⟨⟨g, gp, rfl, D4⟩, hb4⟩
  have k4 := (Kt.of hb03 (Nat.le_refl w.heap.size)).trans (Kt.of hb4 hb03.size)
  have B4 := tr_bl hb4 B3
  clear hb03 hb4 B3
  go_wp2_with fail
  obtain ⟨f, hf, hkey⟩ := healed_key HM.out (show body.length ≤ 43 by omega)
  have HKEY := Lib.hid hkey
  have HF := Lib.hid hf
  clear hkey hf
  go_loopw [9] (fun i wr => ∃ (j : Nat) (d : Dk), j ≤ l.length ∧ i = .int .i64 (j : Nat) ∧ (∃ wv, DiskB w.heap.size g gp wv d wr) ∧ Kt w.heap.size w wr ∧ Wk d (2 * j) ∧ wr.heap[w.heap.size]? = some (Obj.cells #[.int .i64 t.rep, .int .i64 t.reg, .int .i64 t.pla, .int .i64 t.idx, .int .i64 t.inc] 37)) (fun i _ => l.length - (intOf i).toNat)
  case atStart => exact ⟨0, _, by omega, rfl, ⟨_, D4⟩, k4, new_wk 0, B4⟩
  case round =>
    clear D4 k4 B4
    obtain ⟨j, d, hj, rfl, ⟨wv4, D4⟩, k4, hwk, B4⟩ := hrel
    by_cases hlt : j < l.length
    case pos =>
      obtain ⟨b, off, rfl, hc, hi⟩ := (hp.below k4.bl).each j hlt
      have hx := HL6.out _ (List.getElem_mem hlt)
      have HIn : ∀ w', Kt w.heap.size wr w' → A6in w' l[j] := fun w' hk => by
        obtain ⟨_, _, _, _, h⟩ := (hp.below (k4.trans hk).bl).each j hlt
        exact h
      generalize l[j] = x at *
      have hcA : ∀ r u, (a6A x)[r]? = some u → wr.cell? ⟨b, off + j * 12 + r, none⟩ = some u := fun r u hu => hc r u (by simpa [a6A] using hu)
      have hdo := ldo_any D4 k4.bl.size x HIn hx (by have := hwk.wt; omega)
      have W5 := do6_wk hwk x
      clear hc hi hx
      go_wp2_with (first
        | ((with_reducible refine wpList_ldC 51 _ ?_); refine ⟨rfl, _, ⟨_, _, _, Tryd.isAgg51, Tryd.sizeOf51, rfl, (show (a6A x).size = 12 from rfl), hcA⟩, ?_⟩)
        | (go_at_call 21; refine hdo.mono ?_; rintro e w5 ⟨⟨v5, rfl⟩, ⟨wv5, D5⟩, hk5⟩))
      go_roundw
      case rel => exact ⟨j + 1, _, by omega, by go_num, ⟨_, D5⟩, k4.trans hk5, W5, hk5.ty _ _ _ B4 (by decide) (by decide) (by decide)⟩
      case measure => simp [intOf]; omega
    case neg =>
      obtain rfl : j = l.length := by omega
      obtain ⟨hR, hwt⟩ := upped_ready hwk
      have hup := up_any D4
      cases hu : upD d
      case true =>
        rw [hu] at hup
        have hud : upped d = (powerD (startD d).1 1000).1 := by unfold upped; rw [if_pos hu]
        rw [hud] at hR hwt
        clear hu hud hwk
        go_wp2_with fail
        refine hup.mono ?_
        rintro e w5 ⟨rfl, rfl⟩
        go_wp2_with fail
        refine (start_any D4).mono ?_
        rintro e w6 ⟨rfl, D6, hk⟩
        have k6 := k4.trans hk
        have B6 := hk.ty _ _ _ B4 (by decide) (by decide) (by decide)
        clear hk k4 B4 D4
        go_wp2_with fail
        refine (power_any D6 1000 (by decide)).mono ?_
        rintro e w7 ⟨rfl, D7, hk⟩
        have k7 := k6.trans hk
        have B7 := hk.ty _ _ _ B6 (by decide) (by decide) (by decide)
        clear hk k6 B6 D6
        obtain ⟨dd, hdd, hpl, hho⟩ := HKEY.out _ hR
        have hpu := lput_any D7 k7.bl.size t HM.out ba bc body (fun w' hk => hs.below (k7.trans hk).bl) (by omega) hR (by omega) HF.out
        rw [hdd] at hpu
        have HPL := Lib.hid hpl
        have HHO := Lib.hid hho
        clear hdd hpl hho hR hwt
        have c0 := tg_c0 B7
        have c1 := tg_c1 B7
        have c2 := tg_c2 B7
        have c3 := tg_c3 B7
        have c4 := tg_c4 B7
        go_wp2_with fail
        refine hpu.mono ?_
        rintro e w8 ⟨rfl, ⟨wv8, D8⟩, hk⟩
        have k8 := k7.trans hk
        have B8 := hk.ty _ _ _ B7 (by decide) (by decide) (by decide)
        clear hk k7 B7 D7 hpu c0 c1 c2 c3 c4
        have c0 := tg_c0 B8
        have c1 := tg_c1 B8
        have c2 := tg_c2 B8
        have c3 := tg_c3 B8
        have c4 := tg_c4 B8
        have hpp := place_any D8 t.rep t.reg t.pla
        rw [HPL.out] at hpp
        go_wp2_with fail
        refine hpp.mono ?_
        rintro e w9 ⟨rfl, hb9⟩
        have k9 := k8.trans (Kt.of hb9 k8.bl.size)
        have B9 := tr_bl hb9 B8
        have D9 := D8.below hb9
        clear hb9 k8 B8 D8 hpp c0 c1 c2 c3 c4
        have c0 := tg_c0 B9
        have c1 := tg_c1 B9
        have c2 := tg_c2 B9
        have c3 := tg_c3 B9
        have c4 := tg_c4 B9
        have hhh := honest_any D9 t.rep t.reg t.pla
        rw [HHO.out] at hhh
        go_wp2_with fail
        refine hhh.mono ?_
        rintro e w10 ⟨⟨a10, c10, rfl, s10⟩, hb10⟩
        have k10 := k9.trans (Kt.of hb10 k9.bl.size)
        have B10 := tr_bl hb10 B9
        clear hb10 k9 B9 D9 hhh c0 c1 c2 c3 c4
        (try simp only at s10)
        have hsd := hs.below k10.bl
        (try simp only)
        go_wp2_with (first
          | ((first | (with_reducible refine wpList_stNew 37 _ _ ?_) | (with_reducible refine wp_stNew 37 _ _ ?_)); refine ⟨_, _, ⟨Tryd.sizeOf37, rfl, tg_new t⟩, rfl, ?_⟩; have T11 := heap_alloc_new w10 (Obj.cells #[.int .i64 t.rep, .int .i64 t.reg, .int .i64 t.pla, .int .i64 t.idx, .int .i64 t.inc] 37); have B11 := tr_al (Obj.cells #[.int .i64 t.rep, .int .i64 t.reg, .int .i64 t.pla, .int .i64 t.idx, .int .i64 t.inc] 37) B10; have k11 := k10.trans (Kt.of (blw w10 (Obj.cells #[.int .i64 t.rep, .int .i64 t.reg, .int .i64 t.pla, .int .i64 t.idx, .int .i64 t.inc] 37)) k10.bl.size); have s11 := s10.below (blw w10 (Obj.cells #[.int .i64 t.rep, .int .i64 t.reg, .int .i64 t.pla, .int .i64 t.idx, .int .i64 t.inc] 37)); have hs11 := hsd.below (blw w10 (Obj.cells #[.int .i64 t.rep, .int .i64 t.reg, .int .i64 t.pla, .int .i64 t.idx, .int .i64 t.inc] 37)); generalize w10.alloc (Obj.cells #[.int .i64 t.rep, .int .i64 t.reg, .int .i64 t.pla, .int .i64 t.idx, .int .i64 t.inc] 37) = w11 at *; generalize w10.heap.size = q11 at *; have c0 := tg_c0 B11; have c1 := tg_c1 B11; have c2 := tg_c2 B11; have c3 := tg_c3 B11; have c4 := tg_c4 B11; have d0 := tg_c0 T11; have d1 := tg_c1 T11; have d2 := tg_c2 T11; have d3 := tg_c3 T11; have d4 := tg_c4 T11; have hsm := rsame_any a10 ba c10 bc body body w11 s11.row hs11.row (by omega); rw [decide_eq_true rfl] at hsm)
          | (go_at_call 29; refine hsm.mono ?_; rintro e w12 ⟨rfl, hb12⟩))
        go_ret
        exact ⟨rfl, (k11.trans (Kt.of hb12 k11.bl.size)).bl⟩
      case false =>
        rw [hu] at hup
        have hud : upped d = (powerD (startD (crashD d []).1).1 1000).1 := by unfold upped; rw [if_neg (by rw [hu]; decide)]
        rw [hud] at hR hwt
        clear hu hud hwk
        go_wp2_with fail
        refine hup.mono ?_
        rintro e w5 ⟨rfl, rfl⟩
        go_wp2_with fail
        refine (crash_any D4 k4.bl.size none 0 [] (fun _ _ => .inl rfl)).mono ?_
        rintro e w5 ⟨rfl, ⟨wv5, D5⟩, hk⟩
        have k5 := k4.trans hk
        have B5 := hk.ty _ _ _ B4 (by decide) (by decide) (by decide)
        clear hk k4 B4 D4 hup
        go_wp2_with fail
        refine (start_any D5).mono ?_
        rintro e w6 ⟨rfl, D6, hk⟩
        have k6 := k5.trans hk
        have B6 := hk.ty _ _ _ B5 (by decide) (by decide) (by decide)
        clear hk k5 B5 D5
        go_wp2_with fail
        refine (power_any D6 1000 (by decide)).mono ?_
        rintro e w7 ⟨rfl, D7, hk⟩
        have k7 := k6.trans hk
        have B7 := hk.ty _ _ _ B6 (by decide) (by decide) (by decide)
        clear hk k6 B6 D6
        obtain ⟨dd, hdd, hpl, hho⟩ := HKEY.out _ hR
        have hpu := lput_any D7 k7.bl.size t HM.out ba bc body (fun w' hk => hs.below (k7.trans hk).bl) (by omega) hR (by omega) HF.out
        rw [hdd] at hpu
        have HPL := Lib.hid hpl
        have HHO := Lib.hid hho
        clear hdd hpl hho hR hwt
        have c0 := tg_c0 B7
        have c1 := tg_c1 B7
        have c2 := tg_c2 B7
        have c3 := tg_c3 B7
        have c4 := tg_c4 B7
        go_wp2_with fail
        refine hpu.mono ?_
        rintro e w8 ⟨rfl, ⟨wv8, D8⟩, hk⟩
        have k8 := k7.trans hk
        have B8 := hk.ty _ _ _ B7 (by decide) (by decide) (by decide)
        clear hk k7 B7 D7 hpu c0 c1 c2 c3 c4
        have c0 := tg_c0 B8
        have c1 := tg_c1 B8
        have c2 := tg_c2 B8
        have c3 := tg_c3 B8
        have c4 := tg_c4 B8
        have hpp := place_any D8 t.rep t.reg t.pla
        rw [HPL.out] at hpp
        go_wp2_with fail
        refine hpp.mono ?_
        rintro e w9 ⟨rfl, hb9⟩
        have k9 := k8.trans (Kt.of hb9 k8.bl.size)
        have B9 := tr_bl hb9 B8
        have D9 := D8.below hb9
        clear hb9 k8 B8 D8 hpp c0 c1 c2 c3 c4
        have c0 := tg_c0 B9
        have c1 := tg_c1 B9
        have c2 := tg_c2 B9
        have c3 := tg_c3 B9
        have c4 := tg_c4 B9
        have hhh := honest_any D9 t.rep t.reg t.pla
        rw [HHO.out] at hhh
        go_wp2_with fail
        refine hhh.mono ?_
        rintro e w10 ⟨⟨a10, c10, rfl, s10⟩, hb10⟩
        have k10 := k9.trans (Kt.of hb10 k9.bl.size)
        have B10 := tr_bl hb10 B9
        clear hb10 k9 B9 D9 hhh c0 c1 c2 c3 c4
        (try simp only at s10)
        have hsd := hs.below k10.bl
        (try simp only)
        go_wp2_with (first
          | ((first | (with_reducible refine wpList_stNew 37 _ _ ?_) | (with_reducible refine wp_stNew 37 _ _ ?_)); refine ⟨_, _, ⟨Tryd.sizeOf37, rfl, tg_new t⟩, rfl, ?_⟩; have T11 := heap_alloc_new w10 (Obj.cells #[.int .i64 t.rep, .int .i64 t.reg, .int .i64 t.pla, .int .i64 t.idx, .int .i64 t.inc] 37); have B11 := tr_al (Obj.cells #[.int .i64 t.rep, .int .i64 t.reg, .int .i64 t.pla, .int .i64 t.idx, .int .i64 t.inc] 37) B10; have k11 := k10.trans (Kt.of (blw w10 (Obj.cells #[.int .i64 t.rep, .int .i64 t.reg, .int .i64 t.pla, .int .i64 t.idx, .int .i64 t.inc] 37)) k10.bl.size); have s11 := s10.below (blw w10 (Obj.cells #[.int .i64 t.rep, .int .i64 t.reg, .int .i64 t.pla, .int .i64 t.idx, .int .i64 t.inc] 37)); have hs11 := hsd.below (blw w10 (Obj.cells #[.int .i64 t.rep, .int .i64 t.reg, .int .i64 t.pla, .int .i64 t.idx, .int .i64 t.inc] 37)); generalize w10.alloc (Obj.cells #[.int .i64 t.rep, .int .i64 t.reg, .int .i64 t.pla, .int .i64 t.idx, .int .i64 t.inc] 37) = w11 at *; generalize w10.heap.size = q11 at *; have c0 := tg_c0 B11; have c1 := tg_c1 B11; have c2 := tg_c2 B11; have c3 := tg_c3 B11; have c4 := tg_c4 B11; have d0 := tg_c0 T11; have d1 := tg_c1 T11; have d2 := tg_c2 T11; have d3 := tg_c3 T11; have d4 := tg_c4 T11; have hsm := rsame_any a10 ba c10 bc body body w11 s11.row hs11.row (by omega); rw [decide_eq_true rfl] at hsm)
          | (go_at_call 29; refine hsm.mono ?_; rintro e w12 ⟨rfl, hb12⟩))
        go_ret
        exact ⟨rfl, (k11.trans (Kt.of hb12 k11.bl.size)).bl⟩
end Go.Proofs.YtejjneamngkmoaaDoor

