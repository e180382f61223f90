/- Texts that the claim leans on, part 22: G24. -/
import Derived.Test.YtejjneamngkmoaaDoorZ1
import Derived.Test.YtejjneamngkmoaaDoorZ2
import Derived.Test.YtejjneamngkmoaaDoorZ3
import Derived.Test.YtejjneamngkmoaaDoorZ4
import Derived.Test.YtejjneamngkmoaaDoorZ5
import Derived.Test.YtejjneamngkmoaaDoorZ6
import Derived.Test.YtejjneamngkmoaaDoorZ7
import Derived.Test.YtejjneamngkmoaaDoorZ8
import Derived.Test.YtejjneamngkmoaaDoorZ9
import Derived.Test.YtejjneamngkmoaaDoorZ10
import Derived.Test.YtejjneamngkmoaaDoorZ17
import Derived.Test.YtejjneamngkmoaaDoorZ18
import Derived.Test.YtejjneamngkmoaaDoorZ19
import Derived.Test.YtejjneamngkmoaaDoorZ20
import Derived.Test.YtejjneamngkmoaaDoorZ21
import Derived.Test.YtejjneamngkmoaaDoorRows
import Derived.WalkKit
import Derived.WalkSpells
import Derived.WalkLawsBesides
import Derived.Handy
import Derived.Deep.QuietTactic
import Derived.BigQuiet
import Derived.Deep.DeepCutAuto
import Derived.Lib.Hide
import Derived.RegionTactic
import Derived.ChangeAlike
import Derived.Laws.ResultCell
import Derived.Outline
import Derived.IntWalk
import Derived.Laws.Shifts
import Derived.Deep.Slices
import Derived.Lib.SmallJoins
import Derived.Laws.BitsAllLaws
import Derived.Shelf.Abstract
import Derived.Shelf.RegionOpen
import Derived.OwnWalkIn
import Derived.TacticsInMore
import Derived.LoopNIn
import Derived.LoopIn
import Derived.Maps.AppendAt
import Derived.RangeFuncNested
import Derived.RangeFuncBound
import Derived.RangeFuncCalls
import Derived.RangeFuncLeaves
import Derived.RangeFuncBox
import Derived.Laws.IdiomStrings
import Derived.Laws.BytesArg
import Derived.Laws.MakeOwn
import Derived.Lib.SliceRun
import Derived.Great.BuildSlice
import Derived.Great.FillDense
import Derived.Laws.Rows
import Derived.Deep.Quiet
import Derived.Deep.RegionHeld3
import Derived.ProofKit
import Derived.OpenShut
import Derived.Laws.CopyOwn
import Derived.Laws.CopyRow
import Derived.Laws.NewBlocks
import Derived.Deep.RegionLaw
import Derived.ChangeSlices
namespace Go.Proofs.YtejjneamngkmoaaDoor
open Go.RowKit

/-- What faults leave of a frame that was put: what it is meant to be stays. -/
structure Keeps (d : Dk) (f n : Nat) (b : List UInt8) : Prop where
  len : d.pl.length = 156
  m : MeantIs d f b n
theorem Keeps.fault {d : Dk} {f n : Nat} {b : List UInt8} (h : Keeps d f n b) {x : A6} (hx : fault x = true) : Keeps (do6 d x) f n b := by
  have hw := do6_wk (m := d.waits.length) ⟨h.len, Nat.le_refl _⟩ x
  exact ⟨hw.len, fun k hk => by rw [do6_meant hx]; exact h.m k hk⟩
theorem honest_key {t : Tg} {body : List UInt8} (ht : mayTg t = true) (hb : body.length ≤ 43) : ∃ f : Nat, firstN t.reg t.pla = f ∧ f + wideT t ≤ 156 ∧
    (∃ dd, (flushD (putsD (newDk 156) f (sealF t body (64 * wideT t)) (wideT t))).1 = dd ∧ Keeps dd f (wideT t) (sealF t body (64 * wideT t)) ∧ dd.waits = []) ∧
    ∀ d : Dk, Keeps d f (wideT t) (sealF t body (64 * wideT t)) → honG d t.rep t.reg t.pla = ((1, t, body), 0) ∧
      ∃ hu go st tg bd, placeG d t.rep t.reg t.pla = (hu, hu && (go || decide (st = 2)), 0) ∧ goneG d f (wideT t) = go ∧ mineF (allR d f (wideT t)) t.rep t.reg t.pla = (st, tg, bd) ∧ (hu = false → go = false ∧ st = 1 ∧ tg = t ∧ bd = body) := by
  obtain ⟨f, hf, hfn, _⟩ := place_of ht
  obtain ⟨_, w2, w3⟩ := wide_may ht
  obtain ⟨r1, r2⟩ := room_wide w2 w3
  have hlen : (sealF t body (64 * wideT t)).length = 64 * wideT t := sealF_len (by omega) (by omega)
  obtain ⟨_, h2, h3⟩ := put_held new_ready w2 w3 hfn hlen
  refine ⟨f, hf, hfn, ⟨_, rfl, ⟨h2.len, h2.meant hfn⟩, h3⟩, fun d hd => ⟨hon_of ht hb hd.len hf hd.m, ?_⟩⟩
  obtain ⟨hu, go, st, e1, e2, e3, e4⟩ := place_sound ht hb hd.len hf hd.m
  obtain ⟨st', tg, bd, hm⟩ : ∃ st' tg bd, mineF (allR d f (wideT t)) t.rep t.reg t.pla = (st', tg, bd) := ⟨_, _, _, rfl⟩
  rw [hm] at e3 e4
  simp only at e3
  subst e3
  refine ⟨hu, go, st', tg, bd, e1, e2, hm, fun h => ?_⟩
  obtain ⟨g1, g2⟩ := e4 h
  simp only [Prod.mk.injEq] at g2
  exact ⟨g1, g2.1, g2.2.1, g2.2.2⟩
set_option maxRecDepth 100000 in
set_option maxHeartbeats 4000000 in
theorem ghonest_law (a : Option Addr) (cap : Nat) (l : List A6) (t : Tg) (ba : Option Addr) (bc : Nat) (body : List UInt8) (w : World) (hp : Acts w a l) (hs : SlB w ba bc body) :
    Calls Tryd.prog 6 #[tgV t, .slice ba body.length bc, .slice a l.length cap] w fun e w' => e = .returned (.bool true) ∧ Below w.heap.size w w' := by
  cases hg : gr6 l
  case true =>
    have HG := Lib.hid hg
    clear hg
    go_enter Tryd.func6, Tryd.ntmps6
    go_wp2_with fail
    refine (gawake_any (w.alloc (Obj.cells #[.int .i64 t.rep, .int .i64 t.reg, .int .i64 t.pla, .int .i64 t.idx, .int .i64 t.inc] 37))).mono ?_
    rintro e w1 ⟨rfl, hb1⟩
    have hb01 := (blw w (Obj.cells #[.int .i64 t.rep, .int .i64 t.reg, .int .i64 t.pla, .int .i64 t.idx, .int .i64 t.inc] 37)).trans (hb1.mono (blw w (Obj.cells #[.int .i64 t.rep, .int .i64 t.reg, .int .i64 t.pla, .int .i64 t.idx, .int .i64 t.inc] 37)).size)
    have B1 := tr_bl hb1 (heap_alloc_new w (Obj.cells #[.int .i64 t.rep, .int .i64 t.reg, .int .i64 t.pla, .int .i64 t.idx, .int .i64 t.inc] 37))
    clear hb1
    go_wp2_with fail
    refine (lgreat_any a cap l _ (hp.below hb01)).mono ?_
    rintro e w2 ⟨rfl, hb2⟩
    have hb02 := hb01.trans (hb2.mono hb01.size)
    have B2 := tr_bl hb2 B1
    clear hb2 hb01 B1
    rw [HG.out]
    go_wp2
    go_ret
    exact ⟨rfl, hb02⟩
  case false =>
  obtain ⟨hl60, hl6⟩ := gr6_no hg
  have HG := Lib.hid hg
  have HL6 := Lib.hid hl6
  clear hg hl6
  by_cases hb43 : 43 < body.length
  case pos =>
    have hI : (43 : Int) < body.length := by omega
    go_enter Tryd.func6, Tryd.ntmps6
    go_wp2_with fail
    refine (gawake_any (w.alloc (Obj.cells #[.int .i64 t.rep, .int .i64 t.reg, .int .i64 t.pla, .int .i64 t.idx, .int .i64 t.inc] 37))).mono ?_
    rintro e w1 ⟨rfl, hb1⟩
    have hb01 := (blw w (Obj.cells #[.int .i64 t.rep, .int .i64 t.reg, .int .i64 t.pla, .int .i64 t.idx, .int .i64 t.inc] 37)).trans (hb1.mono (blw w (Obj.cells #[.int .i64 t.rep, .int .i64 t.reg, .int .i64 t.pla, .int .i64 t.idx, .int .i64 t.inc] 37)).size)
    have B1 := tr_bl hb1 (heap_alloc_new w (Obj.cells #[.int .i64 t.rep, .int .i64 t.reg, .int .i64 t.pla, .int .i64 t.idx, .int .i64 t.inc] 37))
    clear hb1
    go_wp2_with fail
    refine (lgreat_any a cap l _ (hp.below hb01)).mono ?_
    rintro e w2 ⟨rfl, hb2⟩
    have hb02 := hb01.trans (hb2.mono hb01.size)
    have B2 := tr_bl hb2 B1
    clear hb2 hb01 B1
    rw [HG.out]
    go_wp2
    go_ret
    exact ⟨rfl, hb02⟩
  case neg =>
  have hI : ¬ (43 : Int) < body.length := by omega
  cases hm : mayTg t
  case false =>
    have HM := Lib.hid hm
    clear hm
    go_enter Tryd.func6, Tryd.ntmps6
    go_wp2_with fail
    refine (gawake_any (w.alloc (Obj.cells #[.int .i64 t.rep, .int .i64 t.reg, .int .i64 t.pla, .int .i64 t.idx, .int .i64 t.inc] 37))).mono ?_
    rintro e w1 ⟨rfl, hb1⟩
    have hb01 := (blw w (Obj.cells #[.int .i64 t.rep, .int .i64 t.reg, .int .i64 t.pla, .int .i64 t.idx, .int .i64 t.inc] 37)).trans (hb1.mono (blw w (Obj.cells #[.int .i64 t.rep, .int .i64 t.reg, .int .i64 t.pla, .int .i64 t.idx, .int .i64 t.inc] 37)).size)
    have B1 := tr_bl hb1 (heap_alloc_new w (Obj.cells #[.int .i64 t.rep, .int .i64 t.reg, .int .i64 t.pla, .int .i64 t.idx, .int .i64 t.inc] 37))
    clear hb1
    go_wp2_with fail
    refine (lgreat_any a cap l _ (hp.below hb01)).mono ?_
    rintro e w2 ⟨rfl, hb2⟩
    have hb02 := hb01.trans (hb2.mono hb01.size)
    have B2 := tr_bl hb2 B1
    clear hb2 hb01 B1
    rw [HG.out]
    have c0 := tg_c0 B2
    have c1 := tg_c1 B2
    have c2 := tg_c2 B2
    have c3 := tg_c3 B2
    have c4 := tg_c4 B2
    go_wp2_with fail
    refine (tmay_any t _).mono ?_
    rintro e w3 ⟨rfl, hb3⟩
    rw [HM.out]
    have hb03 := hb02.trans (hb3.mono hb02.size)
    have B3 := tr_bl hb3 B2
    clear c0 c1 c2 c3 c4 hb3 hb02 B2
    go_wp2
    go_ret
    exact ⟨rfl, hb03⟩
  case true =>
  have HM := Lib.hid hm
  clear hm
  go_enter Tryd.func6, Tryd.ntmps6
  go_wp2_with fail
  refine (gawake_any (w.alloc (Obj.cells #[.int .i64 t.rep, .int .i64 t.reg, .int .i64 t.pla, .int .i64 t.idx, .int .i64 t.inc] 37))).mono ?_
  rintro e w1 ⟨rfl, hb1⟩
  have hb01 := (blw w (Obj.cells #[.int .i64 t.rep, .int .i64 t.reg, .int .i64 t.pla, .int .i64 t.idx, .int .i64 t.inc] 37)).trans (hb1.mono (blw w (Obj.cells #[.int .i64 t.rep, .int .i64 t.reg, .int .i64 t.pla, .int .i64 t.idx, .int .i64 t.inc] 37)).size)
  have B1 := tr_bl hb1 (heap_alloc_new w (Obj.cells #[.int .i64 t.rep, .int .i64 t.reg, .int .i64 t.pla, .int .i64 t.idx, .int .i64 t.inc] 37))
  clear hb1
  go_wp2_with fail
  refine (lgreat_any a cap l _ (hp.below hb01)).mono ?_
  rintro e w2 ⟨rfl, hb2⟩
  have hb02 := hb01.trans (hb2.mono hb01.size)
  have B2 := tr_bl hb2 B1
  clear hb2 hb01 B1
  rw [HG.out]
  have c0 := tg_c0 B2
  have c1 := tg_c1 B2
  have c2 := tg_c2 B2
  have c3 := tg_c3 B2
  have c4 := tg_c4 B2
  go_wp2_with fail
  refine (tmay_any t _).mono ?_
  rintro e w3 ⟨rfl, hb3⟩
  rw [HM.out]
  have hb03 := hb02.trans (hb3.mono hb02.size)
  have B3 := tr_bl hb3 B2
  clear c0 c1 c2 c3 c4 hb3 hb02 B2
  go_wp2_with fail
  refine (new156b (B := w.heap.size) hb03.size).mono ?_
  rintro e w4 ⟨⟨g, gp, rfl, D4⟩, hb4⟩
  have k4 := (Kt.of hb03 (Nat.le_refl w.heap.size)).trans (Kt.of hb4 hb03.size)
  have B4 := tr_bl hb4 B3
  clear hb03 hb4 B3
  obtain ⟨f, hf, hfn, ⟨d5, hd5, hK5, hw5⟩, hkey⟩ := honest_key HM.out (show body.length ≤ 43 by omega)
  have hpu := lput_any D4 k4.bl.size t HM.out ba bc body (fun w' hk => hs.below (k4.trans hk).bl) (by omega) new_ready (by simp [newDk]) hf
  rw [hd5] at hpu
  have HKEY := Lib.hid hkey
  have HF := Lib.hid hf
  clear hkey hf hd5
  have c0 := tg_c0 B4
  have c1 := tg_c1 B4
  have c2 := tg_c2 B4
  have c3 := tg_c3 B4
  have c4 := tg_c4 B4
  go_wp2_with fail
  refine hpu.mono ?_
  rintro e w5 ⟨rfl, D5, hk⟩
  have k5 := k4.trans hk
  have B5 := hk.ty _ _ _ B4 (by decide) (by decide) (by decide)
  clear hk k4 B4 D4 hpu c0 c1 c2 c3 c4
  go_wp2_with fail
  go_loopw [9, 10] (fun i _ wr => ∃ (j : Nat) (d : Dk), j ≤ l.length ∧ i = .int .i64 (j : Nat) ∧ (∃ wv, DiskB w.heap.size g gp wv d wr) ∧ Kt w.heap.size w wr ∧ Keeps d f (wideT t) (sealF t body (64 * wideT t)) ∧ Hid (d.waits.length ≤ 2 * j) ∧ wr.heap[w.heap.size]? = some (Obj.cells #[.int .i64 t.rep, .int .i64 t.reg, .int .i64 t.pla, .int .i64 t.idx, .int .i64 t.inc] 37)) (fun i _ _ => l.length - (intOf i).toNat)
  case atStart => exact ⟨0, _, by omega, rfl, D5, k5, hK5, Lib.hid (by rw [hw5]; simp), B5⟩
  case round =>
    clear D5 k5 B5 hK5 hw5
    obtain ⟨j, d, hj, rfl, ⟨wv4, D4⟩, k4, hkp, hwt, B4⟩ := hrel
    by_cases hlt : j < l.length
    case pos =>
      obtain ⟨b, off, rfl, hc, hi⟩ := (hp.below k4.bl).each j hlt
      have hx := HL6.out _ (List.getElem_mem hlt)
      have HIn : ∀ w', Kt w.heap.size wr w' → A6in w' l[j] := fun w' hk => by
        obtain ⟨_, _, _, _, h⟩ := (hp.below (k4.trans hk).bl).each j hlt
        exact h
      generalize l[j] = x at *
      have c0 := hc 0 _ rfl
      have c7 := hc 7 _ rfl
      rw [Nat.add_zero] at c0
      have hcA : ∀ r u, (a6A x)[r]? = some u → wr.cell? ⟨b, off + j * 12 + r, none⟩ = some u := fun r u hu => hc r u (by simpa [a6A] using hu)
      have hdo := ldo_any D4 k4.bl.size x HIn hx (by have := hwt.out; omega)
      have W5 := do6_wk (m := 2 * j) ⟨hkp.len, hwt.out⟩ x
      have W6 := Lib.hid (show (do6 d x).waits.length ≤ 2 * (j + 1) by have := W5.wt; omega)
      obtain ⟨m, hm, hm9⟩ : ∃ m, x.dk.kind % 9 = m ∧ m < 9 := ⟨_, rfl, Nat.mod_lt _ (by decide)⟩
      have e1 : (x.dk.kind : Int) % 9 = (m : Int) := by omega
      have e2 : (x.dk.kind : Int).tmod 9 = (m : Int) := by rw [Int.tmod_eq_emod_of_nonneg (by omega)]; exact e1
      have hfa : fault x = (!x.sl && (decide (3 ≤ m) && decide (m ≤ 5))) := by unfold fault; rw [hm]
      have hkx := fun (h : fault x = true) => hkp.fault h
      obtain ⟨sl, hsl⟩ : ∃ sl, x.sl = sl := ⟨_, rfl⟩
      rw [hsl] at c0 hfa
      have HFA := Lib.hid hfa
      have HKX := Lib.hid hkx
      have HSK := Lib.hid (show d.waits.length ≤ 2 * (j + 1) by have := hwt.out; omega)
      clear hm hsl hc hi hx hfa hkx W5
      cases sl
      case true =>
        go_wp2
        go_roundw
        case rel => exact ⟨j + 1, _, by omega, by go_num, ⟨_, D4⟩, k4, hkp, HSK, B4⟩
        case measure => simp [intOf]; omega
      case false =>
        by_cases h3 : 3 ≤ m
        · have i3 : (3 : Int) ≤ (m : Int) := by omega
          by_cases h5 : m ≤ 5
          · have i5 : (m : Int) ≤ (5 : Int) := by omega
            have hfx : fault x = true := by rw [HFA.out, decide_eq_true h3, decide_eq_true h5]; rfl
            have HK6 := HKX.out hfx
            clear hfx
            go_wp2_with (first
              | ((with_reducible refine wpList_ldC 51 _ ?_); refine ⟨rfl, _, ⟨_, _, _, Tryd.isAgg51, Tryd.sizeOf51, rfl, (show (a6A x).size = 12 from rfl), hcA⟩, ?_⟩)
              | (go_at_call 21; refine hdo.mono ?_; rintro e w5 ⟨⟨v5, rfl⟩, ⟨wv5, D5⟩, hk5⟩))
            go_roundw
            case rel => exact ⟨j + 1, _, by omega, by go_num, ⟨_, D5⟩, k4.trans hk5, HK6, W6, hk5.ty _ _ _ B4 (by decide) (by decide) (by decide)⟩
            case measure => simp [intOf]; omega
          · have i5 : ¬ (m : Int) ≤ (5 : Int) := by omega
            go_wp2
            go_roundw
            case rel => exact ⟨j + 1, _, by omega, by go_num, ⟨_, D4⟩, k4, hkp, HSK, B4⟩
            case measure => simp [intOf]; omega
        · have i3 : ¬ (3 : Int) ≤ (m : Int) := by omega
          go_wp2
          go_roundw
          case rel => exact ⟨j + 1, _, by omega, by go_num, ⟨_, D4⟩, k4, hkp, HSK, B4⟩
          case measure => simp [intOf]; omega
    case neg =>
      obtain rfl : j = l.length := by omega
      obtain ⟨hho, hu, go, st, tg, bd, hpl, hgo, hmi, himp⟩ := HKEY.out d hkp
      have HGO := Lib.hid hgo
      have HMI := Lib.hid hmi
      clear hgo hmi hwt hkp
      have c0 := tg_c0 B4
      have c1 := tg_c1 B4
      have c2 := tg_c2 B4
      have c3 := tg_c3 B4
      have c4 := tg_c4 B4
      have hhh := honest_any D4 t.rep t.reg t.pla
      rw [hho] at hhh
      have hpp := fun w' (h : DiskB w.heap.size g gp wv4 d w') => place_any h t.rep t.reg t.pla
      rw [hpl] at hpp
      clear hho hpl
      go_wp2_with fail
      refine hhh.mono ?_
      rintro e w5 ⟨⟨a5, c5, rfl, s5⟩, hb5⟩
      have k5 := k4.trans (Kt.of hb5 k4.bl.size)
      have B5 := tr_bl hb5 B4
      have D5 := D4.below hb5
      clear hb5 k4 B4 D4 hhh c0 c1 c2 c3 c4
      (try simp only at s5)
      (try simp only)
      have hsd := hs.below k5.bl
      cases hu
      case false =>
        obtain ⟨h1, h2, h3, h4⟩ := himp rfl
        rw [h2, h3, h4] at HMI
        rw [h1] at HGO
        clear himp h1 h2 h3 h4
        simp only [Bool.false_and] at hpp
        go_wp2_with (first
          | ((first | (with_reducible refine wpList_stNew 37 _ _ ?_) | (with_reducible refine wp_stNew 37 _ _ ?_)); refine ⟨_, _, ⟨Tryd.sizeOf37, rfl, tg_new t⟩, rfl, ?_⟩; have T6 := heap_alloc_new w5 (Obj.cells #[.int .i64 t.rep, .int .i64 t.reg, .int .i64 t.pla, .int .i64 t.idx, .int .i64 t.inc] 37); have B6 := tr_al (Obj.cells #[.int .i64 t.rep, .int .i64 t.reg, .int .i64 t.pla, .int .i64 t.idx, .int .i64 t.inc] 37) B5; have k6 := k5.trans (Kt.of (blw w5 (Obj.cells #[.int .i64 t.rep, .int .i64 t.reg, .int .i64 t.pla, .int .i64 t.idx, .int .i64 t.inc] 37)) k5.bl.size); have s6 := s5.below (blw w5 (Obj.cells #[.int .i64 t.rep, .int .i64 t.reg, .int .i64 t.pla, .int .i64 t.idx, .int .i64 t.inc] 37)); have hs6 := hsd.below (blw w5 (Obj.cells #[.int .i64 t.rep, .int .i64 t.reg, .int .i64 t.pla, .int .i64 t.idx, .int .i64 t.inc] 37)); have D6 := D5.below (blw w5 (Obj.cells #[.int .i64 t.rep, .int .i64 t.reg, .int .i64 t.pla, .int .i64 t.idx, .int .i64 t.inc] 37)); generalize w5.alloc (Obj.cells #[.int .i64 t.rep, .int .i64 t.reg, .int .i64 t.pla, .int .i64 t.idx, .int .i64 t.inc] 37) = w6 at *; generalize w5.heap.size = q6 at *; have c0 := tg_c0 B6; have c1 := tg_c1 B6; have c2 := tg_c2 B6; have c3 := tg_c3 B6; have c4 := tg_c4 B6; have hpq := hpp _ D6)
          | (go_at_call 15; refine hpq.mono ?_; rintro e w7 ⟨rfl, hb7⟩; clear c0 c1 c2 c3 c4; have T7 := tr_bl hb7 T6; have B7 := tr_bl hb7 B6; have k7 := k6.trans (Kt.of hb7 k6.bl.size); have s7 := s6.below hb7; have hs7 := hs6.below hb7; have D7 := D6.below hb7; have c0 := tg_c0 B7; have c1 := tg_c1 B7; have c2 := tg_c2 B7; have c3 := tg_c3 B7; have c4 := tg_c4 B7; have d0 := tg_c0 T7; have d1 := tg_c1 T7; have d2 := tg_c2 T7; have d3 := tg_c3 T7; have d4 := tg_c4 T7; have hsm := rsame_any a5 ba c5 bc body body w7 s7.row hs7.row (by omega); rw [decide_eq_true rfl] at hsm)
          | (go_at_call 29; refine hsm.mono ?_; rintro e w8 ⟨rfl, hb8⟩; clear c0 c1 c2 c3 c4 d0 d1 d2 d3 d4))
        have B8 := tr_bl hb8 B7
        have k8 := k7.trans (Kt.of hb8 k7.bl.size)
        have hs8 := hs7.below hb8
        have D8 := D7.below hb8
        clear hb8 hb7 B7 B6 B5 T7 T6 k7 k6 k5 s7 s6 s5 hs7 hs6 D7 D6 D5 hsm hpq hpp hsd
        have hn2 := wideT_le t
        obtain ⟨n, hn⟩ : ∃ n, wideT t = n := ⟨_, rfl⟩
        have hwi := fun w => lwide_any t w
        rw [hn] at hwi HGO HMI hn2 hfn
        clear hn HKEY
        have hB8 : w.heap.size ≤ w8.heap.size := k8.bl.size
        go_loopw [20, 18, 19, 21, 22, 23] (fun s all gn _ _ _ wr => ∃ (j : Nat) (v : Value), j ≤ n ∧ s = .int .i64 (j : Int) ∧ all = v ∧ wr.ownsRow w8.heap.size 5 1 v (allR d f j).length (bys (allR d f j)) ∧ gn = .bool (goneG d f j) ∧ Below w8.heap.size w8 wr) (fun s _ _ _ _ _ _ => n - (intOf s).toNat)
        case atStart => exact ⟨0, _, by omega, rfl, rfl, World.ownsRow_nil _ _ _ _, rfl, Below.refl _ _⟩
        case round =>
          obtain ⟨j, v, hj, rfl, rfl, hown, rfl, hbr⟩ := hrel
          have hdr := D8.below hbr
          have Br := tr_bl hbr B8
          have c0 := tg_c0 Br
          have c1 := tg_c1 Br
          have c2 := tg_c2 Br
          have c3 := tg_c3 Br
          have c4 := tg_c4 Br
          by_cases hlt2 : j < n
          case pos =>
            have hil : (j : Int) < (n : Int) := by omega
            have hle := allR_len D8 f j
            have hrl := restD_len D8 ((f + j : Nat) : Int)
            have hsn := allG_succ (fun s => (restD d s).1) f j
            have hgs := goneG_succ d f j
            have hre := fun (w' : World) (hd : DiskB w.heap.size g gp wv4 d w') => rest_sl hd ((f + j : Nat) : Int)
            change allR d f (j + 1) = allR d f j ++ _ at hsn
            (try simp only at hsn)
            simp only [Int.natCast_add] at hre hrl hsn hgs
            generalize restD d ((f : Int) + (j : Int)) = r at *
            obtain ⟨rl, lost, er⟩ := r
            (try simp only at hre)
            (try simp only at hrl)
            (try simp only at hsn)
            (try simp only at hgs)
            have HSN := Lib.hid hsn
            have HGS := Lib.hid hgs
            clear hsn hgs
            generalize hal : allR d f j = al at *
            generalize hgo2 : goneG d f j = go2 at *
            clear hal hgo2
            cases go2
            all_goals
              go_wp2_with (first
                | (go_at_call 30; refine (hwi _).mono ?_; rintro e w9 ⟨rfl, hb9⟩; have B9 := tr_bl hb9 Br; have d1 := tg_c1 B9; have d2 := tg_c2 B9; have hb9' := hbr.trans (hb9.mono hbr.size); have o9 := owns_bl hown hb9)
                | (go_at_call 32; refine (first_any t.reg t.pla _).mono ?_; rintro e w10 ⟨rfl, hb10⟩; rw [HF.out]; have hb10' := hb9'.trans (hb10.mono hb9'.size); have o10 := owns_bl o9 hb10; have hre10 := hre _ (D8.below hb10'))
                | (go_at_call 31; refine hre10.mono ?_; rintro e w11 ⟨⟨a11, c11, rfl, s11⟩, hb11⟩; have o11 := owns_bl o10 hb11; have hb11' := hb10'.trans (hb11.mono hb10'.size); have hr11 := s11.row)
                | (at_builtin; refine wpList_append_row rfl _ _ 38 5 elByte rfl w8.heap.size _ al.length (bys al) rfl o11 a11 rl.length c11 (bys rl) rfl (by rw [bys_len]; omega) hr11 bys_one (by omega) (by decide) hb11'.size ?_; intro v12 w12 ho12 hb12))
              rw [← bys_app] at ho12
              go_roundw
              case rel => exact ⟨j + 1, v12, by omega, by go_num, rfl, by rw [HSN.out, List.length_append]; exact ho12, by rw [HGS.out]; simp, hb11'.trans hb12⟩
              case measure => simp [intOf]; omega
          case neg =>
            obtain rfl : j = n := by omega
            obtain ⟨a9, c9, rfl, s9⟩ := SlB.of_owns hown
            have hmi := fun w' (s : SlB w' a9 c9 (allR d f j)) => mine_any a9 c9 (allR d f j) t.rep t.reg t.pla w' s (by have := allR_len D8 f j; omega)
            rw [HMI.out] at hmi
            rw [HGO.out]
            have hs9 := hs8.below hbr
            have k9 := k8.trans (Kt.of hbr k8.bl.size)
            go_wp2_with (first
              | (go_at_call 30; refine (hwi _).mono ?_; rintro e w9 ⟨rfl, hb9⟩; have B9 := tr_bl hb9 Br; have k10 := k9.trans (Kt.of hb9 k9.bl.size); have s10 := s9.below hb9; have hs10 := hs9.below hb9; have d0 := tg_c0 B9; have d1 := tg_c1 B9; have d2 := tg_c2 B9; have hmi2 := hmi _ s10)
              | (go_at_call 33; refine hmi2.mono ?_; rintro e w10 ⟨⟨a10, k10', rfl, o10⟩, hb10⟩; (try simp only at o10); clear d0 d1 d2; have B10 := tr_bl hb10 B9; have k11 := k10.trans (Kt.of hb10 k10.bl.size); have s11 := o10.slb; have hs11 := hs10.below hb10)
              | ((first | (with_reducible refine wpList_stNew 37 _ _ ?_) | (with_reducible refine wp_stNew 37 _ _ ?_)); refine ⟨_, _, ⟨Tryd.sizeOf37, rfl, tg_new _⟩, rfl, ?_⟩; have T12 := heap_alloc_new w10 (Obj.cells #[.int .i64 t.rep, .int .i64 t.reg, .int .i64 t.pla, .int .i64 t.idx, .int .i64 t.inc] 37); have B12 := tr_al (Obj.cells #[.int .i64 t.rep, .int .i64 t.reg, .int .i64 t.pla, .int .i64 t.idx, .int .i64 t.inc] 37) B10; have k12 := k11.trans (Kt.of (blw w10 (Obj.cells #[.int .i64 t.rep, .int .i64 t.reg, .int .i64 t.pla, .int .i64 t.idx, .int .i64 t.inc] 37)) k11.bl.size); have s12 := s11.below (blw w10 (Obj.cells #[.int .i64 t.rep, .int .i64 t.reg, .int .i64 t.pla, .int .i64 t.idx, .int .i64 t.inc] 37)); have hs12 := hs11.below (blw w10 (Obj.cells #[.int .i64 t.rep, .int .i64 t.reg, .int .i64 t.pla, .int .i64 t.idx, .int .i64 t.inc] 37)); generalize w10.alloc (Obj.cells #[.int .i64 t.rep, .int .i64 t.reg, .int .i64 t.pla, .int .i64 t.idx, .int .i64 t.inc] 37) = w12 at *; generalize w10.heap.size = q12 at *; have d0 := tg_c0 B12; have d1 := tg_c1 B12; have d2 := tg_c2 B12; have d3 := tg_c3 B12; have d4 := tg_c4 B12; have u0 := tg_c0 T12; have u1 := tg_c1 T12; have u2 := tg_c2 T12; have u3 := tg_c3 T12; have u4 := tg_c4 T12; have hsm2 := rsame_any a10 ba k10' bc body body w12 s12.row hs12.row (by omega); rw [decide_eq_true rfl] at hsm2)
              | (go_at_call 29; refine hsm2.mono ?_; rintro e w13 ⟨rfl, hb13⟩))
            go_ret
            exact ⟨rfl, (k12.trans (Kt.of hb13 k12.bl.size)).bl⟩
      case true =>
        clear himp
        cases go
        case true =>
          simp only [Bool.true_or, Bool.true_and] at hpp
          go_wp2_with (first
            | ((first | (with_reducible refine wpList_stNew 37 _ _ ?_) | (with_reducible refine wp_stNew 37 _ _ ?_)); refine ⟨_, _, ⟨Tryd.sizeOf37, rfl, tg_new t⟩, rfl, ?_⟩; have T6 := heap_alloc_new w5 (Obj.cells #[.int .i64 t.rep, .int .i64 t.reg, .int .i64 t.pla, .int .i64 t.idx, .int .i64 t.inc] 37); have B6 := tr_al (Obj.cells #[.int .i64 t.rep, .int .i64 t.reg, .int .i64 t.pla, .int .i64 t.idx, .int .i64 t.inc] 37) B5; have k6 := k5.trans (Kt.of (blw w5 (Obj.cells #[.int .i64 t.rep, .int .i64 t.reg, .int .i64 t.pla, .int .i64 t.idx, .int .i64 t.inc] 37)) k5.bl.size); have s6 := s5.below (blw w5 (Obj.cells #[.int .i64 t.rep, .int .i64 t.reg, .int .i64 t.pla, .int .i64 t.idx, .int .i64 t.inc] 37)); have hs6 := hsd.below (blw w5 (Obj.cells #[.int .i64 t.rep, .int .i64 t.reg, .int .i64 t.pla, .int .i64 t.idx, .int .i64 t.inc] 37)); have D6 := D5.below (blw w5 (Obj.cells #[.int .i64 t.rep, .int .i64 t.reg, .int .i64 t.pla, .int .i64 t.idx, .int .i64 t.inc] 37)); generalize w5.alloc (Obj.cells #[.int .i64 t.rep, .int .i64 t.reg, .int .i64 t.pla, .int .i64 t.idx, .int .i64 t.inc] 37) = w6 at *; generalize w5.heap.size = q6 at *; have c0 := tg_c0 B6; have c1 := tg_c1 B6; have c2 := tg_c2 B6; have c3 := tg_c3 B6; have c4 := tg_c4 B6; have hpq := hpp _ D6)
            | (go_at_call 15; refine hpq.mono ?_; rintro e w7 ⟨rfl, hb7⟩; clear c0 c1 c2 c3 c4; have T7 := tr_bl hb7 T6; have B7 := tr_bl hb7 B6; have k7 := k6.trans (Kt.of hb7 k6.bl.size); have s7 := s6.below hb7; have hs7 := hs6.below hb7; have D7 := D6.below hb7; have c0 := tg_c0 B7; have c1 := tg_c1 B7; have c2 := tg_c2 B7; have c3 := tg_c3 B7; have c4 := tg_c4 B7; have d0 := tg_c0 T7; have d1 := tg_c1 T7; have d2 := tg_c2 T7; have d3 := tg_c3 T7; have d4 := tg_c4 T7; have hsm := rsame_any a5 ba c5 bc body body w7 s7.row hs7.row (by omega); rw [decide_eq_true rfl] at hsm)
            | (go_at_call 29; refine hsm.mono ?_; rintro e w8 ⟨rfl, hb8⟩; clear c0 c1 c2 c3 c4 d0 d1 d2 d3 d4))
          have B8 := tr_bl hb8 B7
          have k8 := k7.trans (Kt.of hb8 k7.bl.size)
          have hs8 := hs7.below hb8
          have D8 := D7.below hb8
          clear hb8 hb7 B7 B6 B5 T7 T6 k7 k6 k5 s7 s6 s5 hs7 hs6 D7 D6 D5 hsm hpq hpp hsd
          have hn2 := wideT_le t
          obtain ⟨n, hn⟩ : ∃ n, wideT t = n := ⟨_, rfl⟩
          have hwi := fun w => lwide_any t w
          rw [hn] at hwi HGO HMI hn2 hfn
          clear hn HKEY
          have hB8 : w.heap.size ≤ w8.heap.size := k8.bl.size
          go_loopw [20, 18, 19, 21, 22, 23] (fun s all gn _ _ _ wr => ∃ (j : Nat) (v : Value), j ≤ n ∧ s = .int .i64 (j : Int) ∧ all = v ∧ wr.ownsRow w8.heap.size 5 1 v (allR d f j).length (bys (allR d f j)) ∧ gn = .bool (goneG d f j) ∧ Below w8.heap.size w8 wr) (fun s _ _ _ _ _ _ => n - (intOf s).toNat)
          case atStart => exact ⟨0, _, by omega, rfl, rfl, World.ownsRow_nil _ _ _ _, rfl, Below.refl _ _⟩
          case round =>
            obtain ⟨j, v, hj, rfl, rfl, hown, rfl, hbr⟩ := hrel
            have hdr := D8.below hbr
            have Br := tr_bl hbr B8
            have c0 := tg_c0 Br
            have c1 := tg_c1 Br
            have c2 := tg_c2 Br
            have c3 := tg_c3 Br
            have c4 := tg_c4 Br
            by_cases hlt2 : j < n
            case pos =>
              have hil : (j : Int) < (n : Int) := by omega
              have hle := allR_len D8 f j
              have hrl := restD_len D8 ((f + j : Nat) : Int)
              have hsn := allG_succ (fun s => (restD d s).1) f j
              have hgs := goneG_succ d f j
              have hre := fun (w' : World) (hd : DiskB w.heap.size g gp wv4 d w') => rest_sl hd ((f + j : Nat) : Int)
              change allR d f (j + 1) = allR d f j ++ _ at hsn
              (try simp only at hsn)
              simp only [Int.natCast_add] at hre hrl hsn hgs
              generalize restD d ((f : Int) + (j : Int)) = r at *
              obtain ⟨rl, lost, er⟩ := r
              (try simp only at hre)
              (try simp only at hrl)
              (try simp only at hsn)
              (try simp only at hgs)
              have HSN := Lib.hid hsn
              have HGS := Lib.hid hgs
              clear hsn hgs
              generalize hal : allR d f j = al at *
              generalize hgo2 : goneG d f j = go2 at *
              clear hal hgo2
              cases go2
              all_goals
                go_wp2_with (first
                  | (go_at_call 30; refine (hwi _).mono ?_; rintro e w9 ⟨rfl, hb9⟩; have B9 := tr_bl hb9 Br; have d1 := tg_c1 B9; have d2 := tg_c2 B9; have hb9' := hbr.trans (hb9.mono hbr.size); have o9 := owns_bl hown hb9)
                  | (go_at_call 32; refine (first_any t.reg t.pla _).mono ?_; rintro e w10 ⟨rfl, hb10⟩; rw [HF.out]; have hb10' := hb9'.trans (hb10.mono hb9'.size); have o10 := owns_bl o9 hb10; have hre10 := hre _ (D8.below hb10'))
                  | (go_at_call 31; refine hre10.mono ?_; rintro e w11 ⟨⟨a11, c11, rfl, s11⟩, hb11⟩; have o11 := owns_bl o10 hb11; have hb11' := hb10'.trans (hb11.mono hb10'.size); have hr11 := s11.row)
                  | (at_builtin; refine wpList_append_row rfl _ _ 38 5 elByte rfl w8.heap.size _ al.length (bys al) rfl o11 a11 rl.length c11 (bys rl) rfl (by rw [bys_len]; omega) hr11 bys_one (by omega) (by decide) hb11'.size ?_; intro v12 w12 ho12 hb12))
                rw [← bys_app] at ho12
                go_roundw
                case rel => exact ⟨j + 1, v12, by omega, by go_num, rfl, by rw [HSN.out, List.length_append]; exact ho12, by rw [HGS.out]; simp, hb11'.trans hb12⟩
                case measure => simp [intOf]; omega
            case neg =>
              obtain rfl : j = n := by omega
              obtain ⟨a9, c9, rfl, s9⟩ := SlB.of_owns hown
              have hmi := fun w' (s : SlB w' a9 c9 (allR d f j)) => mine_any a9 c9 (allR d f j) t.rep t.reg t.pla w' s (by have := allR_len D8 f j; omega)
              rw [HMI.out] at hmi
              rw [HGO.out]
              have hs9 := hs8.below hbr
              have k9 := k8.trans (Kt.of hbr k8.bl.size)
              go_wp2_with (first
                | (go_at_call 30; refine (hwi _).mono ?_; rintro e w9 ⟨rfl, hb9⟩; have B9 := tr_bl hb9 Br; have k10 := k9.trans (Kt.of hb9 k9.bl.size); have s10 := s9.below hb9; have hs10 := hs9.below hb9; have d0 := tg_c0 B9; have d1 := tg_c1 B9; have d2 := tg_c2 B9; have hmi2 := hmi _ s10)
                | (go_at_call 33; refine hmi2.mono ?_; rintro e w10 ⟨⟨a10, k10', rfl, o10⟩, hb10⟩; (try simp only at o10); clear d0 d1 d2; have B10 := tr_bl hb10 B9; have k11 := k10.trans (Kt.of hb10 k10.bl.size); have s11 := o10.slb; have hs11 := hs10.below hb10)
                | ((first | (with_reducible refine wpList_stNew 37 _ _ ?_) | (with_reducible refine wp_stNew 37 _ _ ?_)); refine ⟨_, _, ⟨Tryd.sizeOf37, rfl, tg_new _⟩, rfl, ?_⟩))
              go_ret
              exact ⟨rfl, (k11.trans (Kt.of (blw w10 (Obj.cells #[.int .i64 tg.rep, .int .i64 tg.reg, .int .i64 tg.pla, .int .i64 tg.idx, .int .i64 tg.inc] 37)) k11.bl.size)).bl⟩
        case false =>
          by_cases hst : st = 2
          case pos =>
            subst hst
            simp only [decide_true, Bool.false_or, Bool.true_and] at hpp
            go_wp2_with (first
              | ((first | (with_reducible refine wpList_stNew 37 _ _ ?_) | (with_reducible refine wp_stNew 37 _ _ ?_)); refine ⟨_, _, ⟨Tryd.sizeOf37, rfl, tg_new t⟩, rfl, ?_⟩; have T6 := heap_alloc_new w5 (Obj.cells #[.int .i64 t.rep, .int .i64 t.reg, .int .i64 t.pla, .int .i64 t.idx, .int .i64 t.inc] 37); have B6 := tr_al (Obj.cells #[.int .i64 t.rep, .int .i64 t.reg, .int .i64 t.pla, .int .i64 t.idx, .int .i64 t.inc] 37) B5; have k6 := k5.trans (Kt.of (blw w5 (Obj.cells #[.int .i64 t.rep, .int .i64 t.reg, .int .i64 t.pla, .int .i64 t.idx, .int .i64 t.inc] 37)) k5.bl.size); have s6 := s5.below (blw w5 (Obj.cells #[.int .i64 t.rep, .int .i64 t.reg, .int .i64 t.pla, .int .i64 t.idx, .int .i64 t.inc] 37)); have hs6 := hsd.below (blw w5 (Obj.cells #[.int .i64 t.rep, .int .i64 t.reg, .int .i64 t.pla, .int .i64 t.idx, .int .i64 t.inc] 37)); have D6 := D5.below (blw w5 (Obj.cells #[.int .i64 t.rep, .int .i64 t.reg, .int .i64 t.pla, .int .i64 t.idx, .int .i64 t.inc] 37)); generalize w5.alloc (Obj.cells #[.int .i64 t.rep, .int .i64 t.reg, .int .i64 t.pla, .int .i64 t.idx, .int .i64 t.inc] 37) = w6 at *; generalize w5.heap.size = q6 at *; have c0 := tg_c0 B6; have c1 := tg_c1 B6; have c2 := tg_c2 B6; have c3 := tg_c3 B6; have c4 := tg_c4 B6; have hpq := hpp _ D6)
              | (go_at_call 15; refine hpq.mono ?_; rintro e w7 ⟨rfl, hb7⟩; clear c0 c1 c2 c3 c4; have T7 := tr_bl hb7 T6; have B7 := tr_bl hb7 B6; have k7 := k6.trans (Kt.of hb7 k6.bl.size); have s7 := s6.below hb7; have hs7 := hs6.below hb7; have D7 := D6.below hb7; have c0 := tg_c0 B7; have c1 := tg_c1 B7; have c2 := tg_c2 B7; have c3 := tg_c3 B7; have c4 := tg_c4 B7; have d0 := tg_c0 T7; have d1 := tg_c1 T7; have d2 := tg_c2 T7; have d3 := tg_c3 T7; have d4 := tg_c4 T7; have hsm := rsame_any a5 ba c5 bc body body w7 s7.row hs7.row (by omega); rw [decide_eq_true rfl] at hsm)
              | (go_at_call 29; refine hsm.mono ?_; rintro e w8 ⟨rfl, hb8⟩; clear c0 c1 c2 c3 c4 d0 d1 d2 d3 d4))
            have B8 := tr_bl hb8 B7
            have k8 := k7.trans (Kt.of hb8 k7.bl.size)
            have hs8 := hs7.below hb8
            have D8 := D7.below hb8
            clear hb8 hb7 B7 B6 B5 T7 T6 k7 k6 k5 s7 s6 s5 hs7 hs6 D7 D6 D5 hsm hpq hpp hsd
            have hn2 := wideT_le t
            obtain ⟨n, hn⟩ : ∃ n, wideT t = n := ⟨_, rfl⟩
            have hwi := fun w => lwide_any t w
            rw [hn] at hwi HGO HMI hn2 hfn
            clear hn HKEY
            have hB8 : w.heap.size ≤ w8.heap.size := k8.bl.size
            go_loopw [20, 18, 19, 21, 22, 23] (fun s all gn _ _ _ wr => ∃ (j : Nat) (v : Value), j ≤ n ∧ s = .int .i64 (j : Int) ∧ all = v ∧ wr.ownsRow w8.heap.size 5 1 v (allR d f j).length (bys (allR d f j)) ∧ gn = .bool (goneG d f j) ∧ Below w8.heap.size w8 wr) (fun s _ _ _ _ _ _ => n - (intOf s).toNat)
            case atStart => exact ⟨0, _, by omega, rfl, rfl, World.ownsRow_nil _ _ _ _, rfl, Below.refl _ _⟩
            case round =>
              obtain ⟨j, v, hj, rfl, rfl, hown, rfl, hbr⟩ := hrel
              have hdr := D8.below hbr
              have Br := tr_bl hbr B8
              have c0 := tg_c0 Br
              have c1 := tg_c1 Br
              have c2 := tg_c2 Br
              have c3 := tg_c3 Br
              have c4 := tg_c4 Br
              by_cases hlt2 : j < n
              case pos =>
                have hil : (j : Int) < (n : Int) := by omega
                have hle := allR_len D8 f j
                have hrl := restD_len D8 ((f + j : Nat) : Int)
                have hsn := allG_succ (fun s => (restD d s).1) f j
                have hgs := goneG_succ d f j
                have hre := fun (w' : World) (hd : DiskB w.heap.size g gp wv4 d w') => rest_sl hd ((f + j : Nat) : Int)
                change allR d f (j + 1) = allR d f j ++ _ at hsn
                (try simp only at hsn)
                simp only [Int.natCast_add] at hre hrl hsn hgs
                generalize restD d ((f : Int) + (j : Int)) = r at *
                obtain ⟨rl, lost, er⟩ := r
                (try simp only at hre)
                (try simp only at hrl)
                (try simp only at hsn)
                (try simp only at hgs)
                have HSN := Lib.hid hsn
                have HGS := Lib.hid hgs
                clear hsn hgs
                generalize hal : allR d f j = al at *
                generalize hgo2 : goneG d f j = go2 at *
                clear hal hgo2
                cases go2
                all_goals
                  go_wp2_with (first
                    | (go_at_call 30; refine (hwi _).mono ?_; rintro e w9 ⟨rfl, hb9⟩; have B9 := tr_bl hb9 Br; have d1 := tg_c1 B9; have d2 := tg_c2 B9; have hb9' := hbr.trans (hb9.mono hbr.size); have o9 := owns_bl hown hb9)
                    | (go_at_call 32; refine (first_any t.reg t.pla _).mono ?_; rintro e w10 ⟨rfl, hb10⟩; rw [HF.out]; have hb10' := hb9'.trans (hb10.mono hb9'.size); have o10 := owns_bl o9 hb10; have hre10 := hre _ (D8.below hb10'))
                    | (go_at_call 31; refine hre10.mono ?_; rintro e w11 ⟨⟨a11, c11, rfl, s11⟩, hb11⟩; have o11 := owns_bl o10 hb11; have hb11' := hb10'.trans (hb11.mono hb10'.size); have hr11 := s11.row)
                    | (at_builtin; refine wpList_append_row rfl _ _ 38 5 elByte rfl w8.heap.size _ al.length (bys al) rfl o11 a11 rl.length c11 (bys rl) rfl (by rw [bys_len]; omega) hr11 bys_one (by omega) (by decide) hb11'.size ?_; intro v12 w12 ho12 hb12))
                  rw [← bys_app] at ho12
                  go_roundw
                  case rel => exact ⟨j + 1, v12, by omega, by go_num, rfl, by rw [HSN.out, List.length_append]; exact ho12, by rw [HGS.out]; simp, hb11'.trans hb12⟩
                  case measure => simp [intOf]; omega
              case neg =>
                obtain rfl : j = n := by omega
                obtain ⟨a9, c9, rfl, s9⟩ := SlB.of_owns hown
                have hmi := fun w' (s : SlB w' a9 c9 (allR d f j)) => mine_any a9 c9 (allR d f j) t.rep t.reg t.pla w' s (by have := allR_len D8 f j; omega)
                rw [HMI.out] at hmi
                rw [HGO.out]
                have hs9 := hs8.below hbr
                have k9 := k8.trans (Kt.of hbr k8.bl.size)
                go_wp2_with (first
                  | (go_at_call 30; refine (hwi _).mono ?_; rintro e w9 ⟨rfl, hb9⟩; have B9 := tr_bl hb9 Br; have k10 := k9.trans (Kt.of hb9 k9.bl.size); have s10 := s9.below hb9; have hs10 := hs9.below hb9; have d0 := tg_c0 B9; have d1 := tg_c1 B9; have d2 := tg_c2 B9; have hmi2 := hmi _ s10)
                  | (go_at_call 33; refine hmi2.mono ?_; rintro e w10 ⟨⟨a10, k10', rfl, o10⟩, hb10⟩; (try simp only at o10); clear d0 d1 d2; have B10 := tr_bl hb10 B9; have k11 := k10.trans (Kt.of hb10 k10.bl.size); have s11 := o10.slb; have hs11 := hs10.below hb10)
                  | ((first | (with_reducible refine wpList_stNew 37 _ _ ?_) | (with_reducible refine wp_stNew 37 _ _ ?_)); refine ⟨_, _, ⟨Tryd.sizeOf37, rfl, tg_new _⟩, rfl, ?_⟩))
                go_ret
                exact ⟨rfl, (k11.trans (Kt.of (blw w10 (Obj.cells #[.int .i64 tg.rep, .int .i64 tg.reg, .int .i64 tg.pla, .int .i64 tg.idx, .int .i64 tg.inc] 37)) k11.bl.size)).bl⟩
          case neg =>
            rw [decide_eq_false hst] at hpp
            simp only [Bool.false_or, Bool.true_and] at hpp
            have e2 : ((st : Int) == 2) = false := by rw [beq_eq_false_iff_ne]; omega
            clear hst
            go_wp2_with (first
              | ((first | (with_reducible refine wpList_stNew 37 _ _ ?_) | (with_reducible refine wp_stNew 37 _ _ ?_)); refine ⟨_, _, ⟨Tryd.sizeOf37, rfl, tg_new t⟩, rfl, ?_⟩; have T6 := heap_alloc_new w5 (Obj.cells #[.int .i64 t.rep, .int .i64 t.reg, .int .i64 t.pla, .int .i64 t.idx, .int .i64 t.inc] 37); have B6 := tr_al (Obj.cells #[.int .i64 t.rep, .int .i64 t.reg, .int .i64 t.pla, .int .i64 t.idx, .int .i64 t.inc] 37) B5; have k6 := k5.trans (Kt.of (blw w5 (Obj.cells #[.int .i64 t.rep, .int .i64 t.reg, .int .i64 t.pla, .int .i64 t.idx, .int .i64 t.inc] 37)) k5.bl.size); have s6 := s5.below (blw w5 (Obj.cells #[.int .i64 t.rep, .int .i64 t.reg, .int .i64 t.pla, .int .i64 t.idx, .int .i64 t.inc] 37)); have hs6 := hsd.below (blw w5 (Obj.cells #[.int .i64 t.rep, .int .i64 t.reg, .int .i64 t.pla, .int .i64 t.idx, .int .i64 t.inc] 37)); have D6 := D5.below (blw w5 (Obj.cells #[.int .i64 t.rep, .int .i64 t.reg, .int .i64 t.pla, .int .i64 t.idx, .int .i64 t.inc] 37)); generalize w5.alloc (Obj.cells #[.int .i64 t.rep, .int .i64 t.reg, .int .i64 t.pla, .int .i64 t.idx, .int .i64 t.inc] 37) = w6 at *; generalize w5.heap.size = q6 at *; have c0 := tg_c0 B6; have c1 := tg_c1 B6; have c2 := tg_c2 B6; have c3 := tg_c3 B6; have c4 := tg_c4 B6; have hpq := hpp _ D6)
              | (go_at_call 15; refine hpq.mono ?_; rintro e w7 ⟨rfl, hb7⟩; clear c0 c1 c2 c3 c4; have T7 := tr_bl hb7 T6; have B7 := tr_bl hb7 B6; have k7 := k6.trans (Kt.of hb7 k6.bl.size); have s7 := s6.below hb7; have hs7 := hs6.below hb7; have D7 := D6.below hb7; have c0 := tg_c0 B7; have c1 := tg_c1 B7; have c2 := tg_c2 B7; have c3 := tg_c3 B7; have c4 := tg_c4 B7; have d0 := tg_c0 T7; have d1 := tg_c1 T7; have d2 := tg_c2 T7; have d3 := tg_c3 T7; have d4 := tg_c4 T7; have hsm := rsame_any a5 ba c5 bc body body w7 s7.row hs7.row (by omega); rw [decide_eq_true rfl] at hsm)
              | (go_at_call 29; refine hsm.mono ?_; rintro e w8 ⟨rfl, hb8⟩; clear c0 c1 c2 c3 c4 d0 d1 d2 d3 d4))
            have B8 := tr_bl hb8 B7
            have k8 := k7.trans (Kt.of hb8 k7.bl.size)
            have hs8 := hs7.below hb8
            have D8 := D7.below hb8
            clear hb8 hb7 B7 B6 B5 T7 T6 k7 k6 k5 s7 s6 s5 hs7 hs6 D7 D6 D5 hsm hpq hpp hsd
            have hn2 := wideT_le t
            obtain ⟨n, hn⟩ : ∃ n, wideT t = n := ⟨_, rfl⟩
            have hwi := fun w => lwide_any t w
            rw [hn] at hwi HGO HMI hn2 hfn
            clear hn HKEY
            have hB8 : w.heap.size ≤ w8.heap.size := k8.bl.size
            go_loopw [20, 18, 19, 21, 22, 23] (fun s all gn _ _ _ wr => ∃ (j : Nat) (v : Value), j ≤ n ∧ s = .int .i64 (j : Int) ∧ all = v ∧ wr.ownsRow w8.heap.size 5 1 v (allR d f j).length (bys (allR d f j)) ∧ gn = .bool (goneG d f j) ∧ Below w8.heap.size w8 wr) (fun s _ _ _ _ _ _ => n - (intOf s).toNat)
            case atStart => exact ⟨0, _, by omega, rfl, rfl, World.ownsRow_nil _ _ _ _, rfl, Below.refl _ _⟩
            case round =>
              obtain ⟨j, v, hj, rfl, rfl, hown, rfl, hbr⟩ := hrel
              have hdr := D8.below hbr
              have Br := tr_bl hbr B8
              have c0 := tg_c0 Br
              have c1 := tg_c1 Br
              have c2 := tg_c2 Br
              have c3 := tg_c3 Br
              have c4 := tg_c4 Br
              by_cases hlt2 : j < n
              case pos =>
                have hil : (j : Int) < (n : Int) := by omega
                have hle := allR_len D8 f j
                have hrl := restD_len D8 ((f + j : Nat) : Int)
                have hsn := allG_succ (fun s => (restD d s).1) f j
                have hgs := goneG_succ d f j
                have hre := fun (w' : World) (hd : DiskB w.heap.size g gp wv4 d w') => rest_sl hd ((f + j : Nat) : Int)
                change allR d f (j + 1) = allR d f j ++ _ at hsn
                (try simp only at hsn)
                simp only [Int.natCast_add] at hre hrl hsn hgs
                generalize restD d ((f : Int) + (j : Int)) = r at *
                obtain ⟨rl, lost, er⟩ := r
                (try simp only at hre)
                (try simp only at hrl)
                (try simp only at hsn)
                (try simp only at hgs)
                have HSN := Lib.hid hsn
                have HGS := Lib.hid hgs
                clear hsn hgs
                generalize hal : allR d f j = al at *
                generalize hgo2 : goneG d f j = go2 at *
                clear hal hgo2
                cases go2
                all_goals
                  go_wp2_with (first
                    | (go_at_call 30; refine (hwi _).mono ?_; rintro e w9 ⟨rfl, hb9⟩; have B9 := tr_bl hb9 Br; have d1 := tg_c1 B9; have d2 := tg_c2 B9; have hb9' := hbr.trans (hb9.mono hbr.size); have o9 := owns_bl hown hb9)
                    | (go_at_call 32; refine (first_any t.reg t.pla _).mono ?_; rintro e w10 ⟨rfl, hb10⟩; rw [HF.out]; have hb10' := hb9'.trans (hb10.mono hb9'.size); have o10 := owns_bl o9 hb10; have hre10 := hre _ (D8.below hb10'))
                    | (go_at_call 31; refine hre10.mono ?_; rintro e w11 ⟨⟨a11, c11, rfl, s11⟩, hb11⟩; have o11 := owns_bl o10 hb11; have hb11' := hb10'.trans (hb11.mono hb10'.size); have hr11 := s11.row)
                    | (at_builtin; refine wpList_append_row rfl _ _ 38 5 elByte rfl w8.heap.size _ al.length (bys al) rfl o11 a11 rl.length c11 (bys rl) rfl (by rw [bys_len]; omega) hr11 bys_one (by omega) (by decide) hb11'.size ?_; intro v12 w12 ho12 hb12))
                  rw [← bys_app] at ho12
                  go_roundw
                  case rel => exact ⟨j + 1, v12, by omega, by go_num, rfl, by rw [HSN.out, List.length_append]; exact ho12, by rw [HGS.out]; simp, hb11'.trans hb12⟩
                  case measure => simp [intOf]; omega
              case neg =>
                obtain rfl : j = n := by omega
                obtain ⟨a9, c9, rfl, s9⟩ := SlB.of_owns hown
                have hmi := fun w' (s : SlB w' a9 c9 (allR d f j)) => mine_any a9 c9 (allR d f j) t.rep t.reg t.pla w' s (by have := allR_len D8 f j; omega)
                rw [HMI.out] at hmi
                rw [HGO.out]
                have hs9 := hs8.below hbr
                have k9 := k8.trans (Kt.of hbr k8.bl.size)
                go_wp2_with (first
                  | (go_at_call 30; refine (hwi _).mono ?_; rintro e w9 ⟨rfl, hb9⟩; have B9 := tr_bl hb9 Br; have k10 := k9.trans (Kt.of hb9 k9.bl.size); have s10 := s9.below hb9; have hs10 := hs9.below hb9; have d0 := tg_c0 B9; have d1 := tg_c1 B9; have d2 := tg_c2 B9; have hmi2 := hmi _ s10)
                  | (go_at_call 33; refine hmi2.mono ?_; rintro e w10 ⟨⟨a10, k10', rfl, o10⟩, hb10⟩; (try simp only at o10); clear d0 d1 d2; have B10 := tr_bl hb10 B9; have k11 := k10.trans (Kt.of hb10 k10.bl.size); have s11 := o10.slb; have hs11 := hs10.below hb10)
                  | ((first | (with_reducible refine wpList_stNew 37 _ _ ?_) | (with_reducible refine wp_stNew 37 _ _ ?_)); refine ⟨_, _, ⟨Tryd.sizeOf37, rfl, tg_new _⟩, rfl, ?_⟩))
                go_ret
                exact ⟨rfl, (k11.trans (Kt.of (blw w10 (Obj.cells #[.int .i64 tg.rep, .int .i64 tg.reg, .int .i64 tg.pla, .int .i64 tg.idx, .int .i64 tg.inc] 37)) k11.bl.size)).bl⟩
end Go.Proofs.YtejjneamngkmoaaDoor

