/- Texts that the claim leans on, part 15: N14, N15, OM2. -/
import Derived.Test.YtejjneamngkmoaaDoorZ1
import Derived.Test.YtejjneamngkmoaaDoorZ2
import Derived.Test.YtejjneamngkmoaaDoorZ3
import Derived.Test.YtejjneamngkmoaaDoorZ4
import Derived.Test.YtejjneamngkmoaaDoorZ5
import Derived.Test.YtejjneamngkmoaaDoorZ6
import Derived.Test.YtejjneamngkmoaaDoorZ7
import Derived.Test.YtejjneamngkmoaaDoorZ8
import Derived.Test.YtejjneamngkmoaaDoorZ9
import Derived.Test.YtejjneamngkmoaaDoorZ10
import Derived.Test.YtejjneamngkmoaaDoorZ11
import Derived.Test.YtejjneamngkmoaaDoorZ12
import Derived.Test.YtejjneamngkmoaaDoorZ13
import Derived.Test.YtejjneamngkmoaaDoorZ14
import Derived.Test.YtejjneamngkmoaaDoorRows
import Derived.WalkKit
import Derived.WalkSpells
import Derived.WalkLawsBesides
import Derived.Handy
import Derived.Deep.QuietTactic
import Derived.BigQuiet
import Derived.Deep.DeepCutAuto
import Derived.Lib.Hide
import Derived.RegionTactic
import Derived.ChangeAlike
import Derived.Laws.ResultCell
import Derived.Outline
import Derived.Deep.RegionHeld
import Derived.Deep.Slices
import Derived.ProofKit
import Derived.Lib.SmallJoins
import Derived.Laws.StructEq
import Derived.StillTailTactics
import Derived.Deep.RegionWith
import Derived.OpenShut
import Derived.ChangeSlices
import Derived.Laws.IdiomStrings
import Derived.Laws.BytesArg
import Derived.Laws.MakeOwn
import Derived.Lib.SliceRun
import Derived.Laws.BitsAllLaws
import Derived.Great.BuildSlice
import Derived.Great.FillDense
import Derived.Laws.Rows
import Derived.Deep.Quiet
import Derived.Deep.RegionHeld3
import Derived.Laws.CopyOwn
import Derived.Laws.CopyRow
import Derived.Laws.NewBlocks
import Derived.Deep.RegionLaw
namespace Go.Proofs.YtejjneamngkmoaaDoor

theorem bal_may {r p i : Int} (h : balB r p = true) (h1 : 1 ≤ i) (h2 : i ≤ 1099511627776) : mayM r p i = true := by
  unfold mayM
  rw [h, decide_eq_true h1, decide_eq_true h2]
  simp
section
variable {d : Dk} {rep : Int} {o : Vo} {m : Mt}
theorem prom_no {r p : Int} (h : ¬ (mayM m.r m.p m.i && balB r p && abvB r p m.r m.p) = true) : promM d rep m r p = (d, zM, 2) := by
  unfold promM
  rw [if_neg h]
theorem prom_fr {v : Int} (h : Live d) (hp : 0 ≤ rep ∧ rep ≤ 6) (hm : mayM m.r m.p m.i = true) (hf : Fr d rep 1 (some (v, m.i, metaL m.r m.p m.i))) (hv : v + 1 ≤ 1099511627776) (hl : d.left < 0) (r p : Int) :
    promM d rep m r p = (d, zM, 2) ∨ ∃ d', promM d rep m r p = (d', ⟨r, p, m.i⟩, 0) ∧ Live d' ∧ d'.left = d.left ∧ Fr d' rep 1 (some (v + 1, m.i, metaL r p m.i)) ∧ mayM r p m.i = true ∧ abvB r p m.r m.p = true := by
  by_cases hc : (mayM m.r m.p m.i && balB r p && abvB r p m.r m.p) = true
  · have hc' := hc
    rw [Bool.and_eq_true, Bool.and_eq_true] at hc'
    obtain ⟨b1, b2, b3, b4, b5, b6⟩ := may_bd hm
    have hm' := bal_may (i := m.i) hc'.1.2 b5 b6
    obtain ⟨d', e, l, lf, f, _⟩ := storeM_fr (m := ⟨r, p, m.i⟩) h hp hf hv hl hm'
    refine .inr ⟨d', ?_, l, lf, f, hm', hc'.2⟩
    unfold promM
    rw [if_pos hc]
    exact e
  · exact .inl (prom_no hc)
/-- One copy is lost: a Begin goes on from what was stored. -/
theorem lose_begin {v : Int} (h : Live d) (hp : 0 ≤ rep ∧ rep ≤ 6) (hv : 0 < v) (hv2 : v + 1 ≤ 1099511627776) (hm : mayM m.r m.p m.i = true) (hi : m.i < 1099511627776) (hf : Fr d rep 1 (some (v, m.i, metaL m.r m.p m.i))) (hl : d.left < 0) {i : Nat} (hi2 : i < 2) :
    ∃ d1 d2, loseD d (secC 1 i) = (d1, 0) ∧ d1.waits = [] ∧ beginM d1 rep = (d2, ⟨m.r, m.p, m.i + 1⟩, 0) := by
  have hr : (1 : Int) = 1 ∨ (1 : Int) = 2 := .inl rfl
  have hs1 := sec_lt hr hi2
  have hs2 := sec_lt hr (i := 1 - i) (by omega)
  have hne : secC 1 (1 - i) ≠ secC 1 i := by unfold secC; omega
  have hrd : ∀ j, j < 2 → readD d (secC 1 j) = (frR rep 1 j (some (v, m.i, metaL m.r m.p m.i)), 0) := by
    intro j hj
    rcases (show j = 0 ∨ j = 1 by omega) with rfl | rfl
    · exact hf.r0
    · exact hf.r1
  obtain ⟨d1, e1, l1, f1, r1, o1⟩ := lose_at h hs1
  have c1 : cop d1 rep 1 i = badR := cop_none r1
  have q1 := (o1 _ hs2 hne).trans (hrd (1 - i) (by omega))
  have c1' := cop_fr hp hr (i := 1 - i) (by omega) hf.ok q1
  have hii : 1 - (1 - i) = i := by omega
  have hb1 : (cop d1 rep 1 (1 - (1 - i))).st ≠ 1 ∨ (cop d1 rep 1 (1 - (1 - i))).tg.idx < v := by rw [hii, c1]; exact .inl (by decide)
  obtain ⟨d2, g1, g2, g3, g4, _⟩ := heal_one l1 hp hr (i := 1 - i) (by omega) hf.ok (by rw [f1]; exact hl) q1 hb1
  obtain ⟨b1, b2, b3, b4, b5, b6⟩ := may_bd hm
  have hm' : mayM m.r m.p (m.i + 1) = true := by
    simp only [mayM, Bool.and_eq_true, decide_eq_true_eq] at hm ⊢
    exact ⟨⟨hm.1.1, by omega⟩, by omega⟩
  obtain ⟨d3, k1, _⟩ := storeM_fr (m := ⟨m.r, m.p, m.i + 1⟩) g2 hp g4 hv2 (by rw [g3, f1]; exact hl) hm'
  refine ⟨d1, d3, e1, l1.w, ?_⟩
  rw [begin_of hv hm (by omega) (load_one l1 hp hr (by omega) c1' hb1) g1]
  exact k1
theorem lose_both (h : Live d) (hp : 0 ≤ rep ∧ rep ≤ 6) : ∃ d1 d2, loseD d 0 = (d1, 0) ∧ d1.waits = [] ∧ loseD d1 1 = (d2, 0) ∧ d2.waits = [] ∧ beginM d2 rep = (d2, ⟨0, 0, 0⟩, 70) := by
  have hr : (1 : Int) = 1 ∨ (1 : Int) = 2 := .inl rfl
  obtain ⟨d1, e1, l1, f1, r1, o1⟩ := lose_at h (k := 0) (by decide)
  obtain ⟨d2, e2, l2, f2, r2, o2⟩ := lose_at l1 (k := 1) (by decide)
  have c0 : cop d2 rep 1 0 = badR := cop_none ((o2 0 (by decide) (by decide)).trans r1)
  have c1 : cop d2 rep 1 1 = badR := cop_none r2
  refine ⟨d1, d2, e1, l1.w, e2, l2.w, ?_⟩
  unfold beginM
  rw [load_none l2 hp hr c0 c1]
  simp [zM]
theorem begin_fr {v : Int} (h : Live d) (hp : 0 ≤ rep ∧ rep ≤ 6) (hv : 0 < v) (hv2 : v + 1 ≤ 1099511627776) (hm : mayM m.r m.p m.i = true) (hi : m.i < 1099511627776) (hf : Fr d rep 1 (some (v, m.i, metaL m.r m.p m.i))) (hl : d.left < 0) :
    ∃ d2, beginM d rep = (d2, ⟨m.r, m.p, m.i + 1⟩, 0) := by
  obtain ⟨b1, b2, b3, b4, b5, b6⟩ := may_bd hm
  have hm' : mayM m.r m.p (m.i + 1) = true := by
    simp only [mayM, Bool.and_eq_true, decide_eq_true_eq] at hm ⊢
    exact ⟨⟨hm.1.1, by omega⟩, by omega⟩
  obtain ⟨d3, k1, _⟩ := storeM_fr (m := ⟨m.r, m.p, m.i + 1⟩) h hp hf hv2 hl hm'
  exact ⟨d3, (begin_some h hp hv hm (by omega) hf).trans k1⟩
end
end Go.Proofs.YtejjneamngkmoaaDoor

namespace Go.Proofs.YtejjneamngkmoaaDoor
open Go.RowKit

/-- Ballots that came in. -/
structure Bals (w : World) (a : Option Addr) (l : List (Int × Int)) : Prop where
  each : ∀ (j : Nat) (hj : j < l.length), ∃ b off, a = some ⟨b, off, none⟩ ∧ w.cell? ⟨b, off + j * 2, none⟩ = some (.int .i64 l[j].1) ∧ w.cell? ⟨b, off + j * 2 + 1, none⟩ = some (.int .i64 l[j].2)
theorem Bals.below {w w' : World} {a : Option Addr} {l : List (Int × Int)} (h : Bals w a l) (hb : Below w.heap.size w w') : Bals w' a l := ⟨fun j hj => by
  obtain ⟨b, off, e, h1, h2⟩ := h.each j hj
  exact ⟨b, off, e, cell_later hb h1, cell_later hb h2⟩⟩
/-- A disk behind promises. -/
structure StM (d : Dk) (r p v : Int) (n : Nat) : Prop where
  live : Live d
  left : d.left < 0
  may : mayM r p 1 = true
  pos : 0 < v
  le : v ≤ n + 1
  fr : Fr d 0 1 (some (v, 1, metaL r p 1))
theorem StM.more {d : Dk} {r p v : Int} {n : Nat} (h : StM d r p v n) : StM d r p v (n + 1) := ⟨h.live, h.left, h.may, h.pos, by have := h.le; omega, h.fr⟩
theorem st_first : ∃ d1, beginM (newDk 156) 0 = (d1, ⟨0, 0, 1⟩, 0) ∧ StM d1 0 0 1 0 := by
  have hp : (0 : Int) ≤ 0 ∧ (0 : Int) ≤ 6 := by omega
  have hf0 := new_fr 0 (reg := 1) (.inl rfl)
  obtain ⟨d1, e1, l1, f1, r1, _⟩ := storeM_fr (m := ⟨0, 0, 1⟩) new_live hp hf0 (by decide) (by decide) (by decide)
  exact ⟨d1, (begin_none new_live hp hf0).trans e1, l1, by rw [f1]; decide, by decide, by decide, by decide, r1⟩
set_option maxRecDepth 100000 in
set_option maxHeartbeats 2000000 in
theorem damage_law (a : Option Addr) (c : Nat) (ls : List (Int × Int)) (fst snd : Bool) (w : World) (hl : Bals w a ls) :
    Calls Tryd.prog 12 #[.slice a ls.length c, .bool fst, .bool snd] w fun e w' => e = .returned (.bool true) ∧ Below w.heap.size w w' := by
  by_cases h20 : ls.length ≤ 20
  case neg =>
    have hI : (20 : Int) < ls.length := by omega
    go_enter Tryd.func12, Tryd.ntmps12
    refine wp_seq_k (fun K hK => ?_)
    have HK := Lib.hid hK
    clear hK
    go_wp2
    refine HK.out _ _ ?_
    clear HK
    refine wp_seq_k (fun K hK => ?_)
    have HK := Lib.hid hK
    clear hK
    go_wp2_with (go_at_call 43; refine (mawake_any _).mono ?_; rintro e w1 ⟨rfl, hb1⟩)
    refine HK.out _ _ ?_
    clear HK
    go_wp2
    go_ret
    exact ⟨rfl, hb1⟩
  case pos =>
  have hI : ¬ (20 : Int) < ls.length := by omega
  obtain ⟨d1, e1, s1⟩ := st_first
  have HE1 := Lib.hid e1
  clear e1
  go_enter Tryd.func12, Tryd.ntmps12
  refine wp_seq_k (fun K hK => ?_)
  have HK := Lib.hid hK
  clear hK
  go_wp2
  refine HK.out _ _ ?_
  clear HK
  refine wp_seq_k (fun K hK => ?_)
  have HK := Lib.hid hK
  clear hK
  go_wp2_with (go_at_call 43; refine (mawake_any _).mono ?_; rintro e w1 ⟨rfl, hb1⟩)
  refine HK.out _ _ ?_
  clear HK
  refine wp_seq_k (fun K hK => ?_)
  have HK := Lib.hid hK
  clear hK
  go_wp2
  refine HK.out _ _ ?_
  clear HK
  refine wp_seq_k (fun K hK => ?_)
  have HK := Lib.hid hK
  clear hK
  go_wp2_with (go_at_call 14; refine (new156 (B := w.heap.size) hb1.size).mono ?_; rintro e w3 ⟨⟨g, gp, rfl, D3⟩, hb3⟩)
  refine HK.out _ _ ?_
  clear HK
  have k3 := (Kt.of hb1 (Nat.le_refl w.heap.size)).trans (Kt.of hb3 hb1.size)
  clear hb1 hb3
  refine wp_seq_k (fun K hK => ?_)
  have HK := Lib.hid hK
  clear hK
  go_wp2
  refine HK.out _ _ ?_
  clear HK
  have hbg := begin_any D3 k3.bl.size (by simp [newDk]) 0
  rw [HE1.out] at hbg
  refine wp_seq_k (fun K hK => ?_)
  have HK := Lib.hid hK
  clear hK
  go_wp2_with (go_at_call 47; refine hbg.mono ?_; rintro e w4 ⟨rfl, ⟨wv4, D4⟩, hk4⟩; simp only [mV])
  refine HK.out _ _ ?_
  clear HK
  (try simp only at D4)
  have k4 := k3.trans hk4
  clear hbg D3 k3 hk4
  have M5 := heap_alloc_new w4 (Obj.cells #[.int .i64 0, .int .i64 0, .int .i64 1] 88)
  have D5 := D4.below (blw w4 (Obj.cells #[.int .i64 0, .int .i64 0, .int .i64 1] 88))
  have k5 := k4.trans (Kt.of (blw w4 (Obj.cells #[.int .i64 0, .int .i64 0, .int .i64 1] 88)) k4.bl.size)
  have hq : w.heap.size ≤ w4.heap.size := k4.bl.size
  generalize w4.alloc (Obj.cells #[.int .i64 0, .int .i64 0, .int .i64 1] 88) = w5 at *
  generalize w4.heap.size = q at *
  clear D4 k4
  refine wp_seq_k (fun K hK => ?_)
  have HK := Lib.hid hK
  clear hK
  go_wp2
  refine HK.out _ _ ?_
  clear HK
  refine wp_seq_k (fun K hK => ?_)
  have HK := Lib.hid hK
  clear hK
  go_wp2_with fail
  go_loopw [11, 12, 13] (fun i _ _ wr => ∃ (j : Nat) (dj : Dk) (wvj : Value) (r p v : Int), j ≤ ls.length ∧ i = .int .i64 (j : Nat) ∧ DiskB w.heap.size g gp wvj dj wr ∧ Kt w.heap.size w wr ∧ wr.heap[q]? = some (.cells #[.int .i64 r, .int .i64 p, .int .i64 1] 88 (0, 0)) ∧ StM dj r p v j) (fun i _ _ _ => ls.length - (intOf i).toNat)
  case atStart => exact ⟨0, d1, wv4, 0, 0, 1, by omega, rfl, D5, k5, M5, s1⟩
  case round =>
    clear D5 k5 M5 s1 HE1
    obtain ⟨j, dj, wvj, r, p, v, hj, rfl, D5, k5, M5, s5⟩ := hrel
    by_cases hlt : j < ls.length
    case neg =>
      obtain rfl : j = ls.length := by omega
      have hp0 : (0 : Int) ≤ 0 ∧ (0 : Int) ≤ 6 := by omega
      have hle := s5.le
      have hv2 : v + 1 ≤ 1099511627776 := by omega
      go_wp2
      refine HK.out _ _ ?_
      clear HK
      cases fst
      case false =>
        cases snd
        case false =>
          obtain ⟨d2, hbe⟩ := begin_fr (m := ⟨r, p, 1⟩) s5.live hp0 s5.pos hv2 s5.may (show (1 : Int) < 1099511627776 by decide) s5.fr s5.left
          have HBG := Lib.hid hbe
          have HW := Lib.hid s5.live.w
          clear hbe
          go_wp2_with fail
          have hbg := begin_any D5 k5.bl.size (by rw [HW.out]; simp) 0
          rw [HBG.out] at hbg
          refine hbg.mono ?_
          rintro e wF ⟨rfl, ⟨wvF, DF⟩, hkF⟩
          simp only [mV]
          have kF := k5.trans hkF
          have MF := tr_al (Obj.cells #[.int .i64 r, .int .i64 p, .int .i64 2] 88) (hkF.ty _ _ _ M5 (by decide) (by decide) (by decide))
          obtain ⟨q0, q1, q2, -, -, -⟩ := tri_cells MF
          clear hbg hkF DF
          go_wp2
          go_ret
          exact ⟨rfl, (kF.trans (Kt.of (blw wF _) kF.bl.size)).bl⟩
        case true =>
          obtain ⟨d1, d2, l1, lw, hbe⟩ := lose_begin (m := ⟨r, p, 1⟩) s5.live hp0 s5.pos hv2 s5.may (show (1 : Int) < 1099511627776 by decide) s5.fr s5.left (i := 1) (by decide)
          have HL1 := Lib.hid (show loseD dj 1 = (d1, 0) from l1)
          have HBG := Lib.hid hbe
          have HW := Lib.hid lw
          clear hbe l1 lw
          go_wp2_with fail
          have hlo := lose_any D5 k5.bl.size 1
          rw [HL1.out] at hlo
          refine hlo.mono ?_
          rintro e w6 ⟨rfl, D6, hkl⟩
          (try simp only at D6)
          have k6 := k5.trans hkl
          have M6 := hkl.ty _ _ _ M5 (by decide) (by decide) (by decide)
          clear hlo hkl
          go_wp2_with fail
          have hbg := begin_any D6 k6.bl.size (by rw [HW.out]; simp) 0
          rw [HBG.out] at hbg
          refine hbg.mono ?_
          rintro e wF ⟨rfl, ⟨wvF, DF⟩, hkF⟩
          simp only [mV]
          have kF := k6.trans hkF
          have MF := tr_al (Obj.cells #[.int .i64 r, .int .i64 p, .int .i64 2] 88) (hkF.ty _ _ _ M6 (by decide) (by decide) (by decide))
          obtain ⟨q0, q1, q2, -, -, -⟩ := tri_cells MF
          clear hbg hkF DF
          go_wp2
          go_ret
          exact ⟨rfl, (kF.trans (Kt.of (blw wF _) kF.bl.size)).bl⟩
      case true =>
        cases snd
        case false =>
          obtain ⟨d1, d2, l1, lw, hbe⟩ := lose_begin (m := ⟨r, p, 1⟩) s5.live hp0 s5.pos hv2 s5.may (show (1 : Int) < 1099511627776 by decide) s5.fr s5.left (i := 0) (by decide)
          have HL1 := Lib.hid (show loseD dj 0 = (d1, 0) from l1)
          have HBG := Lib.hid hbe
          have HW := Lib.hid lw
          clear hbe l1 lw
          go_wp2_with fail
          have hlo := lose_any D5 k5.bl.size 0
          rw [HL1.out] at hlo
          refine hlo.mono ?_
          rintro e w6 ⟨rfl, D6, hkl⟩
          (try simp only at D6)
          have k6 := k5.trans hkl
          have M6 := hkl.ty _ _ _ M5 (by decide) (by decide) (by decide)
          clear hlo hkl
          go_wp2_with fail
          have hbg := begin_any D6 k6.bl.size (by rw [HW.out]; simp) 0
          rw [HBG.out] at hbg
          refine hbg.mono ?_
          rintro e wF ⟨rfl, ⟨wvF, DF⟩, hkF⟩
          simp only [mV]
          have kF := k6.trans hkF
          have MF := tr_al (Obj.cells #[.int .i64 r, .int .i64 p, .int .i64 2] 88) (hkF.ty _ _ _ M6 (by decide) (by decide) (by decide))
          obtain ⟨q0, q1, q2, -, -, -⟩ := tri_cells MF
          clear hbg hkF DF
          go_wp2
          go_ret
          exact ⟨rfl, (kF.trans (Kt.of (blw wF _) kF.bl.size)).bl⟩
        case true =>
          obtain ⟨d1, d2, l1, lw1, l2, lw, hbe⟩ := lose_both (rep := 0) s5.live hp0
          have HL1 := Lib.hid (show loseD dj 0 = (d1, 0) from l1)
          have HL2 := Lib.hid (show loseD d1 1 = (d2, 0) from l2)
          have HBG := Lib.hid hbe
          have HW := Lib.hid lw
          clear hbe l1 l2 lw lw1
          go_wp2_with fail
          have hlo := lose_any D5 k5.bl.size 0
          rw [HL1.out] at hlo
          refine hlo.mono ?_
          rintro e w6 ⟨rfl, D6, hkl⟩
          (try simp only at D6)
          have k6 := k5.trans hkl
          have M6 := hkl.ty _ _ _ M5 (by decide) (by decide) (by decide)
          clear hlo hkl
          go_wp2_with fail
          have hlo := lose_any D6 k6.bl.size 1
          rw [HL2.out] at hlo
          refine hlo.mono ?_
          rintro e w7 ⟨rfl, D7, hkl⟩
          (try simp only at D7)
          have k7 := k6.trans hkl
          have M7 := hkl.ty _ _ _ M6 (by decide) (by decide) (by decide)
          clear hlo hkl
          go_wp2_with fail
          have hbg := begin_any D7 k7.bl.size (by rw [HW.out]; simp) 0
          rw [HBG.out] at hbg
          refine hbg.mono ?_
          rintro e wF ⟨rfl, ⟨wvF, DF⟩, hkF⟩
          simp only [mV]
          have kF := k7.trans hkF
          have MF := tr_al (Obj.cells #[.int .i64 0, .int .i64 0, .int .i64 0] 88) (hkF.ty _ _ _ M7 (by decide) (by decide) (by decide))
          obtain ⟨q0, q1, q2, -, -, -⟩ := tri_cells MF
          clear hbg hkF DF
          go_wp2
          go_ret
          exact ⟨rfl, (kF.trans (Kt.of (blw wF _) kF.bl.size)).bl⟩
    case pos =>
      have hle := s5.le
      obtain ⟨b, off, rfl, hx0, hx1⟩ := hl.each j hlt
      have HX0 : ∀ w', Kt w.heap.size w w' → w'.cell? ⟨b, off + j * 2, none⟩ = some (.int .i64 ls[j].1) := fun w' hk => cell_later hk.bl hx0
      have HX1 : ∀ w', Kt w.heap.size w w' → w'.cell? ⟨b, off + j * 2 + 1, none⟩ = some (.int .i64 ls[j].2) := fun w' hk => cell_later hk.bl hx1
      have hpm := prom_fr (m := ⟨r, p, 1⟩) s5.live (show (0 : Int) ≤ 0 ∧ (0 : Int) ≤ 6 by omega) s5.may s5.fr (by omega) s5.left ls[j].1 ls[j].2
      generalize ls[j] = x at *
      obtain ⟨r', p'⟩ := x
      simp only at HX0 HX1 hpm
      clear hx0 hx1
      go_wp2_with fail
      have hbd := (Below.refl wr.heap.size wr).drew
      have D6 := D5.below hbd
      have k6 := k5.trans (Kt.of hbd k5.bl.size)
      refine wp_region_held_drew (S := fun w' => Kt w.heap.size w w' ∧ w'.heap[q]? = some (.cells #[Value.int .i64 r, .int .i64 p, .int .i64 1] 88 (0, 0))) (by kernel_rfl) ⟨k6, tr_bl hbd M5⟩ (fun hS0 => ?_)
      clear hbd D5 k5
      generalize wr.drew = x0 at *
      refine wpAnyH_take (i := 0) (oi := ⟨_, _, _, _, _, _⟩) (v := ?_) rfl (by kernel_rfl) (by kernel_rfl) (by kernel_rfl) (fun _ _ _ h => h) (Or.inl ⟨by rfl, ?_⟩) (by assumption) ?_
      rotate_left
      · intro wS hSw
        go_simp; (try with_reducible rfl)
      (try simp only [Act.put])
      (try simp only [List.setIfInBounds_toArray])
      (try simp only [List.set_cons_succ])
      (try simp only [List.set_cons_zero])
      refine wpAnyH_take (i := 1) (oi := ⟨_, _, _, _, _, _⟩) (v := .agg (#[Value.int .i64 r, .int .i64 p, .int .i64 1])) rfl (by kernel_rfl) (by kernel_rfl) (by kernel_rfl) (fun _ _ _ h => h) (Or.inl ⟨by rfl, fun wS hSw => ?_⟩) (by assumption) ?_
      · exact exec_ldB 88 _ ⟨_, _, _, _, _, Tryd.isAgg88, Tryd.sizeOf88, rfl, hSw.2, ld3 r p 1⟩
      (try simp only [Act.put])
      (try simp only [List.setIfInBounds_toArray])
      (try simp only [List.set_cons_succ])
      (try simp only [List.set_cons_zero])
      refine wpAnyH_take (i := 2) (oi := ⟨_, _, _, _, _, _⟩) (v := ?_) rfl (by kernel_rfl) (by kernel_rfl) (by kernel_rfl) (fun _ _ _ h => h) (Or.inl ⟨by rfl, ?_⟩) (by assumption) ?_
      rotate_left
      · intro wS hSw
        go_simp; (try with_reducible rfl)
      (try simp only [Act.put])
      (try simp only [List.setIfInBounds_toArray])
      (try simp only [List.set_cons_succ])
      (try simp only [List.set_cons_zero])
      refine wpAnyH_take (i := 3) (oi := ⟨_, _, _, _, _, _⟩) (v := ?_) rfl (by kernel_rfl) (by kernel_rfl) (by kernel_rfl) (fun _ _ _ h => h) (Or.inl ⟨by rfl, ?_⟩) (by assumption) ?_
      rotate_left
      · intro wS hSw
        go_simp; (try with_reducible rfl)
      (try simp only [Act.put])
      (try simp only [List.setIfInBounds_toArray])
      (try simp only [List.set_cons_succ])
      (try simp only [List.set_cons_zero])
      refine wpAnyH_take (i := 4) (oi := ⟨_, _, _, _, _, _⟩) (v := ?_) rfl (by kernel_rfl) (by kernel_rfl) (by kernel_rfl) (fun _ _ _ h => h) (Or.inl ⟨by rfl, ?_⟩) (by assumption) ?_
      rotate_left
      · intro wS hSw
        go_simp; (try with_reducible rfl)
      (try simp only [Act.put])
      (try simp only [List.setIfInBounds_toArray])
      (try simp only [List.set_cons_succ])
      (try simp only [List.set_cons_zero])
      refine wpAnyH_take (i := 5) (oi := ⟨_, _, _, _, _, _⟩) (v := .agg #[.int .i64 r', .int .i64 p']) rfl (by kernel_rfl) (by kernel_rfl) (by kernel_rfl) (fun _ _ _ h => h) (Or.inl ⟨by rfl, fun wS hSw => ?_⟩) (by assumption) ?_
      · have c0 := HX0 _ hSw.1; have c1 := HX1 _ hSw.1; go_simp
      (try simp only [Act.put])
      (try simp only [List.setIfInBounds_toArray])
      (try simp only [List.set_cons_succ])
      (try simp only [List.set_cons_zero])
      have hpa := fun (w' : World) (wv' : Value) (D : DiskB w.heap.size g gp wv' dj w') (hB : w.heap.size ≤ w'.heap.size) => prom_any D hB (by rw [s5.live.w]; simp) 0 r p 1 r' p'
      rcases hpm with hpm | ⟨d2, hpm, hL2, hl2, hf2, hm2, _⟩
      · simp only [hpm, zM] at hpa
        have HPA := Lib.hid hpa
        clear hpa hpm
        refine wpAnyH_ready (rs := [6, 10]) (by kernel_rfl) (by simp) ?_
        refine AllReadyH.cons (o := ⟨_, _, _, _, _, _⟩) rfl (fun K' hK' => ?_) (AllReadyH.cons (o := ⟨_, _, _, _, _, _⟩) rfl (fun K' hK' => ?_) AllReadyH.nil)
        · refine (if_pos (by rfl)).mpr ?_
          go_simp
          refine (HPA.out x0 _ D6 k6.bl.size).mono ?_
          rintro e x1 ⟨rfl, ⟨wv2, F1⟩, hk1⟩
          simp only [mV]
          have kz1 := k6.trans hk1
          have M1 := hk1.ty _ _ _ hS0.2 (by decide) (by decide) (by decide)
          refine hK'.out _ _ ⟨kz1, M1⟩ (fun _ => ?_)
          (try simp only [Act.put])
          (try simp only [List.setIfInBounds_toArray])
          (try simp only [List.set_cons_succ])
          (try simp only [List.set_cons_zero])
          refine wpAnyH_take (i := 7) (oi := ⟨_, _, _, _, _, _⟩) (v := ?_) rfl (by kernel_rfl) (by kernel_rfl) (by kernel_rfl) (fun _ _ _ h => h) (Or.inl ⟨by rfl, ?_⟩) (by assumption) ?_
          rotate_left
          · intro wS hSw
            go_simp; (try with_reducible rfl)
          (try simp only [Act.put])
          (try simp only [List.setIfInBounds_toArray])
          (try simp only [List.set_cons_succ])
          (try simp only [List.set_cons_zero])
          refine wpAnyH_take (i := 8) (oi := ⟨_, _, _, _, _, _⟩) (v := ?_) rfl (by kernel_rfl) (by kernel_rfl) (by kernel_rfl) (fun _ _ _ h => h) (Or.inl ⟨by rfl, ?_⟩) (by assumption) ?_
          rotate_left
          · intro wS hSw
            go_simp; (try with_reducible rfl)
          (try simp only [Act.put])
          (try simp only [List.setIfInBounds_toArray])
          (try simp only [List.set_cons_succ])
          (try simp only [List.set_cons_zero])
          refine wpAnyH_take (i := 9) (oi := ⟨_, _, _, _, _, _⟩) (v := ?_) rfl (by kernel_rfl) (by kernel_rfl) (by kernel_rfl) (fun _ _ _ h => h) (Or.inl ⟨by rfl, ?_⟩) (by assumption) ?_
          rotate_left
          · intro wS hSw
            go_simp; (try with_reducible rfl)
          (try simp only [Act.put])
          (try simp only [List.setIfInBounds_toArray])
          (try simp only [List.set_cons_succ])
          (try simp only [List.set_cons_zero])
          refine wpAnyH_ready (rs := [10]) (by kernel_rfl) (by simp) ?_
          refine AllReadyH.cons (o := ⟨_, _, _, _, _, _⟩) rfl (fun K' hK' => ?_) AllReadyH.nil
          refine (if_pos (by rfl)).mpr ?_
          go_simp
          change K' _ (World.alloc _ (Obj.cells #[.int .i64 0, .int .i64 0, .int .i64 0] 88))
          have N3 := heap_alloc_new x1 (Obj.cells #[.int .i64 0, .int .i64 0, .int .i64 0] 88)
          have M3 := tr_al (Obj.cells #[.int .i64 0, .int .i64 0, .int .i64 0] 88) M1
          have F3 := F1.below (blw x1 (Obj.cells #[.int .i64 0, .int .i64 0, .int .i64 0] 88))
          have kz3 := kz1.trans (Kt.of (blw x1 (Obj.cells #[.int .i64 0, .int .i64 0, .int .i64 0] 88)) kz1.bl.size)
          have hqz : w.heap.size ≤ x1.heap.size := kz1.bl.size
          have hqn : x1.heap.size ≠ q := by have := lt_blk M1; omega
          refine hK'.out _ _ ⟨kz3, M3⟩ (fun _ => ?_)
          (try simp only [Act.put])
          (try simp only [List.setIfInBounds_toArray])
          (try simp only [List.set_cons_succ])
          (try simp only [List.set_cons_zero])
          refine wpAnyH_ready (rs := [11]) (by kernel_rfl) (by simp) ?_
          refine AllReadyH.cons (o := ⟨_, _, _, _, _, _⟩) rfl (fun K' hK' => ?_) AllReadyH.nil
          refine (if_pos (by rfl)).mpr ?_
          refine wp_stB 88 _ _ ?_
          refine ⟨_, _, _, ⟨_, _, _, Tryd.sizeOf88, rfl, N3, st3 _ rfl (0) (0) (0)⟩, ?_⟩
          intro w8 N4 g8
          have M4 := tr_st g8 M3 hqn
          have F4 := F3.st g8 N3
          have kz4 := kz3.new g8 hqz (Nat.le_refl _)
          refine hK'.out _ _ ⟨kz4, M4⟩ (fun _ => ?_)
          (try simp only [Act.put])
          (try simp only [List.setIfInBounds_toArray])
          (try simp only [List.set_cons_succ])
          (try simp only [List.set_cons_zero])
          refine wpAnyH_take (i := 12) (oi := ⟨_, _, _, _, _, _⟩) (v := ?_) rfl (by kernel_rfl) (by kernel_rfl) (by kernel_rfl) (fun _ _ _ h => h) (Or.inl ⟨by rfl, ?_⟩) (by assumption) ?_
          rotate_left
          · intro wS hSw
            go_simp; (try with_reducible rfl)
          (try simp only [Act.put])
          (try simp only [List.setIfInBounds_toArray])
          (try simp only [List.set_cons_succ])
          (try simp only [List.set_cons_zero])
          refine wpAnyH_done (by kernel_rfl) ?_ _
          (try simp only [Act.put])
          go_wp2
          go_roundw
          case rel => exact ⟨j + 1, dj, wv2, r, p, v, by omega, by go_num, F4, kz4, M4, s5.more⟩
          case measure => simp [intOf]; omega
        · refine (if_pos (by rfl)).mpr ?_
          go_simp
          change K' _ (World.alloc _ (Obj.cells #[.int .i64 0, .int .i64 0, .int .i64 0] 88))
          have N1 := heap_alloc_new x0 (Obj.cells #[.int .i64 0, .int .i64 0, .int .i64 0] 88)
          have M1 := tr_al (Obj.cells #[.int .i64 0, .int .i64 0, .int .i64 0] 88) hS0.2
          have D7 := D6.below (blw x0 (Obj.cells #[.int .i64 0, .int .i64 0, .int .i64 0] 88))
          have k7 := k6.trans (Kt.of (blw x0 (Obj.cells #[.int .i64 0, .int .i64 0, .int .i64 0] 88)) k6.bl.size)
          have hqz : w.heap.size ≤ x0.heap.size := k6.bl.size
          have hqn : x0.heap.size ≠ q := by have := lt_blk hS0.2; omega
          refine hK'.out _ _ ⟨k7, M1⟩ (fun _ => ?_)
          (try simp only [Act.put])
          (try simp only [List.setIfInBounds_toArray])
          (try simp only [List.set_cons_succ])
          (try simp only [List.set_cons_zero])
          generalize x0.alloc (Obj.cells #[.int .i64 0, .int .i64 0, .int .i64 0] 88) = x1 at *
          refine wpAnyH_ready (rs := [6]) (by kernel_rfl) (by simp) ?_
          refine AllReadyH.cons (o := ⟨_, _, _, _, _, _⟩) rfl (fun K' hK' => ?_) AllReadyH.nil
          refine (if_pos (by rfl)).mpr ?_
          go_simp
          refine (HPA.out x1 _ D7 k7.bl.size).mono ?_
          rintro e x3 ⟨rfl, ⟨wv2, F3⟩, hk1⟩
          simp only [mV]
          have kz3 := k7.trans hk1
          have M3 := hk1.ty _ _ _ M1 (by decide) (by decide) (by decide)
          have N3 := hk1.ty _ _ _ N1 (by decide) (by decide) (by decide)
          refine hK'.out _ _ ⟨kz3, M3⟩ (fun _ => ?_)
          (try simp only [Act.put])
          (try simp only [List.setIfInBounds_toArray])
          (try simp only [List.set_cons_succ])
          (try simp only [List.set_cons_zero])
          refine wpAnyH_take (i := 7) (oi := ⟨_, _, _, _, _, _⟩) (v := ?_) rfl (by kernel_rfl) (by kernel_rfl) (by kernel_rfl) (fun _ _ _ h => h) (Or.inl ⟨by rfl, ?_⟩) (by assumption) ?_
          rotate_left
          · intro wS hSw
            go_simp; (try with_reducible rfl)
          (try simp only [Act.put])
          (try simp only [List.setIfInBounds_toArray])
          (try simp only [List.set_cons_succ])
          (try simp only [List.set_cons_zero])
          refine wpAnyH_take (i := 8) (oi := ⟨_, _, _, _, _, _⟩) (v := ?_) rfl (by kernel_rfl) (by kernel_rfl) (by kernel_rfl) (fun _ _ _ h => h) (Or.inl ⟨by rfl, ?_⟩) (by assumption) ?_
          rotate_left
          · intro wS hSw
            go_simp; (try with_reducible rfl)
          (try simp only [Act.put])
          (try simp only [List.setIfInBounds_toArray])
          (try simp only [List.set_cons_succ])
          (try simp only [List.set_cons_zero])
          refine wpAnyH_take (i := 9) (oi := ⟨_, _, _, _, _, _⟩) (v := ?_) rfl (by kernel_rfl) (by kernel_rfl) (by kernel_rfl) (fun _ _ _ h => h) (Or.inl ⟨by rfl, ?_⟩) (by assumption) ?_
          rotate_left
          · intro wS hSw
            go_simp; (try with_reducible rfl)
          (try simp only [Act.put])
          (try simp only [List.setIfInBounds_toArray])
          (try simp only [List.set_cons_succ])
          (try simp only [List.set_cons_zero])
          refine wpAnyH_ready (rs := [11]) (by kernel_rfl) (by simp) ?_
          refine AllReadyH.cons (o := ⟨_, _, _, _, _, _⟩) rfl (fun K' hK' => ?_) AllReadyH.nil
          refine (if_pos (by rfl)).mpr ?_
          refine wp_stB 88 _ _ ?_
          refine ⟨_, _, _, ⟨_, _, _, Tryd.sizeOf88, rfl, N3, st3 _ rfl (0) (0) (0)⟩, ?_⟩
          intro w8 N4 g8
          have M4 := tr_st g8 M3 hqn
          have F4 := F3.st g8 N3
          have kz4 := kz3.new g8 hqz (Nat.le_refl _)
          refine hK'.out _ _ ⟨kz4, M4⟩ (fun _ => ?_)
          (try simp only [Act.put])
          (try simp only [List.setIfInBounds_toArray])
          (try simp only [List.set_cons_succ])
          (try simp only [List.set_cons_zero])
          refine wpAnyH_take (i := 12) (oi := ⟨_, _, _, _, _, _⟩) (v := ?_) rfl (by kernel_rfl) (by kernel_rfl) (by kernel_rfl) (fun _ _ _ h => h) (Or.inl ⟨by rfl, ?_⟩) (by assumption) ?_
          rotate_left
          · intro wS hSw
            go_simp; (try with_reducible rfl)
          (try simp only [Act.put])
          (try simp only [List.setIfInBounds_toArray])
          (try simp only [List.set_cons_succ])
          (try simp only [List.set_cons_zero])
          refine wpAnyH_done (by kernel_rfl) ?_ _
          (try simp only [Act.put])
          go_wp2
          go_roundw
          case rel => exact ⟨j + 1, dj, wv2, r, p, v, by omega, by go_num, F4, kz4, M4, s5.more⟩
          case measure => simp [intOf]; omega
      · simp only [hpm] at hpa
        have s6 : StM d2 r' p' (v + 1) (j + 1) := ⟨hL2, by rw [hl2]; exact s5.left, hm2, by have := s5.pos; omega, by omega, hf2⟩
        have HPA := Lib.hid hpa
        clear hpa hpm s5 hL2 hl2 hf2 hm2
        refine wpAnyH_ready (rs := [6, 10]) (by kernel_rfl) (by simp) ?_
        refine AllReadyH.cons (o := ⟨_, _, _, _, _, _⟩) rfl (fun K' hK' => ?_) (AllReadyH.cons (o := ⟨_, _, _, _, _, _⟩) rfl (fun K' hK' => ?_) AllReadyH.nil)
        · refine (if_pos (by rfl)).mpr ?_
          go_simp
          refine (HPA.out x0 _ D6 k6.bl.size).mono ?_
          rintro e x1 ⟨rfl, ⟨wv2, F1⟩, hk1⟩
          simp only [mV]
          have kz1 := k6.trans hk1
          have M1 := hk1.ty _ _ _ hS0.2 (by decide) (by decide) (by decide)
          refine hK'.out _ _ ⟨kz1, M1⟩ (fun _ => ?_)
          (try simp only [Act.put])
          (try simp only [List.setIfInBounds_toArray])
          (try simp only [List.set_cons_succ])
          (try simp only [List.set_cons_zero])
          refine wpAnyH_take (i := 7) (oi := ⟨_, _, _, _, _, _⟩) (v := ?_) rfl (by kernel_rfl) (by kernel_rfl) (by kernel_rfl) (fun _ _ _ h => h) (Or.inl ⟨by rfl, ?_⟩) (by assumption) ?_
          rotate_left
          · intro wS hSw
            go_simp; (try with_reducible rfl)
          (try simp only [Act.put])
          (try simp only [List.setIfInBounds_toArray])
          (try simp only [List.set_cons_succ])
          (try simp only [List.set_cons_zero])
          refine wpAnyH_take (i := 8) (oi := ⟨_, _, _, _, _, _⟩) (v := ?_) rfl (by kernel_rfl) (by kernel_rfl) (by kernel_rfl) (fun _ _ _ h => h) (Or.inl ⟨by rfl, ?_⟩) (by assumption) ?_
          rotate_left
          · intro wS hSw
            go_simp; (try with_reducible rfl)
          (try simp only [Act.put])
          (try simp only [List.setIfInBounds_toArray])
          (try simp only [List.set_cons_succ])
          (try simp only [List.set_cons_zero])
          refine wpAnyH_take (i := 9) (oi := ⟨_, _, _, _, _, _⟩) (v := ?_) rfl (by kernel_rfl) (by kernel_rfl) (by kernel_rfl) (fun _ _ _ h => h) (Or.inl ⟨by rfl, ?_⟩) (by assumption) ?_
          rotate_left
          · intro wS hSw
            go_simp; (try with_reducible rfl)
          (try simp only [Act.put])
          (try simp only [List.setIfInBounds_toArray])
          (try simp only [List.set_cons_succ])
          (try simp only [List.set_cons_zero])
          refine wpAnyH_ready (rs := [10]) (by kernel_rfl) (by simp) ?_
          refine AllReadyH.cons (o := ⟨_, _, _, _, _, _⟩) rfl (fun K' hK' => ?_) AllReadyH.nil
          refine (if_pos (by rfl)).mpr ?_
          go_simp
          change K' _ (World.alloc _ (Obj.cells #[.int .i64 0, .int .i64 0, .int .i64 0] 88))
          have N3 := heap_alloc_new x1 (Obj.cells #[.int .i64 0, .int .i64 0, .int .i64 0] 88)
          have M3 := tr_al (Obj.cells #[.int .i64 0, .int .i64 0, .int .i64 0] 88) M1
          have F3 := F1.below (blw x1 (Obj.cells #[.int .i64 0, .int .i64 0, .int .i64 0] 88))
          have kz3 := kz1.trans (Kt.of (blw x1 (Obj.cells #[.int .i64 0, .int .i64 0, .int .i64 0] 88)) kz1.bl.size)
          have hqz : w.heap.size ≤ x1.heap.size := kz1.bl.size
          have hqn : x1.heap.size ≠ q := by have := lt_blk M1; omega
          refine hK'.out _ _ ⟨kz3, M3⟩ (fun _ => ?_)
          (try simp only [Act.put])
          (try simp only [List.setIfInBounds_toArray])
          (try simp only [List.set_cons_succ])
          (try simp only [List.set_cons_zero])
          refine wpAnyH_ready (rs := [11]) (by kernel_rfl) (by simp) ?_
          refine AllReadyH.cons (o := ⟨_, _, _, _, _, _⟩) rfl (fun K' hK' => ?_) AllReadyH.nil
          refine (if_pos (by rfl)).mpr ?_
          refine wp_stB 88 _ _ ?_
          refine ⟨_, _, _, ⟨_, _, _, Tryd.sizeOf88, rfl, N3, st3 _ rfl (r') (p') (1)⟩, ?_⟩
          intro w8 N4 g8
          have M4 := tr_st g8 M3 hqn
          have F4 := F3.st g8 N3
          have kz4 := kz3.new g8 hqz (Nat.le_refl _)
          refine hK'.out _ _ ⟨kz4, M4⟩ (fun _ => ?_)
          (try simp only [Act.put])
          (try simp only [List.setIfInBounds_toArray])
          (try simp only [List.set_cons_succ])
          (try simp only [List.set_cons_zero])
          refine wpAnyH_take (i := 12) (oi := ⟨_, _, _, _, _, _⟩) (v := ?_) rfl (by kernel_rfl) (by kernel_rfl) (by kernel_rfl) (fun _ _ _ h => h) (Or.inl ⟨by rfl, ?_⟩) (by assumption) ?_
          rotate_left
          · intro wS hSw
            go_simp; (try with_reducible rfl)
          (try simp only [Act.put])
          (try simp only [List.setIfInBounds_toArray])
          (try simp only [List.set_cons_succ])
          (try simp only [List.set_cons_zero])
          refine wpAnyH_done (by kernel_rfl) ?_ _
          (try simp only [Act.put])
          obtain ⟨q0, q1, q2, -, -, -⟩ := tri_cells N4
          go_wp2_with ((with_reducible refine wpList_stB 88 _ _ ?_); refine ⟨_, _, _, ⟨_, _, _, Tryd.sizeOf88, rfl, M4, st3 _ rfl r' p' 1⟩, ?_⟩; intro w9 M9 g9)
          go_roundw
          case rel => exact ⟨j + 1, d2, wv2, r', p', v + 1, by omega, by go_num, F4.st g9 M4, kz4.new g9 hq (Nat.le_refl _), M9, s6⟩
          case measure => simp [intOf]; omega
        · refine (if_pos (by rfl)).mpr ?_
          go_simp
          change K' _ (World.alloc _ (Obj.cells #[.int .i64 0, .int .i64 0, .int .i64 0] 88))
          have N1 := heap_alloc_new x0 (Obj.cells #[.int .i64 0, .int .i64 0, .int .i64 0] 88)
          have M1 := tr_al (Obj.cells #[.int .i64 0, .int .i64 0, .int .i64 0] 88) hS0.2
          have D7 := D6.below (blw x0 (Obj.cells #[.int .i64 0, .int .i64 0, .int .i64 0] 88))
          have k7 := k6.trans (Kt.of (blw x0 (Obj.cells #[.int .i64 0, .int .i64 0, .int .i64 0] 88)) k6.bl.size)
          have hqz : w.heap.size ≤ x0.heap.size := k6.bl.size
          have hqn : x0.heap.size ≠ q := by have := lt_blk hS0.2; omega
          refine hK'.out _ _ ⟨k7, M1⟩ (fun _ => ?_)
          (try simp only [Act.put])
          (try simp only [List.setIfInBounds_toArray])
          (try simp only [List.set_cons_succ])
          (try simp only [List.set_cons_zero])
          generalize x0.alloc (Obj.cells #[.int .i64 0, .int .i64 0, .int .i64 0] 88) = x1 at *
          refine wpAnyH_ready (rs := [6]) (by kernel_rfl) (by simp) ?_
          refine AllReadyH.cons (o := ⟨_, _, _, _, _, _⟩) rfl (fun K' hK' => ?_) AllReadyH.nil
          refine (if_pos (by rfl)).mpr ?_
          go_simp
          refine (HPA.out x1 _ D7 k7.bl.size).mono ?_
          rintro e x3 ⟨rfl, ⟨wv2, F3⟩, hk1⟩
          simp only [mV]
          have kz3 := k7.trans hk1
          have M3 := hk1.ty _ _ _ M1 (by decide) (by decide) (by decide)
          have N3 := hk1.ty _ _ _ N1 (by decide) (by decide) (by decide)
          refine hK'.out _ _ ⟨kz3, M3⟩ (fun _ => ?_)
          (try simp only [Act.put])
          (try simp only [List.setIfInBounds_toArray])
          (try simp only [List.set_cons_succ])
          (try simp only [List.set_cons_zero])
          refine wpAnyH_take (i := 7) (oi := ⟨_, _, _, _, _, _⟩) (v := ?_) rfl (by kernel_rfl) (by kernel_rfl) (by kernel_rfl) (fun _ _ _ h => h) (Or.inl ⟨by rfl, ?_⟩) (by assumption) ?_
          rotate_left
          · intro wS hSw
            go_simp; (try with_reducible rfl)
          (try simp only [Act.put])
          (try simp only [List.setIfInBounds_toArray])
          (try simp only [List.set_cons_succ])
          (try simp only [List.set_cons_zero])
          refine wpAnyH_take (i := 8) (oi := ⟨_, _, _, _, _, _⟩) (v := ?_) rfl (by kernel_rfl) (by kernel_rfl) (by kernel_rfl) (fun _ _ _ h => h) (Or.inl ⟨by rfl, ?_⟩) (by assumption) ?_
          rotate_left
          · intro wS hSw
            go_simp; (try with_reducible rfl)
          (try simp only [Act.put])
          (try simp only [List.setIfInBounds_toArray])
          (try simp only [List.set_cons_succ])
          (try simp only [List.set_cons_zero])
          refine wpAnyH_take (i := 9) (oi := ⟨_, _, _, _, _, _⟩) (v := ?_) rfl (by kernel_rfl) (by kernel_rfl) (by kernel_rfl) (fun _ _ _ h => h) (Or.inl ⟨by rfl, ?_⟩) (by assumption) ?_
          rotate_left
          · intro wS hSw
            go_simp; (try with_reducible rfl)
          (try simp only [Act.put])
          (try simp only [List.setIfInBounds_toArray])
          (try simp only [List.set_cons_succ])
          (try simp only [List.set_cons_zero])
          refine wpAnyH_ready (rs := [11]) (by kernel_rfl) (by simp) ?_
          refine AllReadyH.cons (o := ⟨_, _, _, _, _, _⟩) rfl (fun K' hK' => ?_) AllReadyH.nil
          refine (if_pos (by rfl)).mpr ?_
          refine wp_stB 88 _ _ ?_
          refine ⟨_, _, _, ⟨_, _, _, Tryd.sizeOf88, rfl, N3, st3 _ rfl (r') (p') (1)⟩, ?_⟩
          intro w8 N4 g8
          have M4 := tr_st g8 M3 hqn
          have F4 := F3.st g8 N3
          have kz4 := kz3.new g8 hqz (Nat.le_refl _)
          refine hK'.out _ _ ⟨kz4, M4⟩ (fun _ => ?_)
          (try simp only [Act.put])
          (try simp only [List.setIfInBounds_toArray])
          (try simp only [List.set_cons_succ])
          (try simp only [List.set_cons_zero])
          refine wpAnyH_take (i := 12) (oi := ⟨_, _, _, _, _, _⟩) (v := ?_) rfl (by kernel_rfl) (by kernel_rfl) (by kernel_rfl) (fun _ _ _ h => h) (Or.inl ⟨by rfl, ?_⟩) (by assumption) ?_
          rotate_left
          · intro wS hSw
            go_simp; (try with_reducible rfl)
          (try simp only [Act.put])
          (try simp only [List.setIfInBounds_toArray])
          (try simp only [List.set_cons_succ])
          (try simp only [List.set_cons_zero])
          refine wpAnyH_done (by kernel_rfl) ?_ _
          (try simp only [Act.put])
          obtain ⟨q0, q1, q2, -, -, -⟩ := tri_cells N4
          go_wp2_with ((with_reducible refine wpList_stB 88 _ _ ?_); refine ⟨_, _, _, ⟨_, _, _, Tryd.sizeOf88, rfl, M4, st3 _ rfl r' p' 1⟩, ?_⟩; intro w9 M9 g9)
          go_roundw
          case rel => exact ⟨j + 1, d2, wv2, r', p', v + 1, by omega, by go_num, F4.st g9 M4, kz4.new g9 hq (Nat.le_refl _), M9, s6⟩
          case measure => simp [intOf]; omega
end Go.Proofs.YtejjneamngkmoaaDoor

namespace Go.Proofs.YtejjneamngkmoaaDoor
open Go.ChangeShapes Go.WideShapes Go.ChangeAt Go.RowKit

section
variable {H : Type} {enc : TypeId × Value → H} {P : Program} {w : World} {base : Nat} {spare : Nat → Bool} {held : Bool}
theorem trodAll_1 {t : TypeId} {args : Array Value} {ds : List (DataW H)} {ps : List MemPlace} (h : DataW.TrodAll enc P w base spare held [t] args.toList ds ps) :
    ∃ v d, args = #[v] ∧ ds = [d] ∧ DataW.Trod enc P w base spare held t v d ps := by
  obtain ⟨v, vs, d, ds', p, q, hargs, rfl, rfl, hd, hrest⟩ := trodAll_cons h
  obtain ⟨rfl, rfl, rfl⟩ := trodAll_nil hrest
  exact ⟨v, d, by cases args; simp_all, rfl, by simpa using hd⟩
theorem trodAll_3 {t t' t'' : TypeId} {args : Array Value} {ds : List (DataW H)} {ps : List MemPlace} (h : DataW.TrodAll enc P w base spare held [t, t', t''] args.toList ds ps) :
    ∃ v v' v'' d d' d'' p p' p'', args = #[v, v', v''] ∧ ds = [d, d', d''] ∧ ps = p ++ p' ++ p'' ∧ DataW.Trod enc P w base spare held t v d p ∧ DataW.Trod enc P w base spare held t' v' d' p' ∧ DataW.Trod enc P w base spare held t'' v'' d'' p'' := by
  obtain ⟨v, vs, d, ds', p, q, hargs, rfl, rfl, hd, hrest⟩ := trodAll_cons h
  obtain ⟨v', vs', d', ds'', p', q', rfl, rfl, rfl, hd', hrest'⟩ := trodAll_cons hrest
  obtain ⟨v'', vs'', d'', ds''', p'', q'', rfl, rfl, rfl, hd'', hrest''⟩ := trodAll_cons hrest'
  obtain ⟨rfl, rfl, rfl⟩ := trodAll_nil hrest''
  exact ⟨v, v', v'', d, d', d'', p, p', p'', by cases args; simp_all, rfl, by simp, hd, hd', hd''⟩
end
theorem add_no (b off k : Nat) : (⟨b, off, none⟩ : Addr).add k = ⟨b, off + k, none⟩ := by
  unfold Addr.add
  by_cases h : k = 0
  · simp [h]
  · simp [h]
theorem bal_of {H : Type} {enc : TypeId × Value → H} {W : World} {sp : Nat → Bool} {hd : Bool} {b0 fuel : Nat} {x y : Value} {r : DataW H × List MemPlace} (h : DataW.trod enc Tryd.prog W b0 sp hd fuel 86 [x, y] = some r) : ∃ s t : Int, x = .int .i64 s ∧ y = .int .i64 t := by
  obtain ⟨z0, z1, m, _, _, g0, g1⟩ := trod_struct2 Tryd.underlying86 h
  simp [cellsInt] at g0 g1
  obtain ⟨s, e0, _⟩ := DataW.trod_int Tryd.underlying3 g0
  obtain ⟨t, e1, _⟩ := DataW.trod_int Tryd.underlying3 g1
  simp at e0 e1
  exact ⟨s, t, e0, e1⟩
set_option maxRecDepth 100000 in
theorem open_bals {H : Type} {enc : TypeId × Value → H} {W : World} {base : Nat} {sp : Nat → Bool} {hd : Bool} {b0 : Nat} {v : Value} {d : DataW H} {p : List MemPlace}
    (hv : Value.okWide Tryd.prog W .any base 95 v) (h : DataW.Trod enc Tryd.prog W b0 sp hd 95 v d p) : ∃ (a : Option Addr) (l : List (Int × Int)) (cap : Nat), v = .slice a l.length cap ∧ Bals W a l := by
  obtain ⟨a0, len, cap, rfl⟩ := okWide_slice Tryd.underlying95 hv
  obtain ⟨fuel, hf⟩ := h
  rcases Go.Deep.open_slice Tryd.underlying95 hf with ⟨hcs, hx⟩ | ⟨a, len', cap', m, n, D, Pl, hcs, _, hl, hm, hmm, hx, hel⟩
  · simp [Value.cells] at hcs
    obtain ⟨rfl, rfl, rfl⟩ := hcs
    exact ⟨none, [], 0, rfl, ⟨fun j hj => by simp at hj⟩⟩
  · simp [Value.cells] at hcs
    obtain ⟨rfl, rfl, rfl⟩ := hcs
    have hlm : len ≤ m := by rw [hmm]; split <;> omega
    have hex : ∀ i, i < len → ∃ q : Int × Int, W.cell? (a.add (i * 2)) = some (.int .i64 q.1) ∧ W.cell? (a.add (i * 2 + 1)) = some (.int .i64 q.2) := by
      intro i hi
      obtain ⟨cs', hc, ht⟩ := hel i (by omega)
      rw [cellsBallot] at hc
      obtain ⟨_, hlen2, hat⟩ := World.cells?_some hc
      match cs', hlen2 with
      | [x, y], _ =>
        obtain ⟨s, t, rfl, rfl⟩ := bal_of ht
        refine ⟨(s, t), ?_, ?_⟩
        · have := hat 0 (by omega)
          rw [Go.Deep.add_add, Nat.add_zero] at this
          exact this
        · have := hat 1 (by omega)
          rw [Go.Deep.add_add] at this
          exact this
    obtain ⟨f, hf2⟩ := Go.Deep.choose_lt hex
    refine ⟨some a, (List.range len).map f, cap, by simp, ⟨fun j hj => ?_⟩⟩
    simp only [List.length_map, List.length_range] at hj
    obtain ⟨b, off, spot⟩ := a
    have hspot : spot = none := by
      have := World.cell?_spot (hf2 0 (by omega)).1
      simpa [Addr.add] using this
    subst hspot
    obtain ⟨h1, h2⟩ := hf2 j hj
    refine ⟨b, off, rfl, ?_, ?_⟩
    · rw [List.getElem_map, List.getElem_range]
      rw [add_no] at h1
      exact h1
    · rw [List.getElem_map, List.getElem_range]
      rw [add_no] at h2
      exact h2
end Go.Proofs.YtejjneamngkmoaaDoor

