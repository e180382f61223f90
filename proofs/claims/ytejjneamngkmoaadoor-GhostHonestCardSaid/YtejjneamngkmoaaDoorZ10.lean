/- Texts that the claim leans on, part 10: D53, D54, D55, Open, OB, OBB. -/
import Derived.Test.YtejjneamngkmoaaDoorZ1
import Derived.Test.YtejjneamngkmoaaDoorZ2
import Derived.Test.YtejjneamngkmoaaDoorZ3
import Derived.Test.YtejjneamngkmoaaDoorZ4
import Derived.Test.YtejjneamngkmoaaDoorZ5
import Derived.Test.YtejjneamngkmoaaDoorZ6
import Derived.Test.YtejjneamngkmoaaDoorZ7
import Derived.Test.YtejjneamngkmoaaDoorZ8
import Derived.Test.YtejjneamngkmoaaDoorZ9
import Derived.Test.YtejjneamngkmoaaDoorRows
import Derived.WalkKit
import Derived.WalkSpells
import Derived.WalkLawsBesides
import Derived.Handy
import Derived.Deep.QuietTactic
import Derived.BigQuiet
import Derived.Deep.DeepCutAuto
import Derived.Lib.Hide
import Derived.RegionTactic
import Derived.ChangeAlike
import Derived.Laws.ResultCell
import Derived.Outline
import Derived.ChangeSlices
import Derived.ProofKit
import Derived.Lib.SmallJoins
import Derived.Deep.Slices
import Derived.Laws.IdiomStrings
import Derived.Laws.BytesArg
import Derived.Laws.MakeOwn
import Derived.Lib.SliceRun
import Derived.Laws.BitsAllLaws
import Derived.Great.BuildSlice
import Derived.Great.FillDense
import Derived.Laws.Rows
import Derived.Deep.Quiet
import Derived.Deep.RegionHeld3
import Derived.OpenShut
import Derived.Laws.CopyOwn
import Derived.Laws.CopyRow
import Derived.Laws.NewBlocks
import Derived.Deep.RegionLaw
namespace Go.Proofs.YtejjneamngkmoaaDoor
open Go.RowKit

/-! What the examples come to. -/
theorem loads_fr {d : Dk} {reg : Int} {o : Vo} (h : Live d) (hr : reg = 1 ∨ reg = 2) (hf : Fr d 0 reg o) : loadsD d reg (verO o) (bodO o) = true ∧ (loadC d 0 reg).2.1 = bodO o := by
  have := hf.load h (by omega) hr
  unfold loadsD
  rw [this]
  simp
theorem loadsD_of {d : Dk} {reg v : Int} {b : List UInt8} (h : loadC d 0 reg = (v, b, 0)) : loadsD d reg v b = true := by
  unfold loadsD
  rw [h]
  simp
structure Ex (d1 d2 d3 : Dk) : Prop where
  l0 : loadC (newDk 156) 0 1 = (0, [], 0)
  s1 : storeC (newDk 156) 0 1 1 [7] = (d1, 0)
  l1 : loadC d1 0 1 = (1, [7], 0)
  w1 : d1.waits = []
  e2 : loseD d1 0 = (d2, 0)
  l2 : loadC d2 0 1 = (1, [7], 0)
  e3 : loseD d2 1 = (d3, 0)
  l3 : loadC d3 0 1 = (0, [], 70)
  l4 : loadC d3 0 3 = (0, [], 2)
  l5 : loadC d3 0 2 = (0, [], 0)
theorem ex_all : ∃ d1 d2 d3, Ex d1 d2 d3 := by
  have hr1 : (1 : Int) = 1 ∨ (1 : Int) = 2 := .inl rfl
  have hr2 : (2 : Int) = 1 ∨ (2 : Int) = 2 := .inr rfl
  have hp : (0 : Int) ≤ 0 ∧ (0 : Int) ≤ 6 := by decide
  have f0 := new_fr 0 hr1
  have g0 := new_fr 0 hr2
  obtain ⟨d1, hs, hL1, hl1, f1, ho1⟩ := store_fr (inc := 1) (body := [7]) new_live hp hr1 (by decide) (by decide) f0 (by decide) (by decide)
  have g1 : Fr d1 0 2 none := g0.same (ho1 2 (by decide) (by decide) (by decide)) (ho1 3 (by decide) (by decide) (by decide))
  obtain ⟨d2, e2, hL2, hl2, r2, ho2⟩ := lose_at hL1 (k := 0) (by decide)
  obtain ⟨d3, e3, hL3, hl3, r3, ho3⟩ := lose_at hL2 (k := 1) (by decide)
  have g3 : Fr d3 0 2 none := (g1.same (ho2 2 (by decide) (by decide)) (ho2 3 (by decide) (by decide))).same (ho3 2 (by decide) (by decide)) (ho3 3 (by decide) (by decide))
  have c2 : cop d2 0 1 0 = badR := cop_none (e := 50) (show readD d2 (secC 1 0) = _ from r2)
  have c2' : cop d2 0 1 1 = coR 0 1 1 (nextO none 1 [7]) := cop_fr hp hr1 (by decide) f1.ok ((show readD d2 (secC 1 1) = _ from ho2 1 (by decide) (by decide)).trans f1.r1)
  have c3 : cop d3 0 1 0 = badR := cop_none (e := 50) ((show readD d3 (secC 1 0) = _ from ho3 0 (by decide) (by decide)).trans r2)
  have c3' : cop d3 0 1 1 = badR := cop_none (e := 50) (show readD d3 (secC 1 1) = _ from r3)
  refine ⟨d1, d2, d3, ⟨f0.load new_live hp hr1, hs, f1.load hL1 hp hr1, hL1.w, e2, ?_, e3, load_none hL3 hp hr1 c3 c3', ?_, g3.load hL3 hp hr2⟩⟩
  · exact load_one hL2 hp hr1 (i := 1) (v := 1) (c := 1) (b := [7]) (by decide) c2' (.inl (by rw [c2]; decide))
  · have ho : openC d3 0 3 = 2 := by
      unfold openC
      rw [hL3.len]
      rfl
    unfold loadC
    rw [ho]
    rfl
end Go.Proofs.YtejjneamngkmoaaDoor

namespace Go.Proofs.YtejjneamngkmoaaDoor
open Go.RowKit

theorem sl_seven {w : World} {q : Nat} (h : w.heap[q]? = some (.cells #[.int .u8 7] 5 (0, 0))) : SlB w (some ⟨q, 0, none⟩) 1 [7] :=
  ⟨Row.of_block (cs := [.int .u8 7]) h 0 (fun i u hu => by rw [Nat.zero_add]; exact hu), Nat.le_refl _, by unfold maxLen; omega, fun e => by cases e⟩
theorem sl_nil (w : World) : SlB w none 0 [] := ⟨.inl rfl, Nat.le_refl _, by simp, fun _ => rfl⟩
theorem new156 {B : Nat} {w : World} (hB : B ≤ w.heap.size) : Calls Tryd.prog 14 #[.int .i64 156] w fun e w' => (∃ g gp, e = .returned (.tuple #[.pointer (some ⟨g, 0, none⟩), .int .i64 0]) ∧ DiskB B g gp (.slice none 0 0) (newDk 156) w') ∧ Below w.heap.size w w' := new_any 156 (by decide) (by decide) hB
set_option maxRecDepth 100000 in
set_option maxHeartbeats 2000000 in
theorem awake_any (w : World) : Calls Tryd.prog 22 #[] w fun e w' => e = .returned (.bool true) ∧ Below w.heap.size w w' := by
  obtain ⟨d1, d2, d3, E⟩ := ex_all
  obtain ⟨l0, s1, l1, w1w, e2, l2, e3, l3, l4, l5⟩ := E
  have HS1 := Lib.hid s1
  have HL0 := Lib.hid (loadsD_of l0)
  have HL1 := Lib.hid (loadsD_of l1)
  have HL2 := Lib.hid (loadsD_of l2)
  have HL5 := Lib.hid (loadsD_of l5)
  have b0 : (loadC (newDk 156) 0 1).2.1.length ≤ 1000000 := by rw [l0]; simp
  have b1 : (loadC d1 0 1).2.1.length ≤ 1000000 := by rw [l1]; simp
  have b2 : (loadC d2 0 1).2.1.length ≤ 1000000 := by rw [l2]; simp
  have b5 : (loadC d3 0 2).2.1.length ≤ 1000000 := by rw [l5]; simp
  have HE2 := Lib.hid e2
  have HE3 := Lib.hid e3
  have HL3 := Lib.hid l3
  have HL4 := Lib.hid l4
  have HW := Lib.hid w1w
  clear l0 s1 l1 w1w e2 l2 e3 l3 l4 l5
  go_enter Tryd.func22, Tryd.ntmps22
  go_wp2_with fail
  refine (new156 (Nat.le_refl w.heap.size)).mono ?_
  rintro e w1 ⟨⟨g, gp, rfl, D1⟩, hb1⟩
  go_wp2_with fail
  refine (loads_any D1 1 0 none 0 [] (sl_nil _) b0).mono ?_
  rintro e w2 ⟨rfl, hb2⟩
  rw [HL0.out]
  have D2 := D1.below hb2
  have k2 := (Kt.of hb1 (Nat.le_refl w.heap.size)).trans (Kt.of hb2 hb1.size)
  clear D1 hb1 hb2
  go_wp2_with fail
  have q3 := heap_alloc_new w2 (Obj.cells #[.int .u8 7] 5)
  have D3 := D2.below (blw w2 (Obj.cells #[.int .u8 7] 5))
  have k3 := k2.trans (Kt.of (blw w2 (Obj.cells #[.int .u8 7] 5)) k2.bl.size)
  generalize w2.alloc (Obj.cells #[.int .u8 7] 5) = w3 at *
  generalize w2.heap.size = q at *
  clear D2 k2
  have hst := cstore_any D3 k3.bl.size 0 1 1 (some ⟨q, 0, none⟩) 1 [7] (fun w' hk => sl_seven (hk.ty _ _ _ q3 (by decide) (by decide) (by decide))) (by decide) (by decide)
  rw [HS1.out] at hst
  refine hst.mono ?_
  rintro e w4 ⟨rfl, ⟨wv4, D4⟩, hk4⟩
  clear hst q3 D3
  have k4 := k3.trans hk4
  simp only at D4
  clear k3 hk4
  go_wp2_with fail
  have q5 := heap_alloc_new w4 (Obj.cells #[.int .u8 7] 5)
  have D5 := D4.below (blw w4 (Obj.cells #[.int .u8 7] 5))
  have k5 := k4.trans (Kt.of (blw w4 (Obj.cells #[.int .u8 7] 5)) k4.bl.size)
  generalize w4.alloc (Obj.cells #[.int .u8 7] 5) = w5 at *
  generalize w4.heap.size = q at *
  clear D4 k4
  refine (loads_any D5 1 1 (some ⟨q, 0, none⟩) 1 [7] (sl_seven q5) b1).mono ?_
  rintro e w6 ⟨rfl, hb6⟩
  rw [HL1.out]
  have D6 := D5.below hb6
  have k6 := k5.trans (Kt.of hb6 k5.bl.size)
  clear D5 k5 hb6 q5
  have hwt := waits_any D6
  rw [HW.out] at hwt
  go_wp2_with fail
  refine hwt.mono ?_
  rintro e w7 ⟨rfl, rfl⟩
  clear hwt
  have hlo := lose_any D6 k6.bl.size 0
  rw [HE2.out] at hlo
  go_wp2_with fail
  refine hlo.mono ?_
  rintro e w7 ⟨rfl, D7, hk7⟩
  (try simp only at D7)
  have k7 := k6.trans hk7
  clear hlo D6 k6 hk7
  go_wp2_with fail
  have q8 := heap_alloc_new w7 (Obj.cells #[.int .u8 7] 5)
  have D8 := D7.below (blw w7 (Obj.cells #[.int .u8 7] 5))
  have k8 := k7.trans (Kt.of (blw w7 (Obj.cells #[.int .u8 7] 5)) k7.bl.size)
  generalize w7.alloc (Obj.cells #[.int .u8 7] 5) = w8 at *
  generalize w7.heap.size = q at *
  clear D7 k7
  refine (loads_any D8 1 1 (some ⟨q, 0, none⟩) 1 [7] (sl_seven q8) b2).mono ?_
  rintro e w9 ⟨rfl, hb9⟩
  rw [HL2.out]
  have D9 := D8.below hb9
  have k9 := k8.trans (Kt.of hb9 k8.bl.size)
  clear D8 k8 hb9 q8
  have hlo := lose_any D9 k9.bl.size 1
  rw [HE3.out] at hlo
  go_wp2_with fail
  refine hlo.mono ?_
  rintro e w10 ⟨rfl, D10, hk10⟩
  (try simp only at D10)
  have k10 := k9.trans hk10
  clear hlo D9 k9 hk10
  have hld := cload_any D10 0 1
  rw [HL3.out] at hld
  go_wp2_with fail
  refine hld.mono ?_
  rintro e w11 ⟨⟨a11, c11, rfl, _⟩, hb11⟩
  have D11 := D10.below hb11
  have k11 := k10.trans (Kt.of hb11 k10.bl.size)
  clear hld D10 k10 hb11
  have hld := cload_any D11 0 3
  rw [HL4.out] at hld
  go_wp2_with fail
  refine hld.mono ?_
  rintro e w12 ⟨⟨a12, c12, rfl, _⟩, hb12⟩
  have D12 := D11.below hb12
  have k12 := k11.trans (Kt.of hb12 k11.bl.size)
  clear hld D11 k11 hb12
  go_wp2_with fail
  refine (loads_any D12 2 0 none 0 [] (sl_nil _) b5).mono ?_
  rintro e w13 ⟨rfl, hb13⟩
  rw [HL5.out]
  have k13 := k12.trans (Kt.of hb13 k12.bl.size)
  go_wp2
  go_ret
  exact ⟨rfl, k13.bl⟩
end Go.Proofs.YtejjneamngkmoaaDoor

namespace Go.Proofs.YtejjneamngkmoaaDoor
open Go.RowKit

theorem parts_kt {w w' : World} {a : Option Addr} {ls : List Part} (h : Parts w a ls) (hb : Below w.heap.size w w') : Parts w' a ls := ⟨h.row.below0 hb, fun x hx => (h.each x hx).below hb⟩
theorem cop_other {d : Dk} {reg v c : Int} {b : List UInt8} {i : Nat} {e : Int} (hr : reg = 1 ∨ reg = 2) (hi : i < 2) (ho : okO (some (v, c, b))) (h : readD d (secC reg i) = (fraC 0 reg v c b i, e)) : cop d 1 reg i = badR := by
  obtain ⟨h1, h2, h3, h4, h5⟩ := ho
  have hm := may_cell2 (rep := 0) (by omega) hr hi (show 0 ≤ v by omega) h2 h3 h4
  have ho := open_seal (t := ⟨0, reg, i, v, c⟩) (n := 64) hm (by decide) (show b.length ≤ roomN 64 from h5)
  unfold cop mineF
  rw [h]
  rw [show openF (fraC 0 reg v c b i) = (1, ⟨0, reg, i, v, c⟩, b) from ho]
  simp only
  rw [if_pos ⟨trivial, .inl (by decide)⟩]
  rfl
theorem load_other {d : Dk} {o : Vo} (h : Live d) (hf : Fr d 0 1 o) : loadC d 1 1 = (0, [], if o.isSome = true then 70 else 0) := by
  have hr : (1 : Int) = 1 ∨ (1 : Int) = 2 := .inl rfl
  match o, hf with
  | none, hf =>
    have c0 : cop d 1 1 0 = coR 1 1 0 none := cop_zero hf.r0
    have c1 : cop d 1 1 1 = coR 1 1 1 none := cop_zero hf.r1
    rw [load_live h (by omega) hr, c0, c1]
    rfl
  | some (v, c, b), hf =>
    have c0 := cop_other hr (i := 0) (by decide) hf.ok hf.r0
    have c1 := cop_other hr (i := 1) (by decide) hf.ok hf.r1
    rw [load_none h (by omega) hr c0 c1]
    rfl
theorem stO_last {ls : List Part} {m : Nat} (h : ls.length = m + 1) : stO (bodsP ls) = some ((ls.length : Int), (ls.length : Int), (ls[m]).2.2) := by
  have hl : (bodsP ls).length = ls.length := by simp [bodsP]
  unfold stO
  have : (bodsP ls).getLast? = some (ls[m]).2.2 := by
    have e : ls.length - 1 = m := by omega
    rw [List.getLast?_eq_getElem?, hl, e]
    simp [bodsP, show m < ls.length by omega]
  rw [this, hl]
theorem stO_nil {ls : List Part} (h : ls.length = 0) : stO (bodsP ls) = none := by
  rw [List.eq_nil_of_length_eq_zero h]
  rfl
set_option maxRecDepth 100000 in
set_option maxHeartbeats 2000000 in
theorem apart_law (a b : Option Addr) (c k : Nat) (ls ms : List Part) (w : World) (hl : Parts w a ls) (hm : Parts w b ms) : Calls Tryd.prog 5 #[.slice a ls.length c, .slice b ms.length k] w fun e w' => e = .returned (.bool true) ∧ Below w.heap.size w w' := by
  cases hg1 : grB ls
  case true =>
    have HG1 := Lib.hid hg1
    clear hg1
    go_enter Tryd.func5, Tryd.ntmps5
    go_wp2_with (first
      | (go_at_call 22; refine (awake_any _).mono ?_; rintro e w1 ⟨rfl, hb1⟩)
      | (go_at_call 23; refine (great_any a c ls _ (parts_kt hl hb1)).mono ?_; rintro e w2 ⟨rfl, rfl⟩; rw [HG1.out]))
    go_ret
    exact ⟨rfl, hb1⟩
  case false =>
  cases hg2 : grB ms
  case true =>
    have HG1 := Lib.hid hg1
    have HG2 := Lib.hid hg2
    clear hg1 hg2
    go_enter Tryd.func5, Tryd.ntmps5
    go_wp2_with fail
    refine (awake_any _).mono ?_
    rintro e w1 ⟨rfl, hb1⟩
    go_wp2_with fail
    refine (great_any a c ls _ (parts_kt hl hb1)).mono ?_
    rintro e w2 ⟨rfl, rfl⟩
    rw [HG1.out]
    go_wp2_with fail
    refine (great_any b k ms _ (parts_kt hm hb1)).mono ?_
    rintro e w2 ⟨rfl, rfl⟩
    rw [HG2.out]
    go_wp2
    go_ret
    exact ⟨rfl, hb1⟩
  case false =>
    obtain ⟨hl20, hl43⟩ := grB_no hg1
    obtain ⟨hm20, hm43⟩ := grB_no hg2
    have HG1 := Lib.hid hg1
    have HG2 := Lib.hid hg2
    clear hg1 hg2
    have HL43 := Lib.hid hl43
    have HM43 := Lib.hid hm43
    clear hl43 hm43
    go_enter Tryd.func5, Tryd.ntmps5
    go_wp2_with fail
    refine (awake_any _).mono ?_
    rintro e w1 ⟨rfl, hb1⟩
    go_wp2_with fail
    refine (great_any a c ls _ (parts_kt hl hb1)).mono ?_
    rintro e w2 ⟨rfl, rfl⟩
    rw [HG1.out]
    go_wp2_with fail
    refine (great_any b k ms _ (parts_kt hm hb1)).mono ?_
    rintro e w2 ⟨rfl, rfl⟩
    rw [HG2.out]
    go_wp2_with fail
    refine (new156 (B := w.heap.size) hb1.size).mono ?_
    rintro e w3 ⟨⟨g, gp, rfl, D3⟩, hb3⟩
    have k3 := (Kt.of hb1 (Nat.le_refl w.heap.size)).trans (Kt.of hb3 hb1.size)
    clear hb1 hb3
    go_wp2_with fail
    refine (stored_any D3 k3.bl.size 1 (.inl rfl) a c ls (fun w' hk => parts_kt hl (k3.trans hk).bl) hl20 HL43.out new_live (by decide) (new_fr 0 (.inl rfl))).mono ?_
    rintro e w4 ⟨rfl, d4, wv4, D4, hk4, A4⟩
    have k4 := k3.trans hk4
    clear D3 k3 hk4
    have hg4 : Fr d4 0 2 none := (new_fr 0 (.inr rfl)).same (A4.oth 2 (by decide) (by decide) (by decide)) (A4.oth 3 (by decide) (by decide) (by decide))
    go_wp2_with fail
    refine (stored_any D4 k4.bl.size 2 (.inr rfl) b k ms (fun w' hk => parts_kt hm (k4.trans hk).bl) hm20 HM43.out A4.live (by rw [A4.left]; decide) hg4).mono ?_
    rintro e w5 ⟨rfl, d5, wv5, D5, hk5, A5⟩
    have k5 := k4.trans hk5
    clear D4 k4 hk5 hg4
    have hf5 : Fr d5 0 1 (stO (bodsP ls)) := A4.fr.same (A5.oth 0 (by decide) (by decide) (by decide)) (A5.oth 1 (by decide) (by decide) (by decide))
    have hL5 := A5.live
    have hlo := load_other hL5 hf5
    obtain ⟨hls, hbd⟩ := loads_fr hL5 (.inl rfl) hf5
    clear A4 A5 HG1 HG2 HM43
    by_cases h0 : ls.length = 0
    case pos =>
      rw [stO_nil h0] at hlo hls hbd
      have HLO := Lib.hid hlo
      have HLS := Lib.hid (show loadsD d5 1 (ls.length : Int) [] = true by rw [h0]; exact hls)
      have hbl : (loadC d5 0 1).2.1.length ≤ 1000000 := by rw [hbd]; simp [bodO]
      have hI : ¬ (0 : Int) < ls.length := by omega
      clear hlo hls hbd hf5 h0
      have hld := cload_any D5 1 1
      rw [HLO.out] at hld
      go_wp2_with fail
      refine hld.mono ?_
      rintro e w6 ⟨⟨a6, c6, rfl, _⟩, hb6⟩
      have D6 := D5.below hb6
      have k6 := k5.trans (Kt.of hb6 k5.bl.size)
      clear hld
      go_wp2_with fail
      refine (loads_any D6 1 (ls.length : Int) none 0 [] ((fun w' _ => sl_nil w') w6 (k6.bl)) hbl).mono ?_
      rintro e w7 ⟨rfl, hb7⟩
      rw [HLS.out]
      have k7 := k6.trans (Kt.of hb7 k6.bl.size)
      go_wp2
      go_ret
      exact ⟨rfl, k7.bl⟩
    case neg =>
      obtain ⟨m, hm1⟩ : ∃ m, ls.length = m + 1 := ⟨ls.length - 1, by omega⟩
      have hmlt : m < ls.length := by omega
      rw [stO_last hm1] at hlo hls hbd
      obtain ⟨b1, o1, rfl⟩ := hl.addr (by omega)
      have hcell := fun w' (hb : Below w.heap.size w w') => (parts_kt hl hb).cell hmlt
      have hx := fun w' (hb : Below w.heap.size w w') => (parts_kt hl hb).each _ (List.getElem_mem hmlt)
      have hx43 := HL43.out _ (List.getElem_mem hmlt)
      generalize ls[m] = x at *
      obtain ⟨xa, xc, xl⟩ := x
      simp only at hls hbd hx hx43 hlo
      unfold partV at hcell
      simp only at hcell
      have HLO := Lib.hid hlo
      have HLS := Lib.hid (show loadsD d5 1 (ls.length : Int) xl = true from hls)
      have hbl : (loadC d5 0 1).2.1.length ≤ 1000000 := by rw [hbd]; simp only [bodO]; omega
      have hI : (0 : Int) < ls.length := by omega
      have hc5 := hcell _ k5.bl
      have HX := Lib.hid hx
      have hsub : (ls.length : Int) - 1 = (m : Int) := by omega
      have HM := Lib.hid hm1
      clear hlo hls hbd hf5 h0 hx hcell hm1
      have hld := cload_any D5 1 1
      rw [HLO.out] at hld
      go_wp2_with fail
      refine hld.mono ?_
      rintro e w6 ⟨⟨a6, c6, rfl, _⟩, hb6⟩
      have D6 := D5.below hb6
      have k6 := k5.trans (Kt.of hb6 k5.bl.size)
      clear hld
      go_wp2_with fail
      refine (loads_any D6 1 (ls.length : Int) xa xc xl (HX.out w6 (k6.bl)) hbl).mono ?_
      rintro e w7 ⟨rfl, hb7⟩
      rw [HLS.out]
      have k7 := k6.trans (Kt.of hb7 k6.bl.size)
      go_wp2
      go_ret
      exact ⟨rfl, k7.bl⟩
end Go.Proofs.YtejjneamngkmoaaDoor

namespace Go.Proofs.YtejjneamngkmoaaDoor
open Go.ChangeShapes Go.WideShapes Go.ChangeAt Go.RowKit
variable {H : Type} {enc : TypeId × Value → H} {P : Program}

theorem open_row_ints {W : World} {base : Nat} {sp : Nat → Bool} {hd : Bool} {b0 : Nat} {t e : TypeId} {k : IntKind} {v : Value} {d : DataW H} {p : List MemPlace}
    (ht : P.underlying t = some (.slice e)) (he : P.underlying e = some (.int k)) (hc : P.cellsOf e = 1) (hv : Value.okWide P W .any base t v) (h : DataW.Trod enc P W b0 sp hd t v d p) :
    ∃ (a : Option Addr) (l : List Int) (cap : Nat), v = .slice a l.length cap ∧ Row W a (l.map (Value.int k)) ∧ l.length ≤ cap ∧ cap ≤ maxLen ∧ ∀ n ∈ l, (Lit.int k n).wf = true := by
  obtain ⟨a0, len, cap, rfl⟩ := okWide_slice ht hv
  obtain ⟨fuel, hf⟩ := h
  rcases open_ints ht he hc hf with ⟨hcs, hx⟩ | ⟨a, len', cap', zs, hcs, _, hl, hm, hz, hx, hcell, hwz⟩
  · simp [Value.cells] at hcs
    obtain ⟨rfl, rfl, rfl⟩ := hcs
    exact ⟨none, [], 0, rfl, .inl rfl, Nat.le_refl _, by simp, by simp⟩
  · simp [Value.cells] at hcs
    obtain ⟨rfl, rfl, rfl⟩ := hcs
    have hlen : len ≤ zs.length := by rw [hz]; split <;> omega
    refine ⟨some a, zs.take len, cap, by simp; omega, ?_, by simp; omega, hm, fun n hn => hwz n (List.mem_of_mem_take hn)⟩
    by_cases h0 : len = 0
    · left; simp [h0]
    · right
      obtain ⟨b, off, rfl, hc'⟩ := ints_at hcell (by omega)
      refine ⟨b, off, rfl, fun i u hu => ?_⟩
      have hi := (List.getElem?_eq_some_iff.1 hu).1
      simp only [List.length_map, List.length_take] at hi
      rw [hc' i (by omega)]
      simp only [List.getElem?_map, List.getElem?_take_of_lt (show i < len by omega), Option.map_eq_some_iff] at hu
      obtain ⟨z, hz2, rfl⟩ := hu
      rw [List.getD_eq_getElem?_getD, hz2]
      rfl
end Go.Proofs.YtejjneamngkmoaaDoor

namespace Go.Proofs.YtejjneamngkmoaaDoor
open Go.ChangeShapes Go.WideShapes Go.ChangeAt Go.RowKit

theorem cellsU8 : Tryd.prog.cellsOf 5 = 1 := by kernel_rfl
set_option maxRecDepth 100000 in
theorem open_bytes {H : Type} {enc : TypeId × Value → H} {W : World} {base : Nat} {sp : Nat → Bool} {hd : Bool} {b0 : Nat} {v : Value} {d : DataW H} {p : List MemPlace}
    (hv : Value.okWide Tryd.prog W .any base 38 v) (h : DataW.Trod enc Tryd.prog W b0 sp hd 38 v d p) : ∃ (a : Option Addr) (l : List UInt8) (cap : Nat), v = .slice a l.length cap ∧ SlB W a cap l := by
  obtain ⟨a, l, cap, rfl, hr, hl, hc, hw⟩ := open_row_ints Tryd.underlying38 Tryd.underlying5 cellsU8 hv h
  have hnil : a = none → cap = 0 := by
    rintro rfl
    obtain ⟨fuel, hf⟩ := h
    rcases open_ints Tryd.underlying38 Tryd.underlying5 cellsU8 hf with ⟨hcs, hx⟩ | ⟨a, len', cap', zs, hcs, _⟩
    · simp [Value.cells] at hcs
      exact hcs.2
    · simp [Value.cells] at hcs
  have hb : ∀ n ∈ l, 0 ≤ n ∧ n < 256 := fun n hn => by
    have h1 := hw n hn
    have m0 : IntKind.u8.min = 0 := by decide
    have m1 : IntKind.u8.max = 255 := by decide
    replace h1 : (decide (IntKind.u8.min ≤ n) && decide (n ≤ IntKind.u8.max)) = true := h1
    rw [m0, m1, Bool.and_eq_true, decide_eq_true_eq, decide_eq_true_eq] at h1
    omega
  refine ⟨a, l.map (fun n => UInt8.ofNat n.toNat), cap, by simp, ?_, by simpa using hl, hc, hnil⟩
  have e : bys (l.map (fun n => UInt8.ofNat n.toNat)) = l.map (Value.int .u8) := by
    unfold bys
    rw [List.map_map]
    refine List.map_congr_left fun n hn => ?_
    have := hb n hn
    simp only [Function.comp, byv]
    rw [show ((UInt8.ofNat n.toNat).toNat : Int) = n by rw [UInt8.toNat_ofNat']; omega]
  rw [e]
  exact hr

theorem open_u8 {H : Type} {enc : TypeId × Value → H} {W : World} {sp : Nat → Bool} {hd : Bool} {b0 : Nat} {v : Value} {d : DataW H} {p : List MemPlace} (hv : ∃ x, v = .int .u8 x)
    (h : DataW.Trod enc Tryd.prog W b0 sp hd 5 v d p) : ∃ x : UInt8, v = .int .u8 x.toNat := by
  obtain ⟨y, rfl⟩ := hv
  obtain ⟨fuel, hf⟩ := h
  obtain ⟨n, q, hw, h1⟩ := DataW.trod_int Tryd.underlying5 hf
  simp [Value.cells] at q
  subst q
  have m0 : IntKind.u8.min = 0 := by decide
  have m1 : IntKind.u8.max = 255 := by decide
  replace h1 : (decide (IntKind.u8.min ≤ y) && decide (y ≤ IntKind.u8.max)) = true := h1
  rw [m0, m1, Bool.and_eq_true, decide_eq_true_eq, decide_eq_true_eq] at h1
  exact ⟨UInt8.ofNat y.toNat, by rw [show ((UInt8.ofNat y.toNat).toNat : Int) = y by rw [UInt8.toNat_ofNat']; omega]⟩
end Go.Proofs.YtejjneamngkmoaaDoor

namespace Go.Proofs.YtejjneamngkmoaaDoor
open Go.ChangeShapes Go.WideShapes Go.ChangeAt Go.RowKit

section
variable {H : Type} {enc : TypeId × Value → H} {P : Program} {w : World} {base : Nat} {spare : Nat → Bool} {held : Bool}
theorem trodAll_2 {t t' : TypeId} {args : Array Value} {ds : List (DataW H)} {ps : List MemPlace} (h : DataW.TrodAll enc P w base spare held [t, t'] args.toList ds ps) :
    ∃ v v' d d' p p', args = #[v, v'] ∧ ds = [d, d'] ∧ ps = p ++ p' ∧ DataW.Trod enc P w base spare held t v d p ∧ DataW.Trod enc P w base spare held t' v' d' p' := by
  obtain ⟨v, vs, d, ds', p, q, hargs, rfl, rfl, hd, hrest⟩ := trodAll_cons h
  obtain ⟨v', vs', d', ds'', p', q', rfl, rfl, rfl, hd', hrest'⟩ := trodAll_cons hrest
  obtain ⟨rfl, rfl, rfl⟩ := trodAll_nil hrest'
  exact ⟨v, v', d, d', p, p', by cases args; simp_all, rfl, by simp, hd, hd'⟩
theorem trodAll_5 {t t' t'' t3 t4 : TypeId} {args : Array Value} {ds : List (DataW H)} {ps : List MemPlace} (h : DataW.TrodAll enc P w base spare held [t, t', t'', t3, t4] args.toList ds ps) :
    ∃ v v' v'' v3 v4 d d' d'' d3 d4 p p' p'' p3 p4, args = #[v, v', v'', v3, v4] ∧ ds = [d, d', d'', d3, d4] ∧ ps = p ++ p' ++ p'' ++ p3 ++ p4 ∧ DataW.Trod enc P w base spare held t v d p ∧ DataW.Trod enc P w base spare held t' v' d' p' ∧ DataW.Trod enc P w base spare held t'' v'' d'' p'' ∧ DataW.Trod enc P w base spare held t3 v3 d3 p3 ∧ DataW.Trod enc P w base spare held t4 v4 d4 p4 := by
  obtain ⟨v, vs, d, ds', p, q, hargs, rfl, rfl, hd, hrest⟩ := trodAll_cons h
  obtain ⟨v', vs', d', ds'', p', q', rfl, rfl, rfl, hd', hrest'⟩ := trodAll_cons hrest
  obtain ⟨v'', vs'', d'', ds''', p'', q'', rfl, rfl, rfl, hd'', hrest''⟩ := trodAll_cons hrest'
  obtain ⟨v3, vs3, d3, ds3, p3, q3, rfl, rfl, rfl, hd3, hrest3⟩ := trodAll_cons hrest''
  obtain ⟨v4, vs4, d4, ds4, p4, q4, rfl, rfl, rfl, hd4, hrest4⟩ := trodAll_cons hrest3
  obtain ⟨rfl, rfl, rfl⟩ := trodAll_nil hrest4
  exact ⟨v, v', v'', v3, v4, d, d', d'', d3, d4, p, p', p'', p3, p4, by cases args; simp_all, rfl, by simp, hd, hd', hd'', hd3, hd4⟩
end
set_option maxRecDepth 100000 in
theorem bytes_of {H : Type} {enc : TypeId × Value → H} {W : World} {b0 : Nat} {sp : Nat → Bool} {hd : Bool} {fuel : Nat} {v : Value} {x : DataW H × List MemPlace} (h : DataW.trod enc Tryd.prog W b0 sp hd fuel 38 [v] = some x) :
    ∃ (a : Option Addr) (cap : Nat) (l : List UInt8), v = .slice a l.length cap ∧ SlB W a cap l := by
  rcases open_ints Tryd.underlying38 Tryd.underlying5 cellsU8 h with ⟨hcs, hx⟩ | ⟨a, len, cap, zs, hcs, _, hl, hm, hz, hx, hcell, hwz⟩
  · simp only [List.cons.injEq, and_true] at hcs
    subst hcs
    exact ⟨none, 0, [], rfl, ⟨.inl rfl, Nat.le_refl _, by simp, fun _ => rfl⟩⟩
  · simp only [List.cons.injEq, and_true] at hcs
    subst hcs
    have hlen : len ≤ zs.length := by rw [hz]; split <;> omega
    have hb : ∀ n ∈ zs, 0 ≤ n ∧ n < 256 := fun n hn => by
      have h1 := hwz n hn
      have m0 : IntKind.u8.min = 0 := by decide
      have m1 : IntKind.u8.max = 255 := by decide
      replace h1 : (decide (IntKind.u8.min ≤ n) && decide (n ≤ IntKind.u8.max)) = true := h1
      rw [m0, m1, Bool.and_eq_true, decide_eq_true_eq, decide_eq_true_eq] at h1
      omega
    refine ⟨some a, cap, (zs.take len).map (fun n => UInt8.ofNat n.toNat), by simp; omega, ⟨?_, by simp; omega, hm, fun e => by cases e⟩⟩
    by_cases h0 : len = 0
    · left; simp [h0, bys]
    · right
      obtain ⟨b, off, rfl, hc'⟩ := ints_at hcell (by omega)
      refine ⟨b, off, rfl, fun i u hu => ?_⟩
      have hi := (List.getElem?_eq_some_iff.1 hu).1
      simp only [bys_len, List.length_map, List.length_take] at hi
      rw [hc' i (by omega)]
      unfold bys at hu
      simp only [List.getElem?_map, List.getElem?_take_of_lt (show i < len by omega), Option.map_eq_some_iff] at hu
      obtain ⟨y, ⟨z, hz2, rfl⟩, rfl⟩ := hu
      rw [List.getD_eq_getElem?_getD, hz2]
      have := hb z (List.mem_of_getElem? hz2)
      unfold byv
      rw [show ((UInt8.ofNat z.toNat).toNat : Int) = z by rw [UInt8.toNat_ofNat']; omega]
      rfl
theorem cellsSl : Tryd.prog.cellsOf 38 = 1 := by kernel_rfl
set_option maxRecDepth 100000 in
theorem open_parts {H : Type} {enc : TypeId × Value → H} {W : World} {base : Nat} {sp : Nat → Bool} {hd : Bool} {b0 : Nat} {v : Value} {d : DataW H} {p : List MemPlace}
    (hv : Value.okWide Tryd.prog W .any base 54 v) (h : DataW.Trod enc Tryd.prog W b0 sp hd 54 v d p) : ∃ (a : Option Addr) (ls : List Part) (cap : Nat), v = .slice a ls.length cap ∧ Parts W a ls := by
  obtain ⟨a0, len, cap, rfl⟩ := okWide_slice Tryd.underlying54 hv
  obtain ⟨fuel, hf⟩ := h
  rcases Go.Deep.open_slice1 Tryd.underlying54 cellsSl hf with ⟨hcs, hx⟩ | ⟨a, len', cap', m, n, V, D, Pl, hcs, _, hl, hm, hmm, hx, hel⟩
  · simp [Value.cells] at hcs
    obtain ⟨rfl, rfl, rfl⟩ := hcs
    exact ⟨none, [], 0, rfl, ⟨.inl rfl, fun x hx => by cases hx⟩⟩
  · simp [Value.cells] at hcs
    obtain ⟨rfl, rfl, rfl⟩ := hcs
    have hlm : len ≤ m := by rw [hmm]; split <;> omega
    have hex : ∀ i, i < len → ∃ y : Part, W.cell? (a.add i) = some (partV y) ∧ SlB W y.1 y.2.1 y.2.2 := by
      intro i hi
      obtain ⟨hc, ht⟩ := hel i (by omega)
      obtain ⟨ya, yc, yl, e, hs⟩ := bytes_of ht
      exact ⟨(ya, yc, yl), by rw [hc, e]; rfl, hs⟩
    have : Inhabited Part := ⟨(none, 0, [])⟩
    obtain ⟨f, hf2⟩ := Go.Deep.choose_lt hex
    refine ⟨some a, (List.range len).map f, cap, by simp, ⟨?_, fun x hx => ?_⟩⟩
    · by_cases h0 : len = 0
      · left
        subst h0
        rfl
      · right
        obtain ⟨b, off, spot⟩ := a
        have hspot : spot = none := by
          have := World.cell?_spot (hf2 0 (by omega)).1
          simpa [Addr.add] using this
        subst hspot
        refine ⟨b, off, rfl, fun i u hu => ?_⟩
        have hi := (List.getElem?_eq_some_iff.1 hu).1
        simp only [List.length_map, List.length_range] at hi
        have := (hf2 i hi).1
        rw [addr_add] at this
        rw [this]
        simp only [List.map_map, List.getElem?_map, List.getElem?_range hi, Option.map_some, Function.comp] at hu
        exact hu
    · simp only [List.mem_map, List.mem_range] at hx
      obtain ⟨i, hi, rfl⟩ := hx
      exact (hf2 i hi).2
end Go.Proofs.YtejjneamngkmoaaDoor

