/- Texts that the claim leans on, part 14: DP, S19, S20, Open, OB, OBB, OT. -/
import Derived.Test.YthfolocjkpiljaaDoorZ1
import Derived.Test.YthfolocjkpiljaaDoorZ2
import Derived.Test.YthfolocjkpiljaaDoorZ3
import Derived.Test.YthfolocjkpiljaaDoorZ4
import Derived.Test.YthfolocjkpiljaaDoorZ5
import Derived.Test.YthfolocjkpiljaaDoorZ6
import Derived.Test.YthfolocjkpiljaaDoorZ7
import Derived.Test.YthfolocjkpiljaaDoorZ8
import Derived.Test.YthfolocjkpiljaaDoorZ9
import Derived.Test.YthfolocjkpiljaaDoorZ10
import Derived.Test.YthfolocjkpiljaaDoorZ11
import Derived.Test.YthfolocjkpiljaaDoorZ12
import Derived.Test.YthfolocjkpiljaaDoorZ13
import Derived.Test.YthfolocjkpiljaaDoorRows
import Derived.WalkKit
import Derived.WalkSpells
import Derived.WalkLawsBesides
import Derived.Handy
import Derived.Deep.QuietTactic
import Derived.BigQuiet
import Derived.Deep.DeepCutAuto
import Derived.Lib.Hide
import Derived.RegionTactic
import Derived.ChangeAlike
import Derived.Laws.ResultCell
import Derived.Outline
import Derived.IntWalk
import Derived.ChangeSlices
import Derived.ProofKit
import Derived.Lib.SmallJoins
import Derived.Deep.Slices
import Derived.Shelf.Abstract
import Derived.Shelf.RegionOpen
import Derived.OwnWalkIn
import Derived.TacticsInMore
import Derived.LoopNIn
import Derived.LoopIn
import Derived.Maps.AppendAt
import Derived.Lib.SliceRun
import Derived.Laws.IdiomStrings
import Derived.Laws.BytesArg
import Derived.Carry
import Derived.Maps.Own
import Derived.Maps.Keyed
import Derived.RangeFuncNested
import Derived.RangeFuncBound
import Derived.RangeFuncCalls
import Derived.RangeFuncLeaves
import Derived.RangeFuncBox
import Derived.RangeFuncRecord
import Derived.OrdersIn
import Derived.OrdersHeld
import Derived.Laws.MakeOwn
import Derived.Laws.BitsAllLaws
import Derived.Great.BuildSlice
import Derived.Great.FillDense
import Derived.Laws.Rows
import Derived.Deep.Quiet
import Derived.Deep.RegionHeld3
import Derived.OpenShut
import Derived.Laws.CopyOwn
import Derived.Laws.CopyRow
import Derived.Laws.NewBlocks
import Derived.Deep.RegionLaw
namespace Go.Proofs.YthfolocjkpiljaaDoor
open Go.RowKit

theorem Parts.cell {w : World} {b off : Nat} {ls : List Part} (h : Parts w (some ⟨b, off, none⟩) ls) {j : Nat} (hj : j < ls.length) : w.cell? ⟨b, off + j, none⟩ = some (partV ls[j]) := by
  obtain ⟨b', off', e, hc⟩ := h.row.at (k := j) (by simpa using hj)
  cases e
  exact hc j _ (by simp [hj])
theorem Parts.addr {w : World} {a : Option Addr} {ls : List Part} (h : Parts w a ls) (hl : 0 < ls.length) : ∃ b off, a = some ⟨b, off, none⟩ := by
  obtain ⟨b, off, e, _⟩ := h.row.at (k := 0) (by simpa using hl)
  exact ⟨b, off, e⟩
theorem parts_kt {w w' : World} {a : Option Addr} {ls : List Part} (h : Parts w a ls) (hb : Below w.heap.size w w') : Parts w' a ls := ⟨h.row.below0 hb, fun x hx => (h.each x hx).below hb⟩
theorem sl_seven {w : World} {q : Nat} (h : w.heap[q]? = some (.cells #[.int .u8 7] 5 (0, 0))) : SlB w (some ⟨q, 0, none⟩) 1 [7] :=
  ⟨Row.of_block (cs := [.int .u8 7]) h 0 (fun i u hu => by rw [Nat.zero_add]; exact hu), Nat.le_refl _, by unfold maxLen; omega, fun e => by cases e⟩
theorem sl_nil (w : World) : SlB w none 0 [] := ⟨.inl rfl, Nat.le_refl _, by simp, fun _ => rfl⟩
theorem new156 {B : Nat} {w : World} (hB : B ≤ w.heap.size) : Calls Tryd.prog 7 #[.int .i64 156] w fun e w' => (∃ g gp, e = .returned (.tuple #[.pointer (some ⟨g, 0, none⟩), .int .i64 0]) ∧ DiskB B g gp (.slice none 0 0) (newDk 156) w') ∧ Below w.heap.size w w' := new_any 156 (by decide) (by decide) hB
end Go.Proofs.YthfolocjkpiljaaDoor

namespace Go.Proofs.YthfolocjkpiljaaDoor
open Go.RowKit

theorem open_new : openS (newDk 156) 2 1 = (newDk 156, ⟨0, 0, 0, 2, 1⟩, 0) := by
  have hh0 := holds_new (rep := 2) (inc := 1) (by decide) (by decide)
  have hL := hh0.live
  have h1 := hh0.fr.load hL (by decide) (.inr rfl)
  have h2 := heal_same hL (by decide) (.inr rfl) hh0.fr
  unfold openS
  simp only
  rw [if_neg (by simp [newDk]), h1, h2]
  simp [verO]
def z81 : Array Value := (bys (List.replicate 81 0)).toArray
def y81 : Array Value := (bys b81).toArray
theorem y81_st : 80 + 1 ≤ z81.size ∧ (Value.int .u8 7).cells.size = 1 ∧ (∀ u ∈ (Value.int .u8 7).cells.toList, u.oneCell' = true) ∧ (z81.toList.take 80 ++ (Value.int .u8 7).cells.toList ++ z81.toList.drop (80 + 1)).toArray = y81 := by
  refine ⟨by simp [z81, bys_len], rfl, by simp [Value.cells, Value.oneCell'], ?_⟩
  unfold z81 y81 b81
  rw [show (Value.int .u8 7).cells.toList = bys [7] from rfl, bys_app]
  unfold bys
  rw [← List.map_take, ← List.map_drop]
  simp
theorem y81_slb {w : World} {q : Nat} (h : w.heap[q]? = some (.cells y81 5 (0, 0))) : SlB w (some ⟨q, 0, none⟩) 81 b81 :=
  ⟨Row.of_block (cs := bys b81) h 0 (fun i u hu => by rw [Nat.zero_add]; exact hu), by rw [b81_len]; exact Nat.le_refl _, by unfold maxLen; omega, fun e => by cases e⟩
def sh8 : Sh := ⟨8, 0, 2, 2, 1⟩
/-- What the chapter's example comes to. -/
theorem ex_snap : ∃ (d1 d2 d3 : Dk), installS (newDk 156) ⟨0, 0, 0, 2, 1⟩ 8 b81 = (d1, sh8, 0) ∧ d1.waits = [] ∧ upD d1 = true ∧ ShOk sh8 ∧ loseD d1 126 = (d2, 0) ∧ d2.waits = [] ∧ hurtS d2 sh8 2 = [1] ∧ bytesS d2 sh8 = ([], 130) ∧ mendS d2 sh8 1 [7] = (d3, 0) ∧ bytesS d3 sh8 = (b81, 0) := by
  have hh0 := holds_new (rep := 2) (inc := 1) (by decide) (by decide)
  obtain ⟨d1, e1, h1⟩ := install_holds hh0 (idx := 8) (b' := b81) (by decide) (by decide) (by rw [b81_len]; decide) (by decide)
  have hsh : nextS ⟨0, 0, 0, 2, 1⟩ 8 (numC b81.length) = sh8 := by rw [b81_num]; rfl
  rw [hsh] at e1 h1
  have p1 := h1.parted (by decide)
  have hn : (1 : Nat) < numC b81.length := by rw [b81_num]; decide
  obtain ⟨d2, e2, p2⟩ := p1.lose (k := 1) hn
  have hhu := p2.hurts
  rw [b81_num] at hhu
  obtain ⟨d3, e3, _, p3⟩ := p2.mend (k := 1) hn (by simp)
  rw [b81_pc] at e3
  have h3 := p3.holds (fun i hi => by rw [b81_num] at hi; rcases (show i = 0 ∨ i = 1 by omega) with rfl | rfl <;> rfl)
  exact ⟨d1, d2, d3, e1, h1.live.w, pow_up h1.pow, h1.ok, e2, p2.live.w, hhu, p2.bad hn (by simp), e3, h3.bytes⟩
set_option maxRecDepth 100000 in
set_option maxHeartbeats 1000000 in
theorem sawake_any (w : World) : Calls Tryd.prog 5 #[] w fun e w' => e = .returned (.bool true) ∧ Below w.heap.size w w' := by
  have hh0 := holds_new (rep := 2) (inc := 1) (by decide) (by decide)
  obtain ⟨d1, d2, d3, ei, ew1, eu1, hok8, el, ew2, ehu, ebb, em, eb⟩ := ex_snap
  have HEI := Lib.hid ei
  have HEW1 := Lib.hid ew1
  have HEU1 := Lib.hid eu1
  have HEL := Lib.hid el
  have HEW2 := Lib.hid ew2
  have HEHU := Lib.hid ehu
  have HEBB := Lib.hid ebb
  have HEM := Lib.hid em
  have HEB := Lib.hid eb
  clear ei ew1 eu1 el ew2 ehu ebb em eb
  have hnw := new_any (B := w.heap.size) (w := w) 156 (by decide) (by decide) (Nat.le_refl _)
  go_enter Tryd.func5, Tryd.ntmps5
  refine wp_seq_k (fun K hK => ?_)
  have HK := Lib.hid hK
  clear hK
  go_wp2
  refine HK.out _ _ ?_
  clear HK
  refine wp_seq_k (fun K hK => ?_)
  have HK := Lib.hid hK
  clear hK
  go_wp2_with (go_at_call 7; refine hnw.mono ?_; rintro e w1 ⟨⟨g, gp, rfl, D1⟩, hb1⟩)
  refine HK.out _ _ ?_
  clear HK
  refine wp_seq_k (fun K hK => ?_)
  have HK := Lib.hid hK
  clear hK
  go_wp2
  refine HK.out _ _ ?_
  clear HK
  have hop := sopen_any D1 hb1.size 2 1 (by show ([] : List (List UInt8 × Nat)).length ≤ 1000; simp)
  rw [open_new] at hop
  refine wp_seq_k (fun K hK => ?_)
  have HK := Lib.hid hK
  clear hK
  go_wp2_with (go_at_call 17; refine hop.mono ?_; rintro e w2 ⟨⟨_, q, rfl, hq, S2⟩ | ⟨hx, _⟩, ⟨wv2, D2⟩, k2⟩; rotate_left; exact absurd rfl hx)
  refine HK.out _ _ ?_
  clear HK
  have hB2 := Nat.le_trans hb1.size k2.bl.size
  have hBq : w.heap.size ≤ q := Nat.le_trans hb1.size hq
  have kq2 := (Kt.of hb1 (Nat.le_refl _)).trans k2
  clear hnw hop D1
  refine wp_seq_k (fun K hK => ?_)
  have HK := Lib.hid hK
  clear hK
  go_wp2_with (go_at_call 18; refine (sindex_any S2).mono ?_; rintro e w3 ⟨rfl, rfl⟩)
  refine HK.out _ _ ?_
  clear HK
  have hby := sbytes_any S2 D2 hh0.ok
  rw [hh0.bytes] at hby
  refine wp_seq_k (fun K hK => ?_)
  have HK := Lib.hid hK
  clear hK
  go_wp2_with (go_at_call 19; refine hby.mono ?_; rintro e w4 ⟨⟨a4, c4, rfl, _⟩, hb4⟩)
  refine HK.out _ _ ?_
  clear HK
  have S4 := S2.below hb4
  have D4 := D2.below hb4
  have k4 := (kq2.trans (Kt.of hb4 hB2)).kq
  clear S2 D2 hby kq2 hb4 hB2 k2 hb1 hq
  have hmk : (Instr.makeSlice 23 (.int .i64 81) (.int .i64 81)).run Tryd.prog w4 = .ok (.slice (some ⟨w4.heap.size, 0, none⟩) 81 81) (w4.alloc (Obj.cells z81 5)) := make_bys 81 (by decide) w4
  refine wp_seq_k (fun K hK => ?_)
  have HK := Lib.hid hK
  clear hK
  go_wp2
  refine HK.out _ _ ?_
  clear HK
  have Z5 := heap_alloc_new w4 (Obj.cells z81 5)
  have S5 := S4.below (blw w4 (Obj.cells z81 5))
  have D5 := D4.below (blw w4 (Obj.cells z81 5))
  have k5 := k4.trans (Kt.of (blw w4 (Obj.cells z81 5)) k4.bl.size).kq
  have hBz : w.heap.size ≤ w4.heap.size := k4.bl.size
  clear hmk S4 D4 k4
  generalize w4.alloc (Obj.cells z81 5) = w5 at *
  generalize w4.heap.size = z at *
  refine wp_seq_k (fun K hK => ?_)
  have HK := Lib.hid hK
  clear hK
  go_wp2_with ((with_reducible refine wpList_stB 5 _ _ ?_); refine ⟨_, _, _, ⟨_, _, _, Tryd.sizeOf5, rfl, Z5, y81_st⟩, ?_⟩; intro w6 Z6 g6)
  refine HK.out _ _ ?_
  clear HK
  have S6 := S5.ot g6 Z5 (by decide)
  have D6 := D5.ot g6 Z5 (by decide) (by decide) (by decide)
  have k6 : Kq w.heap.size w w6 := ⟨bl_st k5.bl g6 k5.bl.size hBz, fun j cs T a b c d e => tr_st g6 (k5.ty j cs T a b c d e) (fun hj => by have := lt_blk a; omega)⟩
  clear S5 D5 k5 Z5
  have hio := sinst_ok S6 D6 k6.bl.size hBq hh0.ok 8 (some ⟨z, 0, none⟩) 81 b81 (y81_slb Z6) (by decide) (by decide) (by rw [b81_len]; decide) (pow_up hh0.pow) (by rw [hh0.live.w]; simp)
  rw [HEI.out, b81_len] at hio
  go_wp2_with fail
  refine hio.mono ?_
  rintro e w7 ⟨rfl, ⟨wv7, D7⟩, S7, k7⟩
  (try simp only at D7)
  (try simp only at S7)
  have Z7 := k7.ty _ _ _ Z6 (by decide) (by decide) (by decide) (by decide)
  have kq7 := k6.trans k7
  clear hio S6 D6 k6 Z6 k7
  go_wp2_with fail
  refine (sindex_any S7).mono ?_
  rintro e w8 ⟨rfl, rfl⟩
  rw [show sh8.idx = 8 from rfl]
  go_wp2_with fail
  refine (scount_any S7).mono ?_
  rintro e w8 ⟨rfl, rfl⟩
  rw [show sh8.cnt = 2 from rfl]
  go_wp2_with fail
  refine (first_any 5 1 _).mono ?_
  rintro e w8 ⟨rfl, hb8⟩
  rw [show firstN 5 1 = 126 by decide]
  have S8 := S7.below hb8
  have D8 := D7.below hb8
  have Z8 := tr_bl hb8 Z7
  have k8 := kq7.trans (Kt.of hb8 kq7.bl.size).kq
  clear S7 D7 Z7 kq7 hb8
  have hlo := lose_any D8 k8.bl.size 126
  rw [HEL.out] at hlo
  go_wp2_with fail
  refine hlo.mono ?_
  rintro e w9 ⟨rfl, D9, hk9⟩
  (try simp only at D9)
  have S9 := S8.kt hk9
  have Z9 := hk9.ty _ _ _ Z8 (by decide) (by decide) (by decide)
  have k9 := k8.trans hk9.kq
  clear hlo S8 D8 Z8 k8 hk9
  have hhu := shurt_any S9 D9 hok8
  rw [show sh8.cnt.toNat = 2 from rfl, HEHU.out] at hhu
  go_wp2_with fail
  refine hhu.mono ?_
  rintro e w10 ⟨⟨a10, c10, rfl, hr10⟩, hb10⟩
  have S10 := S9.below hb10
  have D10 := D9.below hb10
  have Z10 := tr_bl hb10 Z9
  have k10 := k9.trans (Kt.of hb10 k9.bl.size).kq
  clear hhu S9 D9 Z9 k9 hb10
  have hby := sbytes_any S10 D10 hok8
  rw [HEBB.out] at hby
  go_wp2_with fail
  refine hby.mono ?_
  rintro e w11 ⟨⟨a11, c11, rfl, _⟩, hb11⟩
  have S11 := S10.below hb11
  have D11 := D10.below hb11
  have Z11 := tr_bl hb11 Z10
  have k11 := k10.trans (Kt.of hb11 k10.bl.size).kq
  have hr11 := hr10.below0 hb11
  clear hby S10 D10 Z10 k10 hb11 hr10
  obtain ⟨rb, ro, rfl, hcs⟩ := hr11.at (k := 0) (by simp)
  have c0 := hcs 0 (.int .i64 1) rfl
  rw [Nat.add_zero] at c0
  clear hcs hr11
  go_wp2_with fail
  have q12 := heap_alloc_new w11 (Obj.cells #[.int .u8 7] 5)
  have S12 := S11.below (blw w11 (Obj.cells #[.int .u8 7] 5))
  have D12 := D11.below (blw w11 (Obj.cells #[.int .u8 7] 5))
  have Z12 := tr_bl (blw w11 (Obj.cells #[.int .u8 7] 5)) Z11
  have k12 := k11.trans (Kt.of (blw w11 (Obj.cells #[.int .u8 7] 5)) k11.bl.size).kq
  generalize w11.alloc (Obj.cells #[.int .u8 7] 5) = w12 at *
  generalize w11.heap.size = q2 at *
  clear S11 D11 Z11 k11
  have hme := smend_any S12 D12 k12.bl.size hok8 1 (some ⟨q2, 0, none⟩) 1 [7] (sl_seven q12) (by rw [HEW2.out]; simp)
  rw [HEM.out] at hme
  refine hme.mono ?_
  rintro e w13 ⟨rfl, ⟨wv13, D13⟩, hk13⟩
  (try simp only at D13)
  have S13 := S12.kt hk13
  have Z13 := hk13.ty _ _ _ Z12 (by decide) (by decide) (by decide)
  have k13 := k12.trans hk13.kq
  clear hme S12 D12 Z12 k12 hk13 q12
  have hib := sinst_bad S13 D13 k13.bl.size 8 (some ⟨z, 0, none⟩) 81 b81 (.inl (by decide))
  rw [b81_len] at hib
  go_wp2_with fail
  refine hib.mono ?_
  rintro e w14 ⟨rfl, ⟨wv14, D14⟩, S14, hk14⟩
  (try simp only at D14)
  (try simp only at S14)
  have Z14 := hk14.ty _ _ _ Z13 (by decide) (by decide) (by decide) (by decide)
  have k14 := k13.trans hk14
  clear hib S13 D13 Z13 k13 hk14
  have hby := sbytes_any S14 D14 hok8
  rw [HEB.out] at hby
  go_wp2_with fail
  refine hby.mono ?_
  rintro e w15 ⟨⟨a15, c15, rfl, hO15⟩, hb15⟩
  have Z15 := tr_bl hb15 Z14
  have k15 := k14.trans (Kt.of hb15 k14.bl.size).kq
  clear hby S14 D14 Z14 k14 hb15
  have hsa := rsame_any a15 (some ⟨z, 0, none⟩) c15 81 b81 b81 w15 hO15.slb.row (y81_slb Z15).row (by rw [b81_len]; decide)
  rw [decide_eq_true rfl] at hsa
  simp only [b81_len] at hsa
  rw [b81_len]
  go_wp2_with fail
  refine hsa.mono ?_
  rintro e w16 ⟨rfl, hb16⟩
  go_wp2
  go_ret
  exact ⟨rfl, (k15.trans (Kt.of hb16 k15.bl.size).kq).bl⟩
end Go.Proofs.YthfolocjkpiljaaDoor

namespace Go.Proofs.YthfolocjkpiljaaDoor
open Go.RowKit

/-- The row that was installed last, as it lies in memory. -/
theorem last_slb {ls : List Part} {m : Nat} (hm : ls.length = m + 1) : ∃ xa xc xb, lastP ls ls.length = xb ∧ ls[m]? = some (xa, xc, xb) := by
  have hlt : m < ls.length := by omega
  obtain ⟨⟨xa, xc, xb⟩, hx⟩ : ∃ x, ls[m] = x := ⟨_, rfl⟩
  refine ⟨xa, xc, xb, ?_, by rw [List.getElem?_eq_getElem hlt, hx]⟩
  rw [hm]
  show (ls.getD m (none, 0, [])).2.2 = xb
  rw [List.getD_eq_getElem?_getD, List.getElem?_eq_getElem hlt, hx]
  rfl
set_option maxRecDepth 100000 in
set_option maxHeartbeats 2000000 in
theorem rises_law (a ba : Option Addr) (c bc : Nat) (ls : List Part) (b : List UInt8) (idx : Int) (w : World) (hl : Parts w a ls) (hs : SlB w ba bc b) : Calls Tryd.prog 3 #[.slice a ls.length c, .int .i64 idx, .slice ba b.length bc] w fun e w' => e = .returned (.bool true) ∧ Below w.heap.size w w' := by
  cases hg : grS ls
  case true =>
    have HG := Lib.hid hg
    clear hg
    go_enter Tryd.func3, Tryd.ntmps3
    go_wp2_with fail
    refine (sawake_any _).mono ?_
    rintro e w1 ⟨rfl, hb1⟩
    go_wp2_with fail
    refine (lgreatS_any _ c ls _ (parts_kt hl hb1)).mono ?_
    rintro e w2 ⟨rfl, hb2⟩
    rw [HG.out]
    have hb02 := hb1.trans (hb2.mono hb1.size)
    clear hb1 hb2
    go_wp2
    go_ret
    exact ⟨rfl, hb02⟩
  case false =>
  obtain ⟨h6, h640⟩ := grS_no hg
  have HG := Lib.hid hg
  have HL := Lib.hid h640
  clear hg h640
  by_cases hb7 : 700 < b.length
  case pos =>
    have hI : (700 : Int) < b.length := by omega
    go_enter Tryd.func3, Tryd.ntmps3
    go_wp2_with fail
    refine (sawake_any _).mono ?_
    rintro e w1 ⟨rfl, hb1⟩
    go_wp2_with fail
    refine (lgreatS_any _ c ls _ (parts_kt hl hb1)).mono ?_
    rintro e w2 ⟨rfl, hb2⟩
    rw [HG.out]
    have hb02 := hb1.trans (hb2.mono hb1.size)
    clear hb1 hb2
    go_wp2
    go_ret
    exact ⟨rfl, hb02⟩
  case neg =>
    have hI0 : ¬ (700 : Int) < b.length := by omega
    by_cases h0 : ls.length = 0
    case pos =>
      have hI9 : ¬ (0 : Int) < ls.length := by omega
      have hls : lastP ls ls.length = [] := by rw [h0]; rfl
      have HLS := Lib.hid hls
      have H0 := Lib.hid h0
      clear hls h0
      go_enter Tryd.func3, Tryd.ntmps3
      go_wp2_with fail
      refine (sawake_any _).mono ?_
      rintro e w1 ⟨rfl, hb1⟩
      go_wp2_with fail
      refine (lgreatS_any _ c ls _ (parts_kt hl hb1)).mono ?_
      rintro e w2 ⟨rfl, hb2⟩
      rw [HG.out]
      have hb02 := hb1.trans (hb2.mono hb1.size)
      clear hb1 hb2
      go_wp2_with fail
      refine (new156 (B := w.heap.size) hb02.size).mono ?_
      rintro e w3 ⟨⟨g, gp, rfl, D3⟩, hb3⟩
      have k3 := ((Kt.of hb02 (Nat.le_refl w.heap.size)).trans (Kt.of hb3 hb02.size)).kq
      clear hb02 hb3
      go_wp2_with fail
      refine (linst_any D3 k3.bl.size _ c (fun w' hk => parts_kt hl (k3.trans hk).bl) h6 HL.out).mono ?_
      rintro e w4 ⟨⟨q, rfl, hq, d, s, o, ⟨wv4, D4⟩, S4, hh, hi, hv, hr, hc, har⟩, k4'⟩
      have hBq : w.heap.size ≤ q := Nat.le_trans k3.bl.size hq
      have k4 := k3.trans k4'
      clear D3 k3 k4' hq
      rw [HLS.out] at hh
      have hho := fun w' wv' (hS : ShB w' q g s) (hD : DiskB w.heap.size g gp wv' d w') (hb : Below w.heap.size w w') => lholds_any hS hD hh none 0 ((fun w' _ => sl_nil w') w' hb)
      rw [hi] at hho
      have HHO := Lib.hid hho
      clear hho
      by_cases hbad : idx ≤ 8 * (ls.length : Int) ∨ 1099511627752 < idx
      case pos =>
        have hio := sinst_bad S4 D4 k4.bl.size idx ba bc b (by rw [hi]; exact hbad)
        have HI := Lib.hid hi
        have HBAD := Lib.hid hbad
        clear hi hbad
        go_wp2_with fail
        refine hio.mono ?_
        rintro e w5 ⟨rfl, ⟨wv5, D5⟩, S5, k5⟩
        have kb5 := (k4.trans k5).bl
        have hho := HHO.out _ _ S5 D5 kb5
        rcases HBAD.out with hb1 | hb2
        · have hI : idx ≤ 8 * (ls.length : Int) := hb1
          go_wp2_with (go_at_call 10; refine hho.mono ?_; rintro e w6 ⟨rfl, hb6⟩)
          go_ret
          exact ⟨rfl, kb5.trans (hb6.mono kb5.size)⟩
        · by_cases hI : idx ≤ 8 * (ls.length : Int)
          · go_wp2_with (go_at_call 10; refine hho.mono ?_; rintro e w6 ⟨rfl, hb6⟩)
            go_ret
            exact ⟨rfl, kb5.trans (hb6.mono kb5.size)⟩
          · have hI2 : (1099511627752 : Int) < idx := hb2
            go_wp2_with (go_at_call 10; refine hho.mono ?_; rintro e w6 ⟨rfl, hb6⟩)
            go_ret
            exact ⟨rfl, kb5.trans (hb6.mono kb5.size)⟩
      case neg =>
        have hI : ¬ idx ≤ 8 * (ls.length : Int) := fun h => hbad (.inl h)
        have hI2 : ¬ (1099511627752 : Int) < idx := fun h => hbad (.inr h)
        by_cases hlong : 640 < b.length
        case pos =>
          have hI3 : (640 : Int) < b.length := by omega
          have hio := sinst_no S4 D4 k4.bl.size idx ba bc b (hs.below k4.bl) (by rw [hi]; exact hbad) (.inl hlong)
          rw [if_pos hlong] at hio
          have HI := Lib.hid hi
          clear hi hbad hlong
          go_wp2_with fail
          refine hio.mono ?_
          rintro e w5 ⟨rfl, ⟨wv5, D5⟩, S5, k5⟩
          have kb5 := (k4.trans k5).bl
          have hho := HHO.out _ _ S5 D5 kb5
          go_wp2_with (go_at_call 10; refine hho.mono ?_; rintro e w6 ⟨rfl, hb6⟩)
          go_ret
          exact ⟨rfl, kb5.trans (hb6.mono kb5.size)⟩
        case neg =>
          have hI3 : ¬ (640 : Int) < b.length := by omega
          obtain ⟨d', he, hh'⟩ := install_holds hh (idx := idx) (b' := b) (by omega) (by omega) (by omega) (by omega)
          have hio := sinst_ok S4 D4 k4.bl.size hBq hh.ok idx ba bc b (hs.below k4.bl) (by omega) (by omega) (by omega) (pow_up hh.pow) (by rw [hh.live.w]; simp)
          rw [he] at hio
          have HI := Lib.hid hi
          clear hi hbad hlong he
          go_wp2_with fail
          refine hio.mono ?_
          rintro e w5 ⟨rfl, ⟨wv5, D5⟩, S5, k5⟩
          have kb5 := (k4.trans k5).bl
          have hho := lholds_any S5 D5 hh' ba bc (hs.below kb5)
          rw [show (nextS s idx (numC b.length)).idx = idx from rfl] at hho
          go_wp2_with (go_at_call 10; refine hho.mono ?_; rintro e w6 ⟨rfl, hb6⟩)
          go_ret
          exact ⟨rfl, kb5.trans (hb6.mono kb5.size)⟩
    case neg =>
      have hI9 : (0 : Int) < ls.length := by omega
      obtain ⟨m, hm⟩ : ∃ m, ls.length = m + 1 := ⟨ls.length - 1, by omega⟩
      obtain ⟨xa, xc, xb, hlp, hat⟩ := last_slb hm
      obtain ⟨hmlt, hat2⟩ := List.getElem?_eq_some_iff.1 hat
      obtain ⟨b1, o1, rfl⟩ := hl.addr (by omega)
      have hx := fun w' (hb : Below w.heap.size w w') => (parts_kt hl hb).each _ (List.getElem_mem hmlt)
      have hcell := fun w' (hb : Below w.heap.size w w') => (parts_kt hl hb).cell hmlt
      rw [hat2] at hx hcell
      simp only at hx
      unfold partV at hcell
      simp only at hcell
      have hsub : (ls.length : Int) - 1 = (m : Int) := by omega
      have HLP := Lib.hid hlp
      have HM := Lib.hid hm
      have HX := Lib.hid hx
      clear hlp hm hat hat2 h0 hx
      go_enter Tryd.func3, Tryd.ntmps3
      go_wp2_with fail
      refine (sawake_any _).mono ?_
      rintro e w1 ⟨rfl, hb1⟩
      go_wp2_with fail
      refine (lgreatS_any _ c ls _ (parts_kt hl hb1)).mono ?_
      rintro e w2 ⟨rfl, hb2⟩
      rw [HG.out]
      have hb02 := hb1.trans (hb2.mono hb1.size)
      clear hb1 hb2
      go_wp2_with fail
      refine (new156 (B := w.heap.size) hb02.size).mono ?_
      rintro e w3 ⟨⟨g, gp, rfl, D3⟩, hb3⟩
      have k3 := ((Kt.of hb02 (Nat.le_refl w.heap.size)).trans (Kt.of hb3 hb02.size)).kq
      clear hb02 hb3
      go_wp2_with fail
      refine (linst_any D3 k3.bl.size _ c (fun w' hk => parts_kt hl (k3.trans hk).bl) h6 HL.out).mono ?_
      rintro e w4 ⟨⟨q, rfl, hq, d, s, o, ⟨wv4, D4⟩, S4, hh, hi, hv, hr, hc, har⟩, k4'⟩
      have hBq : w.heap.size ≤ q := Nat.le_trans k3.bl.size hq
      have k4 := k3.trans k4'
      clear D3 k3 k4' hq
      rw [HLP.out] at hh
      have hho := fun w' wv' (hS : ShB w' q g s) (hD : DiskB w.heap.size g gp wv' d w') (hb : Below w.heap.size w w') => lholds_any hS hD hh xa xc (HX.out w' hb)
      rw [hi] at hho
      have HHO := Lib.hid hho
      clear hho
      have hc4 := hcell _ k4.bl
      by_cases hbad : idx ≤ 8 * (ls.length : Int) ∨ 1099511627752 < idx
      case pos =>
        have hio := sinst_bad S4 D4 k4.bl.size idx ba bc b (by rw [hi]; exact hbad)
        have HI := Lib.hid hi
        have HBAD := Lib.hid hbad
        clear hi hbad
        go_wp2_with fail
        refine hio.mono ?_
        rintro e w5 ⟨rfl, ⟨wv5, D5⟩, S5, k5⟩
        have kb5 := (k4.trans k5).bl
        have hho := HHO.out _ _ S5 D5 kb5
        rcases HBAD.out with hb1 | hb2
        · have hI : idx ≤ 8 * (ls.length : Int) := hb1
          go_wp2_with (go_at_call 10; refine hho.mono ?_; rintro e w6 ⟨rfl, hb6⟩)
          go_ret
          exact ⟨rfl, kb5.trans (hb6.mono kb5.size)⟩
        · by_cases hI : idx ≤ 8 * (ls.length : Int)
          · go_wp2_with (go_at_call 10; refine hho.mono ?_; rintro e w6 ⟨rfl, hb6⟩)
            go_ret
            exact ⟨rfl, kb5.trans (hb6.mono kb5.size)⟩
          · have hI2 : (1099511627752 : Int) < idx := hb2
            go_wp2_with (go_at_call 10; refine hho.mono ?_; rintro e w6 ⟨rfl, hb6⟩)
            go_ret
            exact ⟨rfl, kb5.trans (hb6.mono kb5.size)⟩
      case neg =>
        have hI : ¬ idx ≤ 8 * (ls.length : Int) := fun h => hbad (.inl h)
        have hI2 : ¬ (1099511627752 : Int) < idx := fun h => hbad (.inr h)
        by_cases hlong : 640 < b.length
        case pos =>
          have hI3 : (640 : Int) < b.length := by omega
          have hio := sinst_no S4 D4 k4.bl.size idx ba bc b (hs.below k4.bl) (by rw [hi]; exact hbad) (.inl hlong)
          rw [if_pos hlong] at hio
          have HI := Lib.hid hi
          clear hi hbad hlong
          go_wp2_with fail
          refine hio.mono ?_
          rintro e w5 ⟨rfl, ⟨wv5, D5⟩, S5, k5⟩
          have kb5 := (k4.trans k5).bl
          have hho := HHO.out _ _ S5 D5 kb5
          go_wp2_with (go_at_call 10; refine hho.mono ?_; rintro e w6 ⟨rfl, hb6⟩)
          go_ret
          exact ⟨rfl, kb5.trans (hb6.mono kb5.size)⟩
        case neg =>
          have hI3 : ¬ (640 : Int) < b.length := by omega
          obtain ⟨d', he, hh'⟩ := install_holds hh (idx := idx) (b' := b) (by omega) (by omega) (by omega) (by omega)
          have hio := sinst_ok S4 D4 k4.bl.size hBq hh.ok idx ba bc b (hs.below k4.bl) (by omega) (by omega) (by omega) (pow_up hh.pow) (by rw [hh.live.w]; simp)
          rw [he] at hio
          have HI := Lib.hid hi
          clear hi hbad hlong he
          go_wp2_with fail
          refine hio.mono ?_
          rintro e w5 ⟨rfl, ⟨wv5, D5⟩, S5, k5⟩
          have kb5 := (k4.trans k5).bl
          have hho := lholds_any S5 D5 hh' ba bc (hs.below kb5)
          rw [show (nextS s idx (numC b.length)).idx = idx from rfl] at hho
          go_wp2_with (go_at_call 10; refine hho.mono ?_; rintro e w6 ⟨rfl, hb6⟩)
          go_ret
          exact ⟨rfl, kb5.trans (hb6.mono kb5.size)⟩
end Go.Proofs.YthfolocjkpiljaaDoor

namespace Go.Proofs.YthfolocjkpiljaaDoor
open Go.ChangeShapes Go.WideShapes Go.ChangeAt Go.RowKit
variable {H : Type} {enc : TypeId × Value → H} {P : Program}

theorem open_row_ints {W : World} {base : Nat} {sp : Nat → Bool} {hd : Bool} {b0 : Nat} {t e : TypeId} {k : IntKind} {v : Value} {d : DataW H} {p : List MemPlace}
    (ht : P.underlying t = some (.slice e)) (he : P.underlying e = some (.int k)) (hc : P.cellsOf e = 1) (hv : Value.okWide P W .any base t v) (h : DataW.Trod enc P W b0 sp hd t v d p) :
    ∃ (a : Option Addr) (l : List Int) (cap : Nat), v = .slice a l.length cap ∧ Row W a (l.map (Value.int k)) ∧ l.length ≤ cap ∧ cap ≤ maxLen ∧ ∀ n ∈ l, (Lit.int k n).wf = true := by
  obtain ⟨a0, len, cap, rfl⟩ := okWide_slice ht hv
  obtain ⟨fuel, hf⟩ := h
  rcases open_ints ht he hc hf with ⟨hcs, hx⟩ | ⟨a, len', cap', zs, hcs, _, hl, hm, hz, hx, hcell, hwz⟩
  · simp [Value.cells] at hcs
    obtain ⟨rfl, rfl, rfl⟩ := hcs
    exact ⟨none, [], 0, rfl, .inl rfl, Nat.le_refl _, by simp, by simp⟩
  · simp [Value.cells] at hcs
    obtain ⟨rfl, rfl, rfl⟩ := hcs
    have hlen : len ≤ zs.length := by rw [hz]; split <;> omega
    refine ⟨some a, zs.take len, cap, by simp; omega, ?_, by simp; omega, hm, fun n hn => hwz n (List.mem_of_mem_take hn)⟩
    by_cases h0 : len = 0
    · left; simp [h0]
    · right
      obtain ⟨b, off, rfl, hc'⟩ := ints_at hcell (by omega)
      refine ⟨b, off, rfl, fun i u hu => ?_⟩
      have hi := (List.getElem?_eq_some_iff.1 hu).1
      simp only [List.length_map, List.length_take] at hi
      rw [hc' i (by omega)]
      simp only [List.getElem?_map, List.getElem?_take_of_lt (show i < len by omega), Option.map_eq_some_iff] at hu
      obtain ⟨z, hz2, rfl⟩ := hu
      rw [List.getD_eq_getElem?_getD, hz2]
      rfl
end Go.Proofs.YthfolocjkpiljaaDoor

namespace Go.Proofs.YthfolocjkpiljaaDoor
open Go.ChangeShapes Go.WideShapes Go.ChangeAt Go.RowKit

theorem cellsU8 : Tryd.prog.cellsOf 5 = 1 := by kernel_rfl
set_option maxRecDepth 100000 in
theorem open_bytes {H : Type} {enc : TypeId × Value → H} {W : World} {base : Nat} {sp : Nat → Bool} {hd : Bool} {b0 : Nat} {v : Value} {d : DataW H} {p : List MemPlace}
    (hv : Value.okWide Tryd.prog W .any base 23 v) (h : DataW.Trod enc Tryd.prog W b0 sp hd 23 v d p) : ∃ (a : Option Addr) (l : List UInt8) (cap : Nat), v = .slice a l.length cap ∧ SlB W a cap l := by
  obtain ⟨a, l, cap, rfl, hr, hl, hc, hw⟩ := open_row_ints Tryd.underlying23 Tryd.underlying5 cellsU8 hv h
  have hnil : a = none → cap = 0 := by
    rintro rfl
    obtain ⟨fuel, hf⟩ := h
    rcases open_ints Tryd.underlying23 Tryd.underlying5 cellsU8 hf with ⟨hcs, hx⟩ | ⟨a, len', cap', zs, hcs, _⟩
    · simp [Value.cells] at hcs
      exact hcs.2
    · simp [Value.cells] at hcs
  have hb : ∀ n ∈ l, 0 ≤ n ∧ n < 256 := fun n hn => by
    have h1 := hw n hn
    have m0 : IntKind.u8.min = 0 := by decide
    have m1 : IntKind.u8.max = 255 := by decide
    replace h1 : (decide (IntKind.u8.min ≤ n) && decide (n ≤ IntKind.u8.max)) = true := h1
    rw [m0, m1, Bool.and_eq_true, decide_eq_true_eq, decide_eq_true_eq] at h1
    omega
  refine ⟨a, l.map (fun n => UInt8.ofNat n.toNat), cap, by simp, ?_, by simpa using hl, hc, hnil⟩
  have e : bys (l.map (fun n => UInt8.ofNat n.toNat)) = l.map (Value.int .u8) := by
    unfold bys
    rw [List.map_map]
    refine List.map_congr_left fun n hn => ?_
    have := hb n hn
    simp only [Function.comp, byv]
    rw [show ((UInt8.ofNat n.toNat).toNat : Int) = n by rw [UInt8.toNat_ofNat']; omega]
  rw [e]
  exact hr

theorem open_u8 {H : Type} {enc : TypeId × Value → H} {W : World} {sp : Nat → Bool} {hd : Bool} {b0 : Nat} {v : Value} {d : DataW H} {p : List MemPlace} (hv : ∃ x, v = .int .u8 x)
    (h : DataW.Trod enc Tryd.prog W b0 sp hd 5 v d p) : ∃ x : UInt8, v = .int .u8 x.toNat := by
  obtain ⟨y, rfl⟩ := hv
  obtain ⟨fuel, hf⟩ := h
  obtain ⟨n, q, hw, h1⟩ := DataW.trod_int Tryd.underlying5 hf
  simp [Value.cells] at q
  subst q
  have m0 : IntKind.u8.min = 0 := by decide
  have m1 : IntKind.u8.max = 255 := by decide
  replace h1 : (decide (IntKind.u8.min ≤ y) && decide (y ≤ IntKind.u8.max)) = true := h1
  rw [m0, m1, Bool.and_eq_true, decide_eq_true_eq, decide_eq_true_eq] at h1
  exact ⟨UInt8.ofNat y.toNat, by rw [show ((UInt8.ofNat y.toNat).toNat : Int) = y by rw [UInt8.toNat_ofNat']; omega]⟩
end Go.Proofs.YthfolocjkpiljaaDoor

namespace Go.Proofs.YthfolocjkpiljaaDoor
open Go.ChangeShapes Go.WideShapes Go.ChangeAt Go.RowKit

section
variable {H : Type} {enc : TypeId × Value → H} {P : Program} {w : World} {base : Nat} {spare : Nat → Bool} {held : Bool}
theorem trodAll_2 {t t' : TypeId} {args : Array Value} {ds : List (DataW H)} {ps : List MemPlace} (h : DataW.TrodAll enc P w base spare held [t, t'] args.toList ds ps) :
    ∃ v v' d d' p p', args = #[v, v'] ∧ ds = [d, d'] ∧ ps = p ++ p' ∧ DataW.Trod enc P w base spare held t v d p ∧ DataW.Trod enc P w base spare held t' v' d' p' := by
  obtain ⟨v, vs, d, ds', p, q, hargs, rfl, rfl, hd, hrest⟩ := trodAll_cons h
  obtain ⟨v', vs', d', ds'', p', q', rfl, rfl, rfl, hd', hrest'⟩ := trodAll_cons hrest
  obtain ⟨rfl, rfl, rfl⟩ := trodAll_nil hrest'
  exact ⟨v, v', d, d', p, p', by cases args; simp_all, rfl, by simp, hd, hd'⟩
theorem trodAll_5 {t t' t'' t3 t4 : TypeId} {args : Array Value} {ds : List (DataW H)} {ps : List MemPlace} (h : DataW.TrodAll enc P w base spare held [t, t', t'', t3, t4] args.toList ds ps) :
    ∃ v v' v'' v3 v4 d d' d'' d3 d4 p p' p'' p3 p4, args = #[v, v', v'', v3, v4] ∧ ds = [d, d', d'', d3, d4] ∧ ps = p ++ p' ++ p'' ++ p3 ++ p4 ∧ DataW.Trod enc P w base spare held t v d p ∧ DataW.Trod enc P w base spare held t' v' d' p' ∧ DataW.Trod enc P w base spare held t'' v'' d'' p'' ∧ DataW.Trod enc P w base spare held t3 v3 d3 p3 ∧ DataW.Trod enc P w base spare held t4 v4 d4 p4 := by
  obtain ⟨v, vs, d, ds', p, q, hargs, rfl, rfl, hd, hrest⟩ := trodAll_cons h
  obtain ⟨v', vs', d', ds'', p', q', rfl, rfl, rfl, hd', hrest'⟩ := trodAll_cons hrest
  obtain ⟨v'', vs'', d'', ds''', p'', q'', rfl, rfl, rfl, hd'', hrest''⟩ := trodAll_cons hrest'
  obtain ⟨v3, vs3, d3, ds3, p3, q3, rfl, rfl, rfl, hd3, hrest3⟩ := trodAll_cons hrest''
  obtain ⟨v4, vs4, d4, ds4, p4, q4, rfl, rfl, rfl, hd4, hrest4⟩ := trodAll_cons hrest3
  obtain ⟨rfl, rfl, rfl⟩ := trodAll_nil hrest4
  exact ⟨v, v', v'', v3, v4, d, d', d'', d3, d4, p, p', p'', p3, p4, by cases args; simp_all, rfl, by simp, hd, hd', hd'', hd3, hd4⟩
end
set_option maxRecDepth 100000 in
theorem bytes_of {H : Type} {enc : TypeId × Value → H} {W : World} {b0 : Nat} {sp : Nat → Bool} {hd : Bool} {fuel : Nat} {v : Value} {x : DataW H × List MemPlace} (h : DataW.trod enc Tryd.prog W b0 sp hd fuel 23 [v] = some x) :
    ∃ (a : Option Addr) (cap : Nat) (l : List UInt8), v = .slice a l.length cap ∧ SlB W a cap l := by
  rcases open_ints Tryd.underlying23 Tryd.underlying5 cellsU8 h with ⟨hcs, hx⟩ | ⟨a, len, cap, zs, hcs, _, hl, hm, hz, hx, hcell, hwz⟩
  · simp only [List.cons.injEq, and_true] at hcs
    subst hcs
    exact ⟨none, 0, [], rfl, ⟨.inl rfl, Nat.le_refl _, by simp, fun _ => rfl⟩⟩
  · simp only [List.cons.injEq, and_true] at hcs
    subst hcs
    have hlen : len ≤ zs.length := by rw [hz]; split <;> omega
    have hb : ∀ n ∈ zs, 0 ≤ n ∧ n < 256 := fun n hn => by
      have h1 := hwz n hn
      have m0 : IntKind.u8.min = 0 := by decide
      have m1 : IntKind.u8.max = 255 := by decide
      replace h1 : (decide (IntKind.u8.min ≤ n) && decide (n ≤ IntKind.u8.max)) = true := h1
      rw [m0, m1, Bool.and_eq_true, decide_eq_true_eq, decide_eq_true_eq] at h1
      omega
    refine ⟨some a, cap, (zs.take len).map (fun n => UInt8.ofNat n.toNat), by simp; omega, ⟨?_, by simp; omega, hm, fun e => by cases e⟩⟩
    by_cases h0 : len = 0
    · left; simp [h0, bys]
    · right
      obtain ⟨b, off, rfl, hc'⟩ := ints_at hcell (by omega)
      refine ⟨b, off, rfl, fun i u hu => ?_⟩
      have hi := (List.getElem?_eq_some_iff.1 hu).1
      simp only [bys_len, List.length_map, List.length_take] at hi
      rw [hc' i (by omega)]
      unfold bys at hu
      simp only [List.getElem?_map, List.getElem?_take_of_lt (show i < len by omega), Option.map_eq_some_iff] at hu
      obtain ⟨y, ⟨z, hz2, rfl⟩, rfl⟩ := hu
      rw [List.getD_eq_getElem?_getD, hz2]
      have := hb z (List.mem_of_getElem? hz2)
      unfold byv
      rw [show ((UInt8.ofNat z.toNat).toNat : Int) = z by rw [UInt8.toNat_ofNat']; omega]
      rfl
theorem cellsSl : Tryd.prog.cellsOf 23 = 1 := by kernel_rfl
set_option maxRecDepth 100000 in
theorem open_parts {H : Type} {enc : TypeId × Value → H} {W : World} {base : Nat} {sp : Nat → Bool} {hd : Bool} {b0 : Nat} {v : Value} {d : DataW H} {p : List MemPlace}
    (hv : Value.okWide Tryd.prog W .any base 22 v) (h : DataW.Trod enc Tryd.prog W b0 sp hd 22 v d p) : ∃ (a : Option Addr) (ls : List Part) (cap : Nat), v = .slice a ls.length cap ∧ Parts W a ls := by
  obtain ⟨a0, len, cap, rfl⟩ := okWide_slice Tryd.underlying22 hv
  obtain ⟨fuel, hf⟩ := h
  rcases Go.Deep.open_slice1 Tryd.underlying22 cellsSl hf with ⟨hcs, hx⟩ | ⟨a, len', cap', m, n, V, D, Pl, hcs, _, hl, hm, hmm, hx, hel⟩
  · simp [Value.cells] at hcs
    obtain ⟨rfl, rfl, rfl⟩ := hcs
    exact ⟨none, [], 0, rfl, ⟨.inl rfl, fun x hx => by cases hx⟩⟩
  · simp [Value.cells] at hcs
    obtain ⟨rfl, rfl, rfl⟩ := hcs
    have hlm : len ≤ m := by rw [hmm]; split <;> omega
    have hex : ∀ i, i < len → ∃ y : Part, W.cell? (a.add i) = some (partV y) ∧ SlB W y.1 y.2.1 y.2.2 := by
      intro i hi
      obtain ⟨hc, ht⟩ := hel i (by omega)
      obtain ⟨ya, yc, yl, e, hs⟩ := bytes_of ht
      exact ⟨(ya, yc, yl), by rw [hc, e]; rfl, hs⟩
    have : Inhabited Part := ⟨(none, 0, [])⟩
    obtain ⟨f, hf2⟩ := Go.Deep.choose_lt hex
    refine ⟨some a, (List.range len).map f, cap, by simp, ⟨?_, fun x hx => ?_⟩⟩
    · by_cases h0 : len = 0
      · left
        subst h0
        rfl
      · right
        obtain ⟨b, off, spot⟩ := a
        have hspot : spot = none := by
          have := World.cell?_spot (hf2 0 (by omega)).1
          simpa [Addr.add] using this
        subst hspot
        refine ⟨b, off, rfl, fun i u hu => ?_⟩
        have hi := (List.getElem?_eq_some_iff.1 hu).1
        simp only [List.length_map, List.length_range] at hi
        have := (hf2 i hi).1
        rw [addr_add] at this
        rw [this]
        simp only [List.map_map, List.getElem?_map, List.getElem?_range hi, Option.map_some, Function.comp] at hu
        exact hu
    · simp only [List.mem_map, List.mem_range] at hx
      obtain ⟨i, hi, rfl⟩ := hx
      exact (hf2 i hi).2
end Go.Proofs.YthfolocjkpiljaaDoor

namespace Go.Proofs.YthfolocjkpiljaaDoor
open Go.ChangeShapes Go.WideShapes Go.ChangeAt Go.RowKit

section
variable {H : Type} {enc : TypeId × Value → H} {P : Program} {w : World} {base : Nat} {spare : Nat → Bool} {held : Bool}
theorem trodAll_1 {t : TypeId} {args : Array Value} {ds : List (DataW H)} {ps : List MemPlace} (h : DataW.TrodAll enc P w base spare held [t] args.toList ds ps) :
    ∃ v d, args = #[v] ∧ ds = [d] ∧ DataW.Trod enc P w base spare held t v d ps := by
  obtain ⟨v, vs, d, ds', p, q, hargs, rfl, rfl, hd, hrest⟩ := trodAll_cons h
  obtain ⟨rfl, rfl, rfl⟩ := trodAll_nil hrest
  exact ⟨v, d, by cases args; simp_all, rfl, by simpa using hd⟩
theorem trodAll_3 {t t' t'' : TypeId} {args : Array Value} {ds : List (DataW H)} {ps : List MemPlace} (h : DataW.TrodAll enc P w base spare held [t, t', t''] args.toList ds ps) :
    ∃ v v' v'' d d' d'' p p' p'', args = #[v, v', v''] ∧ ds = [d, d', d''] ∧ ps = p ++ p' ++ p'' ∧ DataW.Trod enc P w base spare held t v d p ∧ DataW.Trod enc P w base spare held t' v' d' p' ∧ DataW.Trod enc P w base spare held t'' v'' d'' p'' := by
  obtain ⟨v, vs, d, ds', p, q, hargs, rfl, rfl, hd, hrest⟩ := trodAll_cons h
  obtain ⟨v', vs', d', ds'', p', q', rfl, rfl, rfl, hd', hrest'⟩ := trodAll_cons hrest
  obtain ⟨v'', vs'', d'', ds''', p'', q'', rfl, rfl, rfl, hd'', hrest''⟩ := trodAll_cons hrest'
  obtain ⟨rfl, rfl, rfl⟩ := trodAll_nil hrest''
  exact ⟨v, v', v'', d, d', d'', p, p', p'', by cases args; simp_all, rfl, by simp, hd, hd', hd''⟩
end
end Go.Proofs.YthfolocjkpiljaaDoor

