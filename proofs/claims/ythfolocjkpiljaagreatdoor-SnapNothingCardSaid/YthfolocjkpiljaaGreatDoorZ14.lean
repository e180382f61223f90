/- Texts that the claim leans on, part 14: DP, S19, SL, X29, S22, Open, OB, Args. -/
import Derived.Test.YthfolocjkpiljaaGreatDoorZ1
import Derived.Test.YthfolocjkpiljaaGreatDoorZ2
import Derived.Test.YthfolocjkpiljaaGreatDoorZ3
import Derived.Test.YthfolocjkpiljaaGreatDoorZ4
import Derived.Test.YthfolocjkpiljaaGreatDoorZ5
import Derived.Test.YthfolocjkpiljaaGreatDoorZ6
import Derived.Test.YthfolocjkpiljaaGreatDoorZ7
import Derived.Test.YthfolocjkpiljaaGreatDoorZ8
import Derived.Test.YthfolocjkpiljaaGreatDoorZ9
import Derived.Test.YthfolocjkpiljaaGreatDoorZ10
import Derived.Test.YthfolocjkpiljaaGreatDoorZ11
import Derived.Test.YthfolocjkpiljaaGreatDoorZ12
import Derived.Test.YthfolocjkpiljaaGreatDoorZ13
import Derived.Test.YthfolocjkpiljaaGreatDoorRows
import Derived.WalkKit
import Derived.WalkSpells
import Derived.WalkLawsBesides
import Derived.Handy
import Derived.Deep.QuietTactic
import Derived.BigQuiet
import Derived.Deep.DeepCutAuto
import Derived.Lib.Hide
import Derived.RegionTactic
import Derived.ChangeAlike
import Derived.Laws.ResultCell
import Derived.Outline
import Derived.IntWalk
import Derived.ChangeSlices
import Derived.ProofKit
import Derived.Lib.SmallJoins
import Derived.Shelf.Abstract
import Derived.Shelf.RegionOpen
import Derived.OwnWalkIn
import Derived.TacticsInMore
import Derived.LoopNIn
import Derived.LoopIn
import Derived.Maps.AppendAt
import Derived.Lib.SliceRun
import Derived.Laws.IdiomStrings
import Derived.Laws.BytesArg
import Derived.Carry
import Derived.Maps.Own
import Derived.Maps.Keyed
import Derived.RangeFuncNested
import Derived.RangeFuncBound
import Derived.RangeFuncCalls
import Derived.RangeFuncLeaves
import Derived.RangeFuncBox
import Derived.RangeFuncRecord
import Derived.OrdersIn
import Derived.OrdersHeld
import Derived.Laws.MakeOwn
import Derived.Laws.BitsAllLaws
import Derived.Great.BuildSlice
import Derived.Great.FillDense
import Derived.Laws.Rows
import Derived.Deep.Quiet
import Derived.Deep.RegionHeld3
import Derived.OpenShut
import Derived.Laws.CopyOwn
import Derived.Laws.CopyRow
import Derived.Laws.NewBlocks
import Derived.Deep.RegionLaw
namespace Go.Proofs.YthfolocjkpiljaaGreatDoor
open Go.RowKit

theorem Parts.cell {w : World} {b off : Nat} {ls : List Part} (h : Parts w (some ⟨b, off, none⟩) ls) {j : Nat} (hj : j < ls.length) : w.cell? ⟨b, off + j, none⟩ = some (partV ls[j]) := by
  obtain ⟨b', off', e, hc⟩ := h.row.at (k := j) (by simpa using hj)
  cases e
  exact hc j _ (by simp [hj])
theorem Parts.addr {w : World} {a : Option Addr} {ls : List Part} (h : Parts w a ls) (hl : 0 < ls.length) : ∃ b off, a = some ⟨b, off, none⟩ := by
  obtain ⟨b, off, e, _⟩ := h.row.at (k := 0) (by simpa using hl)
  exact ⟨b, off, e⟩
theorem parts_kt {w w' : World} {a : Option Addr} {ls : List Part} (h : Parts w a ls) (hb : Below w.heap.size w w') : Parts w' a ls := ⟨h.row.below0 hb, fun x hx => (h.each x hx).below hb⟩
theorem sl_seven {w : World} {q : Nat} (h : w.heap[q]? = some (.cells #[.int .u8 7] 5 (0, 0))) : SlB w (some ⟨q, 0, none⟩) 1 [7] :=
  ⟨Row.of_block (cs := [.int .u8 7]) h 0 (fun i u hu => by rw [Nat.zero_add]; exact hu), Nat.le_refl _, by unfold maxLen; omega, fun e => by cases e⟩
theorem sl_nil (w : World) : SlB w none 0 [] := ⟨.inl rfl, Nat.le_refl _, by simp, fun _ => rfl⟩
theorem new156 {B : Nat} {w : World} (hB : B ≤ w.heap.size) : Calls Tryz.prog 14 #[.int .i64 156] w fun e w' => (∃ g gp, e = .returned (.tuple #[.pointer (some ⟨g, 0, none⟩), .int .i64 0]) ∧ DiskB B g gp (.slice none 0 0) (newDk 156) w') ∧ Below w.heap.size w w' := new_any 156 (by decide) (by decide) hB
end Go.Proofs.YthfolocjkpiljaaGreatDoor

namespace Go.Proofs.YthfolocjkpiljaaGreatDoor
open Go.RowKit

theorem open_new : openS (newDk 156) 2 1 = (newDk 156, ⟨0, 0, 0, 2, 1⟩, 0) := by
  have hh0 := holds_new (rep := 2) (inc := 1) (by decide) (by decide)
  have hL := hh0.live
  have h1 := hh0.fr.load hL (by decide) (.inr rfl)
  have h2 := heal_same hL (by decide) (.inr rfl) hh0.fr
  unfold openS
  simp only
  rw [if_neg (by simp [newDk]), h1, h2]
  simp [verO]
def z81 : Array Value := (bys (List.replicate 81 0)).toArray
def y81 : Array Value := (bys b81).toArray
theorem y81_st : 80 + 1 ≤ z81.size ∧ (Value.int .u8 7).cells.size = 1 ∧ (∀ u ∈ (Value.int .u8 7).cells.toList, u.oneCell' = true) ∧ (z81.toList.take 80 ++ (Value.int .u8 7).cells.toList ++ z81.toList.drop (80 + 1)).toArray = y81 := by
  refine ⟨by simp [z81, bys_len], rfl, by simp [Value.cells, Value.oneCell'], ?_⟩
  unfold z81 y81 b81
  rw [show (Value.int .u8 7).cells.toList = bys [7] from rfl, bys_app]
  unfold bys
  rw [← List.map_take, ← List.map_drop]
  simp
theorem y81_slb {w : World} {q : Nat} (h : w.heap[q]? = some (.cells y81 5 (0, 0))) : SlB w (some ⟨q, 0, none⟩) 81 b81 :=
  ⟨Row.of_block (cs := bys b81) h 0 (fun i u hu => by rw [Nat.zero_add]; exact hu), by rw [b81_len]; exact Nat.le_refl _, by unfold maxLen; omega, fun e => by cases e⟩
def sh8 : Sh := ⟨8, 0, 2, 2, 1⟩
/-- What the chapter's example comes to. -/
theorem ex_snap : ∃ (d1 d2 d3 : Dk), installS (newDk 156) ⟨0, 0, 0, 2, 1⟩ 8 b81 = (d1, sh8, 0) ∧ d1.waits = [] ∧ upD d1 = true ∧ ShOk sh8 ∧ loseD d1 126 = (d2, 0) ∧ d2.waits = [] ∧ hurtS d2 sh8 2 = [1] ∧ bytesS d2 sh8 = ([], 130) ∧ mendS d2 sh8 1 [7] = (d3, 0) ∧ bytesS d3 sh8 = (b81, 0) := by
  have hh0 := holds_new (rep := 2) (inc := 1) (by decide) (by decide)
  obtain ⟨d1, e1, h1⟩ := install_holds hh0 (idx := 8) (b' := b81) (by decide) (by decide) (by rw [b81_len]; decide) (by decide)
  have hsh : nextS ⟨0, 0, 0, 2, 1⟩ 8 (numC b81.length) = sh8 := by rw [b81_num]; rfl
  rw [hsh] at e1 h1
  have p1 := h1.parted (by decide)
  have hn : (1 : Nat) < numC b81.length := by rw [b81_num]; decide
  obtain ⟨d2, e2, p2⟩ := p1.lose (k := 1) hn
  have hhu := p2.hurts
  rw [b81_num] at hhu
  obtain ⟨d3, e3, _, p3⟩ := p2.mend (k := 1) hn (by simp)
  rw [b81_pc] at e3
  have h3 := p3.holds (fun i hi => by rw [b81_num] at hi; rcases (show i = 0 ∨ i = 1 by omega) with rfl | rfl <;> rfl)
  exact ⟨d1, d2, d3, e1, h1.live.w, pow_up h1.pow, h1.ok, e2, p2.live.w, hhu, p2.bad hn (by simp), e3, h3.bytes⟩
set_option maxRecDepth 100000 in
set_option maxHeartbeats 1000000 in
theorem sawake_any (w : World) : Calls Tryz.prog 51 #[] w fun e w' => e = .returned (.bool true) ∧ Below w.heap.size w w' := by
  have hh0 := holds_new (rep := 2) (inc := 1) (by decide) (by decide)
  obtain ⟨d1, d2, d3, ei, ew1, eu1, hok8, el, ew2, ehu, ebb, em, eb⟩ := ex_snap
  have HEI := Lib.hid ei
  have HEW1 := Lib.hid ew1
  have HEU1 := Lib.hid eu1
  have HEL := Lib.hid el
  have HEW2 := Lib.hid ew2
  have HEHU := Lib.hid ehu
  have HEBB := Lib.hid ebb
  have HEM := Lib.hid em
  have HEB := Lib.hid eb
  clear ei ew1 eu1 el ew2 ehu ebb em eb
  have hnw := new_any (B := w.heap.size) (w := w) 156 (by decide) (by decide) (Nat.le_refl _)
  go_enter Tryz.func51, Tryz.ntmps51
  refine wp_seq_k (fun K hK => ?_)
  have HK := Lib.hid hK
  clear hK
  go_wp2
  refine HK.out _ _ ?_
  clear HK
  refine wp_seq_k (fun K hK => ?_)
  have HK := Lib.hid hK
  clear hK
  go_wp2_with (go_at_call 14; refine hnw.mono ?_; rintro e w1 ⟨⟨g, gp, rfl, D1⟩, hb1⟩)
  refine HK.out _ _ ?_
  clear HK
  refine wp_seq_k (fun K hK => ?_)
  have HK := Lib.hid hK
  clear hK
  go_wp2
  refine HK.out _ _ ?_
  clear HK
  have hop := sopen_any D1 hb1.size 2 1 (by show ([] : List (List UInt8 × Nat)).length ≤ 1000; simp)
  rw [open_new] at hop
  refine wp_seq_k (fun K hK => ?_)
  have HK := Lib.hid hK
  clear hK
  go_wp2_with (go_at_call 58; refine hop.mono ?_; rintro e w2 ⟨⟨_, q, rfl, hq, S2⟩ | ⟨hx, _⟩, ⟨wv2, D2⟩, k2⟩; rotate_left; exact absurd rfl hx)
  refine HK.out _ _ ?_
  clear HK
  have hB2 := Nat.le_trans hb1.size k2.bl.size
  have hBq : w.heap.size ≤ q := Nat.le_trans hb1.size hq
  have kq2 := (Kt.of hb1 (Nat.le_refl _)).trans k2
  clear hnw hop D1
  refine wp_seq_k (fun K hK => ?_)
  have HK := Lib.hid hK
  clear hK
  go_wp2_with (go_at_call 80; refine (sindex_any S2).mono ?_; rintro e w3 ⟨rfl, rfl⟩)
  refine HK.out _ _ ?_
  clear HK
  have hby := sbytes_any S2 D2 hh0.ok
  rw [hh0.bytes] at hby
  refine wp_seq_k (fun K hK => ?_)
  have HK := Lib.hid hK
  clear hK
  go_wp2_with (go_at_call 83; refine hby.mono ?_; rintro e w4 ⟨⟨a4, c4, rfl, _⟩, hb4⟩)
  refine HK.out _ _ ?_
  clear HK
  have S4 := S2.below hb4
  have D4 := D2.below hb4
  have k4 := (kq2.trans (Kt.of hb4 hB2)).kq
  clear S2 D2 hby kq2 hb4 hB2 k2 hb1 hq
  have hmk : (Instr.makeSlice 34 (.int .i64 81) (.int .i64 81)).run Tryz.prog w4 = .ok (.slice (some ⟨w4.heap.size, 0, none⟩) 81 81) (w4.alloc (Obj.cells z81 5)) := make_bys 81 (by decide) w4
  refine wp_seq_k (fun K hK => ?_)
  have HK := Lib.hid hK
  clear hK
  go_wp2
  refine HK.out _ _ ?_
  clear HK
  have Z5 := heap_alloc_new w4 (Obj.cells z81 5)
  have S5 := S4.below (blw w4 (Obj.cells z81 5))
  have D5 := D4.below (blw w4 (Obj.cells z81 5))
  have k5 := k4.trans (Kt.of (blw w4 (Obj.cells z81 5)) k4.bl.size).kq
  have hBz : w.heap.size ≤ w4.heap.size := k4.bl.size
  clear hmk S4 D4 k4
  generalize w4.alloc (Obj.cells z81 5) = w5 at *
  generalize w4.heap.size = z at *
  refine wp_seq_k (fun K hK => ?_)
  have HK := Lib.hid hK
  clear hK
  go_wp2_with ((with_reducible refine wpList_stB 5 _ _ ?_); refine ⟨_, _, _, ⟨_, _, _, Tryz.sizeOf5, rfl, Z5, y81_st⟩, ?_⟩; intro w6 Z6 g6)
  refine HK.out _ _ ?_
  clear HK
  have S6 := S5.ot g6 Z5 (by decide)
  have D6 := D5.ot g6 Z5 (by decide) (by decide) (by decide)
  have k6 : Kq w.heap.size w w6 := ⟨bl_st k5.bl g6 k5.bl.size hBz, fun j cs T a b c d e => tr_st g6 (k5.ty j cs T a b c d e) (fun hj => by have := lt_blk a; omega)⟩
  clear S5 D5 k5 Z5
  have hio := sinst_ok S6 D6 k6.bl.size hBq hh0.ok 8 (some ⟨z, 0, none⟩) 81 b81 (y81_slb Z6) (by decide) (by decide) (by rw [b81_len]; decide) (pow_up hh0.pow) (by rw [hh0.live.w]; simp)
  rw [HEI.out, b81_len] at hio
  go_wp2_with fail
  refine hio.mono ?_
  rintro e w7 ⟨rfl, ⟨wv7, D7⟩, S7, k7⟩
  (try simp only at D7)
  (try simp only at S7)
  have Z7 := k7.ty _ _ _ Z6 (by decide) (by decide) (by decide) (by decide)
  have kq7 := k6.trans k7
  clear hio S6 D6 k6 Z6 k7
  go_wp2_with fail
  refine (sindex_any S7).mono ?_
  rintro e w8 ⟨rfl, rfl⟩
  rw [show sh8.idx = 8 from rfl]
  go_wp2_with fail
  refine (scount_any S7).mono ?_
  rintro e w8 ⟨rfl, rfl⟩
  rw [show sh8.cnt = 2 from rfl]
  go_wp2_with fail
  refine (first_any 5 1 _).mono ?_
  rintro e w8 ⟨rfl, hb8⟩
  rw [show firstN 5 1 = 126 by decide]
  have S8 := S7.below hb8
  have D8 := D7.below hb8
  have Z8 := tr_bl hb8 Z7
  have k8 := kq7.trans (Kt.of hb8 kq7.bl.size).kq
  clear S7 D7 Z7 kq7 hb8
  have hlo := lose_any D8 k8.bl.size 126
  rw [HEL.out] at hlo
  go_wp2_with fail
  refine hlo.mono ?_
  rintro e w9 ⟨rfl, D9, hk9⟩
  (try simp only at D9)
  have S9 := S8.kt hk9
  have Z9 := hk9.ty _ _ _ Z8 (by decide) (by decide) (by decide)
  have k9 := k8.trans hk9.kq
  clear hlo S8 D8 Z8 k8 hk9
  have hhu := shurt_any S9 D9 hok8
  rw [show sh8.cnt.toNat = 2 from rfl, HEHU.out] at hhu
  go_wp2_with fail
  refine hhu.mono ?_
  rintro e w10 ⟨⟨a10, c10, rfl, hr10⟩, hb10⟩
  have S10 := S9.below hb10
  have D10 := D9.below hb10
  have Z10 := tr_bl hb10 Z9
  have k10 := k9.trans (Kt.of hb10 k9.bl.size).kq
  clear hhu S9 D9 Z9 k9 hb10
  have hby := sbytes_any S10 D10 hok8
  rw [HEBB.out] at hby
  go_wp2_with fail
  refine hby.mono ?_
  rintro e w11 ⟨⟨a11, c11, rfl, _⟩, hb11⟩
  have S11 := S10.below hb11
  have D11 := D10.below hb11
  have Z11 := tr_bl hb11 Z10
  have k11 := k10.trans (Kt.of hb11 k10.bl.size).kq
  have hr11 := hr10.below0 hb11
  clear hby S10 D10 Z10 k10 hb11 hr10
  obtain ⟨rb, ro, rfl, hcs⟩ := hr11.at (k := 0) (by simp)
  have c0 := hcs 0 (.int .i64 1) rfl
  rw [Nat.add_zero] at c0
  clear hcs hr11
  go_wp2_with fail
  have q12 := heap_alloc_new w11 (Obj.cells #[.int .u8 7] 5)
  have S12 := S11.below (blw w11 (Obj.cells #[.int .u8 7] 5))
  have D12 := D11.below (blw w11 (Obj.cells #[.int .u8 7] 5))
  have Z12 := tr_bl (blw w11 (Obj.cells #[.int .u8 7] 5)) Z11
  have k12 := k11.trans (Kt.of (blw w11 (Obj.cells #[.int .u8 7] 5)) k11.bl.size).kq
  generalize w11.alloc (Obj.cells #[.int .u8 7] 5) = w12 at *
  generalize w11.heap.size = q2 at *
  clear S11 D11 Z11 k11
  have hme := smend_any S12 D12 k12.bl.size hok8 1 (some ⟨q2, 0, none⟩) 1 [7] (sl_seven q12) (by rw [HEW2.out]; simp)
  rw [HEM.out] at hme
  refine hme.mono ?_
  rintro e w13 ⟨rfl, ⟨wv13, D13⟩, hk13⟩
  (try simp only at D13)
  have S13 := S12.kt hk13
  have Z13 := hk13.ty _ _ _ Z12 (by decide) (by decide) (by decide)
  have k13 := k12.trans hk13.kq
  clear hme S12 D12 Z12 k12 hk13 q12
  have hib := sinst_bad S13 D13 k13.bl.size 8 (some ⟨z, 0, none⟩) 81 b81 (.inl (by decide))
  rw [b81_len] at hib
  go_wp2_with fail
  refine hib.mono ?_
  rintro e w14 ⟨rfl, ⟨wv14, D14⟩, S14, hk14⟩
  (try simp only at D14)
  (try simp only at S14)
  have Z14 := hk14.ty _ _ _ Z13 (by decide) (by decide) (by decide) (by decide)
  have k14 := k13.trans hk14
  clear hib S13 D13 Z13 k13 hk14
  have hby := sbytes_any S14 D14 hok8
  rw [HEB.out] at hby
  go_wp2_with fail
  refine hby.mono ?_
  rintro e w15 ⟨⟨a15, c15, rfl, hO15⟩, hb15⟩
  have Z15 := tr_bl hb15 Z14
  have k15 := k14.trans (Kt.of hb15 k14.bl.size).kq
  clear hby S14 D14 Z14 k14 hb15
  have hsa := rsame_any a15 (some ⟨z, 0, none⟩) c15 81 b81 b81 w15 hO15.slb.row (y81_slb Z15).row (by rw [b81_len]; decide)
  rw [decide_eq_true rfl] at hsa
  simp only [b81_len] at hsa
  rw [b81_len]
  go_wp2_with fail
  refine hsa.mono ?_
  rintro e w16 ⟨rfl, hb16⟩
  go_wp2
  go_ret
  exact ⟨rfl, (k15.trans (Kt.of hb16 k15.bl.size).kq).bl⟩
end Go.Proofs.YthfolocjkpiljaaGreatDoor

namespace Go.Proofs.YthfolocjkpiljaaGreatDoor

/-- The row that was installed last, as it lies in memory. -/
theorem last_slb {ls : List Part} {m : Nat} (hm : ls.length = m + 1) : ∃ xa xc xb, lastP ls ls.length = xb ∧ ls[m]? = some (xa, xc, xb) := by
  have hlt : m < ls.length := by omega
  obtain ⟨⟨xa, xc, xb⟩, hx⟩ : ∃ x, ls[m] = x := ⟨_, rfl⟩
  refine ⟨xa, xc, xb, ?_, by rw [List.getElem?_eq_getElem hlt, hx]⟩
  rw [hm]
  show (ls.getD m (none, 0, [])).2.2 = xb
  rw [List.getD_eq_getElem?_getD, List.getElem?_eq_getElem hlt, hx]
  rfl
end Go.Proofs.YthfolocjkpiljaaGreatDoor

namespace Go.Proofs.YthfolocjkpiljaaGreatDoor

theorem flush_pw {d : Dk} (h0 : live0 d = 0) (h1 : d.left ≠ 0) (h2 : 0 ≤ d.left) : flushD d = ({ flowD d with left := d.left - 1 }, 0) := by
  have hsp : spendD d = ({ d with left := d.left - 1 }, 0) := by unfold spendD; rw [if_neg h1, if_pos (by omega)]
  unfold flushD
  rw [if_neg (by simp [h0]), hsp, if_neg (by simp)]
  rfl
theorem flush_no {d : Dk} (h0 : live0 d = 0) (h1 : d.left = 0) : flushD d = ({ d with dead := true }, 5) := by
  have hsp : spendD d = ({ d with dead := true }, 5) := by unfold spendD; rw [if_pos h1]
  unfold flushD
  rw [if_neg (by simp [h0]), hsp, if_pos (by simp)]
section
variable {d : Dk} {s : Sh} {b : List UInt8} {o : Vo}
theorem area_ne (s : Sh) (hi : 1 ≤ s.idx) (idx : Int) (n : Nat) : (nextS s idx n).area = 1 - s.area := by
  show (if 0 < s.idx then 1 - s.area else 0) = _
  rw [if_pos (by omega)]
/-- The old snapshot is opened, where only sectors of the other area were touched. -/
theorem old_opens {d8 : Dk} (h : Holds d s b o) {idx : Int} {n : Nat} (hL : Live d8) (hr : ∀ j : Nat, j < 156 → (j < secS (nextS s idx n) 0 ∨ secS (nextS s idx n) 8 ≤ j) → readD d8 j = readD d j) {inc : Int} (hi : 1 ≤ inc ∧ inc ≤ 1099511627776) :
    ∃ x, openS d8 s.rep inc = (d8, x, 0) ∧ x.idx = s.idx ∧ Tells d8 x b := by
  have hsm : ∀ j : Nat, j < 4 → readD d8 j = readD d j := fun j hj => hr j (by omega) (.inl (by unfold secS; omega))
  have hfr : Fr d8 s.rep 2 o := h.fr.same (hsm _ (by decide)) (hsm _ (by decide))
  have hup : upD d8 = true := by unfold upD; rw [hL.len, hL.dn, hL.de]; rfl
  refine open_tells hL (hfr.load hL h.ok.r (.inr rfl)) (heal_same hL h.ok.r (.inr rfl) hfr) hup h.ok hi hfr.ok h.iss (fun k hk => ?_)
  have hc := h.ok.c
  have ha := h.ok.a
  rw [readS_same h.ok (d := d) (show k < 8 by omega), h.read hk]
  intro j h1 h2
  have hidx : 1 ≤ s.idx := by
    rcases h.is with ⟨_, h2, _⟩ | ⟨h1, _⟩
    · omega
    · exact h1
  have har := area_ne s hidx idx n
  have hb := (secS_eq h.ok (k := k) (by omega)).2
  refine hr j (by omega) ?_
  unfold secS at h1 h2 ⊢
  rw [har]
  omega
theorem anew_rd {d1 : Dk} (hL : Live d) {d' : Dk} (hl : d1.pl = d.pl) (hlen : d'.pl = d1.pl) (keep : List Bool) {j : Nat} (hj : j < 156) (hw : ∀ x ∈ d'.waits, x.2 ≠ j) : readD (anew d' keep) j = readD d j := by
  rw [rd_live (anew_live keep (by rw [hlen, hl]; exact hL.len)) hj, rd_live hL hj]
  show rdP (thruD d'.pl d'.waits 0 (keepB keep)) j = _
  rw [thru_out _ _ _ _ _ hw, hlen, hl]
/-- An Install with power for so many writes and flushes; a crash, of whose waiting writes some are kept; a start; the shelf is opened anew. -/
theorem install_crash (h : Holds d s b o) {P : Int} (hP : 0 ≤ P) {idx : Int} {b' : List UInt8} (h1 : s.idx < idx) (h2 : idx ≤ 1099511627752) (h3 : b'.length ≤ 640) (hv : verO o + 1 ≤ 1099511627776) {inc : Int} (hi : 1 ≤ inc ∧ inc ≤ 1099511627776) :
    ∃ d6 s6 f, installS { d with left := P } s idx b' = (d6, s6, f) ∧ (f = 0 ∨ f = 5) ∧ d6.pl.length = 156 ∧ d6.down = false ∧
      ∀ keep, ∃ d9 x, openS (anew d6 keep) s.rep inc = (d9, x, 0) ∧ ((x.idx = idx ∧ Tells d9 x b') ∨ (f = 5 ∧ x.idx = s.idx ∧ Tells d9 x b)) := by
  have hn := numC_le h3
  have hok := nextS_ok h.ok h1 h2 hn.2
  have hsl := splitC_len b'
  have hsc : ∀ c ∈ splitC b', c.length ≤ 80 := fun c hc => by
    obtain ⟨k, _, rfl⟩ := List.mem_map.1 hc
    unfold pcC
    rw [List.length_take]
    omega
  have hup : upD { d with left := P } = true := pow_up (d := { d with left := -1 }) ⟨h.live.len, h.live.dn, h.live.de, by show (-1 : Int) < 0; decide⟩
  have hpw : Pw { d with left := P } := ⟨h.live.len, h.live.dn, h.live.de, hP⟩
  have hLP : Live { d with left := P } := live_left h.live P
  have hrdP : ∀ j : Nat, readD { d with left := P } (j : Int) = readD d (j : Int) := fun j => rfl
  obtain ⟨m, hm⟩ : ∃ m, nextS s idx (numC b'.length) = m := ⟨_, rfl⟩
  have hmi : m.idx = idx := by rw [← hm]; rfl
  have hmc : m.cnt = (numC b'.length : Nat) := by rw [← hm]; rfl
  have hmr : m.rep = s.rep := by rw [← hm]; rfl
  have hmn : m.inc = s.inc := by rw [← hm]; rfl
  have hin : installS { d with left := P } s idx b' = (if (putsS { d with left := P } m 0 (splitC b')).2 ≠ 0 then ((putsS { d with left := P } m 0 (splitC b')).1, s, (putsS { d with left := P } m 0 (splitC b')).2) else
      if (flushD (putsS { d with left := P } m 0 (splitC b')).1).2 ≠ 0 then ((flushD (putsS { d with left := P } m 0 (splitC b')).1).1, s, (flushD (putsS { d with left := P } m 0 (splitC b')).1).2) else
      if (storeC (flushD (putsS { d with left := P } m 0 (splitC b')).1).1 s.rep 2 s.inc (manB m.idx m.area m.cnt)).2 ≠ 0 then ((storeC (flushD (putsS { d with left := P } m 0 (splitC b')).1).1 s.rep 2 s.inc (manB m.idx m.area m.cnt)).1, s, (storeC (flushD (putsS { d with left := P } m 0 (splitC b')).1).1 s.rep 2 s.inc (manB m.idx m.area m.cnt)).2) else
      ((storeC (flushD (putsS { d with left := P } m 0 (splitC b')).1).1 s.rep 2 s.inc (manB m.idx m.area m.cnt)).1, m, 0)) := by
    unfold installS
    rw [if_neg (by omega), if_neg (by omega), if_neg (by simp [hup]), hm]
  rw [hm] at hok
  rw [hin]
  clear hin
  have hold : ∀ (d6 : Dk), d6.pl = d.pl → (∀ x ∈ d6.waits, secS m 0 ≤ x.2 ∧ x.2 < secS m 8) → ∀ keep, ∃ d9 x, openS (anew d6 keep) s.rep inc = (d9, x, 0) ∧ ((x.idx = idx ∧ Tells d9 x b') ∨ ((5 : Int) = 5 ∧ x.idx = s.idx ∧ Tells d9 x b)) := fun d6 hpl hws keep => by
    have hL8 := anew_live (d := d6) keep (by rw [hpl]; exact h.live.len)
    obtain ⟨x, e1, e2, e3⟩ := old_opens (d8 := anew d6 keep) h (idx := idx) (n := numC b'.length) hL8 (fun j hj ho => by
      rw [hm] at ho
      exact anew_rd (d1 := d) h.live rfl hpl keep hj (fun x hx => by have := hws x hx; omega)) hi
    exact ⟨_, x, e1, .inr ⟨rfl, e2, e3⟩⟩
  have hsec8 : secS m (0 + (splitC b').length) ≤ secS m 8 := by rw [hsl]; unfold secS; omega
  have hdw : ({ d with left := P } : Dk).waits = [] := h.live.w
  rcases pw_puts hok (splitC b') { d with left := P } 0 hpw (by omega) hsc with ⟨l1, e, p⟩ | ⟨d', e, g⟩
  · rw [e, if_neg (by simp)]
    simp only
    obtain ⟨q1, q2, q3, q4⟩ := putsW_pl m (splitC b') { d with left := P } 0
    have hws : ∀ x ∈ (putsW { d with left := P } m 0 (splitC b')).waits, secS m 0 ≤ x.2 ∧ x.2 < secS m 8 := fun x hx => by
      rcases q4 x hx with hx | hx
      · rw [hdw] at hx; simp at hx
      · omega
    have hl0 : live0 { putsW { d with left := P } m 0 (splitC b') with left := l1 } = 0 := by
      unfold live0 there0
      rw [p.len, p.dn, p.de]
      simp
    have hpl1 := p.lf
    by_cases hz : l1 = 0
    · subst hz
      have ef : flushD { putsW { d with left := P } m 0 (splitC b') with left := 0 } = ({ putsW { d with left := P } m 0 (splitC b') with left := 0, dead := true }, 5) := flush_no hl0 rfl
      rw [ef, if_pos (by simp)]
      exact ⟨_, _, _, rfl, .inr rfl, p.len, p.dn, hold _ q1 hws⟩
    · obtain ⟨dF, hdF⟩ : ∃ dF : Dk, { flowD (putsW { d with left := P } m 0 (splitC b')) with left := l1 - 1 } = dF := ⟨_, rfl⟩
      have ef : flushD { putsW { d with left := P } m 0 (splitC b') with left := l1 } = (dF, 0) := by
        rw [flush_pw hl0 hz hpl1, ← hdF]
        rfl
      rw [ef, if_neg (by simp)]
      simp only
      -- what is read behind the flush is what is read of the same puts with all power
      have hPow : Pow d := h.pow
      obtain ⟨_, hpwA⟩ := pow_puts hok (splitC b') d 0 hPow (by omega) hsc
      have hheld := puts_held hok (splitC b') d 0 hPow (by omega)
      have hoth := fun (j : Nat) hj (h9 : j < secS m 0 ∨ secS m (0 + (splitC b').length) ≤ j) => puts_other hok (splitC b') d 0 j hPow hj h9
      have hsame : dF = { flowD (putsW d m 0 (splitC b')) with left := l1 - 1 } := by
        rw [← hdF, putsW_left]
        rfl
      have hLF0 := flow_live hpwA
      have hLF : Live dF := by rw [hsame]; exact live_left hLF0 _
      have hrF : ∀ j : Nat, j < 156 → readD dF j = readD (putsW d m 0 (splitC b')) j := fun j hj => by
        rw [← flow_read hpwA hj, hsame]
        rfl
      have hlF : 0 ≤ dF.left := by rw [hsame]; show 0 ≤ l1 - 1; have : 0 ≤ l1 := hpl1; omega
      have hs4 : ∀ j : Nat, j < 4 → readD dF j = readD d j := fun j hj => by rw [hrF j (by omega), hoth j (by omega) (.inl (by unfold secS; omega))]
      have hfr : Fr dF s.rep 2 o := h.fr.same (hs4 _ (by decide)) (hs4 _ (by decide))
      obtain ⟨d6, d7, d8, c1, c2, c3, c4, c5, c6, o', c7, c8, c9, d9, c10, c11, c12, c13, c14⟩ := crash_heal (body := manB m.idx m.area m.cnt) hLF h.ok.r (.inr rfl) h.ok.n (by rw [manB_len]; decide) hfr hv hlF []
      obtain ⟨k1, k2, k3, _, _⟩ := store_crash (body := manB m.idx m.area m.cnt) hLF h.ok.r (.inr rfl) h.ok.n (by rw [manB_len]; decide) hfr hv hlF []
      clear c2 c3 c4 c5 c6 c7 c8 c9 c10 c11 c12 c13 c14
      have hfin : ∀ keep, ∃ d9 x, openS (anew d6 keep) s.rep inc = (d9, x, 0) ∧ ((x.idx = idx ∧ Tells d9 x b') ∨ ((if 4 ≤ dF.left then (0 : Int) else 5) = 5 ∧ x.idx = s.idx ∧ Tells d9 x b)) := fun keep => by
        obtain ⟨d6', d7, d8, c1', c2, c3, c4, c5, c6, o', c7, c8, c9, d9, c10, c11, c12, c13, c14⟩ := crash_heal (body := manB m.idx m.area m.cnt) hLF h.ok.r (.inr rfl) h.ok.n (by rw [manB_len]; decide) hfr hv hlF keep
        have hd66 : d6' = d6 := by rw [c1] at c1'; exact ((Prod.mk.inj c1').1).symm
        subst hd66
        have hcs := (crash_start (d := d6') keep (by have := k2; rw [c1] at this; exact this) (by have := k3; rw [c1] at this; exact this)).2
        have hd8 : d8 = anew d6' keep := by
          rw [c2] at hcs
          rw [hcs] at c3
          exact ((Prod.mk.inj c3).1).symm
        subst hd8
        have hup9 : upD d9 = true := by unfold upD; rw [c11.len, c11.dn, c11.de]; rfl
        have hr9 : ∀ j : Nat, j < 156 → 4 ≤ j → readD d9 j = readD dF j := fun j hj h4 => by
          rw [c14 j hj (by unfold secC; simp; omega) (by unfold secC; simp; omega), c6 j hj (by unfold secC; simp; omega) (by unfold secC; simp; omega)]
        rcases c7 with ⟨hl4, rfl⟩ | rfl
        · -- the old one
          obtain ⟨x, e1, e2, e3⟩ := open_tells (s := s) (b := b) (o := o') (inc := inc) c4 c9 c10 hup9 h.ok hi c8 h.iss (fun k hk => by
            have hc := h.ok.c
            have ha := h.ok.a
            have hidx : 1 ≤ s.idx := by
              rcases h.is with ⟨_, h2, _⟩ | ⟨h1, _⟩
              · omega
              · exact h1
            have har := area_ne s hidx idx (numC b'.length)
            rw [hm] at har
            have hb := (secS_eq h.ok (k := k) (by omega)).2
            rw [readS_same h.ok (d := d) (show k < 8 by omega), h.read hk]
            intro j h1 h2
            rw [hr9 j (by omega) (by unfold secS at h1; omega), hrF j (by omega), hoth j (by omega)]
            unfold secS at h1 h2 ⊢
            rw [har]
            omega)
          exact ⟨_, x, e1, .inr ⟨by rw [if_neg hl4], e2, e3⟩⟩
        · -- the new one
          have hms : s.rep = m.rep := hmr.symm
          have hokn := next_ok (inc := s.inc) (body := manB m.idx m.area m.cnt) hfr.ok hv h.ok.n (by rw [manB_len]; decide)
          rw [hms] at c9 c10
          obtain ⟨x, e1, e2, e3⟩ := open_tells (s := m) (b := b') (inc := inc) c4 c9 c10 hup9 hok hi hokn (.inr ⟨by have := h.ok.i; omega, hmc, h3, rfl, next_bod _ _ _⟩) (fun k hk => by
            have hlt : k < (splitC b').length := by omega
            have hat := splitC_at b' hlt
            have hheld9 : HeldS d9 m 0 (splitC b') := hheld.same fun i hi => by
              have hb := (secS_eq hok (k := 0 + i) (by omega)).2
              refine ⟨?_, ?_⟩
              · rw [hr9 _ (by omega) (by unfold secS; omega), hrF _ (by omega)]
              · rw [hr9 _ hb (by unfold secS; omega), hrF _ hb]
            have hrr := held_read hheld9 hok hlt (by omega) (by omega) (by rw [hat, hmc]; exact pcC_fits b' h3 (by omega))
            rw [hrr, hat])
          rw [← hms] at e1
          exact ⟨_, x, e1, .inl ⟨by rw [e2, hmi], e3⟩⟩
      rw [c1]
      by_cases h4 : 4 ≤ dF.left
      · rw [if_pos h4, if_neg (by simp)]
        rw [if_pos h4] at hfin
        refine ⟨_, _, _, rfl, .inl rfl, ?_, ?_, hfin⟩
        · have := k2; rw [c1] at this; exact this
        · have := k3; rw [c1] at this; exact this
      · rw [if_neg h4, if_pos (by simp)]
        rw [if_neg h4] at hfin
        refine ⟨_, _, _, rfl, .inr rfl, ?_, ?_, hfin⟩
        · have := k2; rw [c1] at this; exact this
        · have := k3; rw [c1] at this; exact this
  · rw [e, if_pos (by simp)]
    refine ⟨_, _, _, rfl, .inr rfl, by rw [g.pl]; exact h.live.len, g.dn, hold _ g.pl (fun x hx => ?_)⟩
    rcases g.ws x hx with hx | hx
    · rw [hdw] at hx; simp at hx
    · omega
end
end Go.Proofs.YthfolocjkpiljaaGreatDoor

namespace Go.Proofs.YthfolocjkpiljaaGreatDoor
open Go.RowKit

set_option maxRecDepth 100000 in
set_option maxHeartbeats 4000000 in
theorem eitherS_law (a ba ka : Option Addr) (c bc kc : Nat) (ls : List Part) (b : List UInt8) (pw : UInt8) (keep : List Bool) (w : World) (hl : Parts w a ls) (hs : SlB w ba bc b) (hk : Row w ka (keep.map Value.bool)) :
    Calls Tryz.prog 7 #[.slice a ls.length c, .slice ba b.length bc, .int .u8 (pw.toNat : Int), .slice ka keep.length kc] w fun e w' => e = .returned (.bool true) ∧ Below w.heap.size w w' := by
  have hpu := pw.toNat_lt
  cases hg : grS ls
  case true =>
    have HG := Lib.hid hg
    clear hg
    go_enter Tryz.func7, Tryz.ntmps7
    go_wp2_with fail
    refine (sawake_any _).mono ?_
    rintro e w1 ⟨rfl, hb1⟩
    go_wp2_with fail
    refine (lgreatS_any _ c ls _ (parts_kt hl hb1)).mono ?_
    rintro e w2 ⟨rfl, hb2⟩
    rw [HG.out]
    have hb02 := hb1.trans (hb2.mono hb1.size)
    clear hb1 hb2
    go_wp2
    go_ret
    exact ⟨rfl, hb02⟩
  case false =>
  obtain ⟨h6, h640⟩ := grS_no hg
  have HG := Lib.hid hg
  have HL := Lib.hid h640
  clear hg h640
  by_cases hb64 : b.length ≤ 640
  case neg =>
    have hI : (640 : Int) < b.length := by omega
    go_enter Tryz.func7, Tryz.ntmps7
    go_wp2_with fail
    refine (sawake_any _).mono ?_
    rintro e w1 ⟨rfl, hb1⟩
    go_wp2_with fail
    refine (lgreatS_any _ c ls _ (parts_kt hl hb1)).mono ?_
    rintro e w2 ⟨rfl, hb2⟩
    rw [HG.out]
    have hb02 := hb1.trans (hb2.mono hb1.size)
    clear hb1 hb2
    go_wp2
    go_ret
    exact ⟨rfl, hb02⟩
  case pos =>
  have hI : ¬ (640 : Int) < b.length := by omega
  by_cases hk10 : keep.length ≤ 100
  case neg =>
    have hI2 : (100 : Int) < keep.length := by omega
    go_enter Tryz.func7, Tryz.ntmps7
    go_wp2_with fail
    refine (sawake_any _).mono ?_
    rintro e w1 ⟨rfl, hb1⟩
    go_wp2_with fail
    refine (lgreatS_any _ c ls _ (parts_kt hl hb1)).mono ?_
    rintro e w2 ⟨rfl, hb2⟩
    rw [HG.out]
    have hb02 := hb1.trans (hb2.mono hb1.size)
    clear hb1 hb2
    go_wp2
    go_ret
    exact ⟨rfl, hb02⟩
  case pos =>
  have hI2 : ¬ (100 : Int) < keep.length := by omega
  go_enter Tryz.func7, Tryz.ntmps7
  go_wp2_with fail
  refine (sawake_any _).mono ?_
  rintro e w1 ⟨rfl, hb1⟩
  go_wp2_with fail
  refine (lgreatS_any _ c ls _ (parts_kt hl hb1)).mono ?_
  rintro e w2 ⟨rfl, hb2⟩
  rw [HG.out]
  have hb02 := hb1.trans (hb2.mono hb1.size)
  clear hb1 hb2
  go_wp2_with fail
  refine (new156 (B := w.heap.size) hb02.size).mono ?_
  rintro e w3 ⟨⟨g, gp, rfl, D3⟩, hb3⟩
  have k3 := ((Kt.of hb02 (Nat.le_refl w.heap.size)).trans (Kt.of hb3 hb02.size)).kq
  clear hb02 hb3
  go_wp2_with fail
  refine (linst_any D3 k3.bl.size _ c (fun w' hk => parts_kt hl (k3.trans hk).bl) h6 HL.out).mono ?_
  rintro e w4 ⟨⟨q, rfl, hq, d, s, o, ⟨wv4, D4⟩, S4, hh, hi, hv, hr, hc, har⟩, k4'⟩
  have hBq : w.heap.size ≤ q := Nat.le_trans k3.bl.size hq
  have k4 := k3.trans k4'
  clear D3 k3 k4' hq
  obtain ⟨d6, s6, f, e1, e2, e3, e4, e5⟩ := install_crash hh (P := (pw.toNat : Int)) (by omega) (idx := 8 * (ls.length : Int) + 8) (b' := b) (by omega) (by omega) hb64 (by omega) (inc := 2) (by decide)
  obtain ⟨d9, x, f1, f2⟩ := e5 keep
  clear e5
  obtain ⟨g1, g2⟩ := crash_start (d := d6) keep e3 e4
  obtain ⟨d7, hd7⟩ : ∃ d7, crashD d6 keep = (d7, 0) := ⟨(crashD d6 keep).1, by rw [← g1]⟩
  rw [hd7] at g2
  simp only at g2
  rw [hr] at f1
  have HE1 := Lib.hid e1
  have HD7 := Lib.hid hd7
  have HG2 := Lib.hid g2
  have HF1 := Lib.hid f1
  have HLV := Lib.hid (live_left hh.live (pw.toNat : Int))
  have HOK := Lib.hid hh.ok
  have HPW := Lib.hid (power_live hh.live (n := (pw.toNat : Int)) (by omega))
  have HI := Lib.hid hi
  have hup6 : upD { d with left := (pw.toNat : Int) } = true := by unfold upD; rw [(live_left hh.live (pw.toNat : Int)).len, (live_left hh.live (pw.toNat : Int)).dn, (live_left hh.live (pw.toNat : Int)).de]; rfl
  have HUP := Lib.hid hup6
  have HIS := Lib.hid (show s.idx < 8 * (ls.length : Int) + 8 by omega)
  clear e1 e3 e4 g1 hd7 g2 f1 hh hup6
  have hpw := power_any D4 (pw.toNat : Int) (by omega)
  rw [HPW.out] at hpw
  go_wp2_with fail
  refine hpw.mono ?_
  rintro e w5 ⟨rfl, D5, hk5⟩
  (try simp only at D5)
  have S5 := S4.kt hk5
  have k5 := k4.trans hk5.kq
  clear hpw D4 S4 k4 hk5
  have hio := sinst_ok S5 D5 k5.bl.size hBq HOK.out (8 * (ls.length : Int) + 8) ba bc b (hs.below k5.bl) HIS.out (by omega) hb64 HUP.out (by rw [HLV.out.w]; simp)
  rw [HE1.out] at hio
  rcases e2 with rfl | rfl
  case inl =>
    go_wp2_with fail
    refine hio.mono ?_
    rintro e w6 ⟨rfl, ⟨wv6, D6⟩, S6, k6'⟩
    (try simp only at D6)
    have k6 := k5.trans k6'
    clear hio D5 S5 k5 k6' S6
    have hcr := crash_any D6 k6.bl.size ka kc keep (fun w' hk' => hk.below0 (k6.bl.trans hk'.bl))
    rw [HD7.out] at hcr
    go_wp2_with fail
    refine hcr.mono ?_
    rintro e w7 ⟨rfl, ⟨wv7, D7⟩, hk7⟩
    (try simp only at D7)
    have k7 := k6.trans hk7.kq
    clear hcr D6 k6 hk7
    have hsa := start_any D7
    rw [HG2.out] at hsa
    go_wp2_with fail
    refine hsa.mono ?_
    rintro e w8 ⟨rfl, D8, hk8⟩
    (try simp only at D8)
    have k8 := k7.trans hk8.kq
    clear hsa D7 k7 hk8
    have hop := sopen_any D8 k8.bl.size 2 2 (by show ([] : List (List UInt8 × Nat)).length ≤ 1000; simp)
    rw [HF1.out] at hop
    go_wp2_with fail
    refine hop.mono ?_
    rintro e w9 ⟨⟨_, q9, rfl, hq9, S9⟩ | ⟨hx, _⟩, ⟨wv9, D9⟩, k9'⟩
    rotate_left
    · exact absurd rfl hx
    (try simp only at D9)
    have k9 := k8.trans k9'.kq
    clear hop D8 k8 k9' hq9
    rcases f2 with ⟨f3, f4⟩ | ⟨f3, _⟩
    · have hho := lholds_t S9 D9 f4 ba bc (hs.below k9.bl) (8 * (ls.length : Int) + 8)
      rw [decide_eq_true f3, decide_eq_true rfl] at hho
      go_wp2_with fail
      refine hho.mono ?_
      rintro e w10 ⟨rfl, hb10⟩
      go_wp2
      go_ret
      exact ⟨rfl, k9.bl.trans (hb10.mono k9.bl.size)⟩
    · exact absurd f3 (by decide)
  case inr =>
    go_wp2_with fail
    refine hio.mono ?_
    rintro e w6 ⟨rfl, ⟨wv6, D6⟩, S6, k6'⟩
    (try simp only at D6)
    have k6 := k5.trans k6'
    clear hio D5 S5 k5 k6' S6
    have hcr := crash_any D6 k6.bl.size ka kc keep (fun w' hk' => hk.below0 (k6.bl.trans hk'.bl))
    rw [HD7.out] at hcr
    go_wp2_with fail
    refine hcr.mono ?_
    rintro e w7 ⟨rfl, ⟨wv7, D7⟩, hk7⟩
    (try simp only at D7)
    have k7 := k6.trans hk7.kq
    clear hcr D6 k6 hk7
    have hsa := start_any D7
    rw [HG2.out] at hsa
    go_wp2_with fail
    refine hsa.mono ?_
    rintro e w8 ⟨rfl, D8, hk8⟩
    (try simp only at D8)
    have k8 := k7.trans hk8.kq
    clear hsa D7 k7 hk8
    have hop := sopen_any D8 k8.bl.size 2 2 (by show ([] : List (List UInt8 × Nat)).length ≤ 1000; simp)
    rw [HF1.out] at hop
    go_wp2_with fail
    refine hop.mono ?_
    rintro e w9 ⟨⟨_, q9, rfl, hq9, S9⟩ | ⟨hx, _⟩, ⟨wv9, D9⟩, k9'⟩
    rotate_left
    · exact absurd rfl hx
    (try simp only at D9)
    have k9 := k8.trans k9'.kq
    clear hop D8 k8 k9' hq9
    rcases f2 with ⟨f3, f4⟩ | ⟨_, f3, f4⟩
    · have hho := lholds_t S9 D9 f4 ba bc (hs.below k9.bl) (8 * (ls.length : Int) + 8)
      rw [decide_eq_true f3, decide_eq_true rfl] at hho
      go_wp2_with fail
      refine hho.mono ?_
      rintro e w10 ⟨rfl, hb10⟩
      go_wp2
      go_ret
      exact ⟨rfl, k9.bl.trans (hb10.mono k9.bl.size)⟩
    · have hho := lholds_t S9 D9 f4 ba bc (hs.below k9.bl) (8 * (ls.length : Int) + 8)
      rw [decide_eq_false (show ¬ x.idx = 8 * (ls.length : Int) + 8 by rw [f3, HI.out]; omega), Bool.false_and] at hho
      have HF3 := Lib.hid (f3.trans HI.out)
      clear f3
      go_wp2_with fail
      refine hho.mono ?_
      rintro e w10 ⟨rfl, hb10⟩
      have S10 := S9.below hb10
      have D10 := D9.below hb10
      have k10 := k9.trans (Kt.of hb10 k9.bl.size).kq
      clear hho S9 D9 k9 hb10
      by_cases h0 : ls.length = 0
      case pos =>
        have hI9 : ¬ (0 : Int) < ls.length := by omega
        have f5 : Tells d9 x [] := by
          have := f4
          rw [h0] at this
          exact this
        have hho := lholds_t S10 D10 f5 none 0 (sl_nil _) (8 * (ls.length : Int))
        rw [decide_eq_true HF3.out, decide_eq_true rfl] at hho
        clear h0
        go_wp2_with fail
        refine hho.mono ?_
        rintro e w11 ⟨rfl, hb11⟩
        go_wp2
        go_ret
        exact ⟨rfl, k10.bl.trans (hb11.mono k10.bl.size)⟩
      case neg =>
        have hI9 : (0 : Int) < ls.length := by omega
        obtain ⟨m, hm⟩ : ∃ m, ls.length = m + 1 := ⟨ls.length - 1, by omega⟩
        obtain ⟨xa, xc, xb, hlp, hat⟩ := last_slb hm
        rw [hlp] at f4
        obtain ⟨hmlt, hat2⟩ := List.getElem?_eq_some_iff.1 hat
        obtain ⟨b1, o1, rfl⟩ := hl.addr (by omega)
        have hx := (parts_kt hl k10.bl).each _ (List.getElem_mem hmlt)
        have hc4 := (parts_kt hl k10.bl).cell hmlt
        rw [hat2] at hx hc4
        simp only at hx
        unfold partV at hc4
        simp only at hc4
        have hsub : (ls.length : Int) - 1 = (m : Int) := by omega
        have hho := lholds_t S10 D10 f4 xa xc hx (8 * (ls.length : Int))
        rw [decide_eq_true HF3.out, decide_eq_true rfl] at hho
        have HM := Lib.hid hm
        clear hlp hm hat hat2 h0
        go_wp2_with fail
        refine hho.mono ?_
        rintro e w11 ⟨rfl, hb11⟩
        go_wp2
        go_ret
        exact ⟨rfl, k10.bl.trans (hb11.mono k10.bl.size)⟩
end Go.Proofs.YthfolocjkpiljaaGreatDoor

namespace Go.Proofs.YthfolocjkpiljaaGreatDoor
open Go.ChangeShapes Go.WideShapes Go.ChangeAt Go.RowKit
variable {H : Type} {enc : TypeId × Value → H} {P : Program}

theorem open_row_ints {W : World} {base : Nat} {sp : Nat → Bool} {hd : Bool} {b0 : Nat} {t e : TypeId} {k : IntKind} {v : Value} {d : DataW H} {p : List MemPlace}
    (ht : P.underlying t = some (.slice e)) (he : P.underlying e = some (.int k)) (hc : P.cellsOf e = 1) (hv : Value.okWide P W .any base t v) (h : DataW.Trod enc P W b0 sp hd t v d p) :
    ∃ (a : Option Addr) (l : List Int) (cap : Nat), v = .slice a l.length cap ∧ Row W a (l.map (Value.int k)) ∧ l.length ≤ cap ∧ cap ≤ maxLen ∧ ∀ n ∈ l, (Lit.int k n).wf = true := by
  obtain ⟨a0, len, cap, rfl⟩ := okWide_slice ht hv
  obtain ⟨fuel, hf⟩ := h
  rcases open_ints ht he hc hf with ⟨hcs, hx⟩ | ⟨a, len', cap', zs, hcs, _, hl, hm, hz, hx, hcell, hwz⟩
  · simp [Value.cells] at hcs
    obtain ⟨rfl, rfl, rfl⟩ := hcs
    exact ⟨none, [], 0, rfl, .inl rfl, Nat.le_refl _, by simp, by simp⟩
  · simp [Value.cells] at hcs
    obtain ⟨rfl, rfl, rfl⟩ := hcs
    have hlen : len ≤ zs.length := by rw [hz]; split <;> omega
    refine ⟨some a, zs.take len, cap, by simp; omega, ?_, by simp; omega, hm, fun n hn => hwz n (List.mem_of_mem_take hn)⟩
    by_cases h0 : len = 0
    · left; simp [h0]
    · right
      obtain ⟨b, off, rfl, hc'⟩ := ints_at hcell (by omega)
      refine ⟨b, off, rfl, fun i u hu => ?_⟩
      have hi := (List.getElem?_eq_some_iff.1 hu).1
      simp only [List.length_map, List.length_take] at hi
      rw [hc' i (by omega)]
      simp only [List.getElem?_map, List.getElem?_take_of_lt (show i < len by omega), Option.map_eq_some_iff] at hu
      obtain ⟨z, hz2, rfl⟩ := hu
      rw [List.getD_eq_getElem?_getD, hz2]
      rfl
end Go.Proofs.YthfolocjkpiljaaGreatDoor

namespace Go.Proofs.YthfolocjkpiljaaGreatDoor
open Go.ChangeShapes Go.WideShapes Go.ChangeAt Go.RowKit

theorem cellsU8 : Tryz.prog.cellsOf 5 = 1 := by kernel_rfl
set_option maxRecDepth 100000 in
theorem open_bytes {H : Type} {enc : TypeId × Value → H} {W : World} {base : Nat} {sp : Nat → Bool} {hd : Bool} {b0 : Nat} {v : Value} {d : DataW H} {p : List MemPlace}
    (hv : Value.okWide Tryz.prog W .any base 34 v) (h : DataW.Trod enc Tryz.prog W b0 sp hd 34 v d p) : ∃ (a : Option Addr) (l : List UInt8) (cap : Nat), v = .slice a l.length cap ∧ SlB W a cap l := by
  obtain ⟨a, l, cap, rfl, hr, hl, hc, hw⟩ := open_row_ints Tryz.underlying34 Tryz.underlying5 cellsU8 hv h
  have hnil : a = none → cap = 0 := by
    rintro rfl
    obtain ⟨fuel, hf⟩ := h
    rcases open_ints Tryz.underlying34 Tryz.underlying5 cellsU8 hf with ⟨hcs, hx⟩ | ⟨a, len', cap', zs, hcs, _⟩
    · simp [Value.cells] at hcs
      exact hcs.2
    · simp [Value.cells] at hcs
  have hb : ∀ n ∈ l, 0 ≤ n ∧ n < 256 := fun n hn => by
    have h1 := hw n hn
    have m0 : IntKind.u8.min = 0 := by decide
    have m1 : IntKind.u8.max = 255 := by decide
    replace h1 : (decide (IntKind.u8.min ≤ n) && decide (n ≤ IntKind.u8.max)) = true := h1
    rw [m0, m1, Bool.and_eq_true, decide_eq_true_eq, decide_eq_true_eq] at h1
    omega
  refine ⟨a, l.map (fun n => UInt8.ofNat n.toNat), cap, by simp, ?_, by simpa using hl, hc, hnil⟩
  have e : bys (l.map (fun n => UInt8.ofNat n.toNat)) = l.map (Value.int .u8) := by
    unfold bys
    rw [List.map_map]
    refine List.map_congr_left fun n hn => ?_
    have := hb n hn
    simp only [Function.comp, byv]
    rw [show ((UInt8.ofNat n.toNat).toNat : Int) = n by rw [UInt8.toNat_ofNat']; omega]
  rw [e]
  exact hr

theorem open_u8 {H : Type} {enc : TypeId × Value → H} {W : World} {sp : Nat → Bool} {hd : Bool} {b0 : Nat} {v : Value} {d : DataW H} {p : List MemPlace} (hv : ∃ x, v = .int .u8 x)
    (h : DataW.Trod enc Tryz.prog W b0 sp hd 5 v d p) : ∃ x : UInt8, v = .int .u8 x.toNat := by
  obtain ⟨y, rfl⟩ := hv
  obtain ⟨fuel, hf⟩ := h
  obtain ⟨n, q, hw, h1⟩ := DataW.trod_int Tryz.underlying5 hf
  simp [Value.cells] at q
  subst q
  have m0 : IntKind.u8.min = 0 := by decide
  have m1 : IntKind.u8.max = 255 := by decide
  replace h1 : (decide (IntKind.u8.min ≤ y) && decide (y ≤ IntKind.u8.max)) = true := h1
  rw [m0, m1, Bool.and_eq_true, decide_eq_true_eq, decide_eq_true_eq] at h1
  exact ⟨UInt8.ofNat y.toNat, by rw [show ((UInt8.ofNat y.toNat).toNat : Int) = y by rw [UInt8.toNat_ofNat']; omega]⟩
end Go.Proofs.YthfolocjkpiljaaGreatDoor

namespace Go.Proofs.YthfolocjkpiljaaGreatDoor
open Go.ChangeShapes Go.WideShapes Go.ChangeAt Go.RowKit
section
variable {H : Type} {enc : TypeId × Value → H} {P : Program} {w : World} {base : Nat} {spare : Nat → Bool} {held : Bool}
theorem trodAll_4 {t0 t1 t2 t3 : TypeId} {args : Array Value} {ds : List (DataW H)} {ps : List MemPlace} (h : DataW.TrodAll enc P w base spare held [t0, t1, t2, t3] args.toList ds ps) :
    ∃ v0 v1 v2 v3 d0 d1 d2 d3 p0 p1 p2 p3, args = #[v0, v1, v2, v3] ∧ ds = [d0, d1, d2, d3] ∧ ps = p0 ++ p1 ++ p2 ++ p3 ∧ DataW.Trod enc P w base spare held t0 v0 d0 p0 ∧ DataW.Trod enc P w base spare held t1 v1 d1 p1 ∧ DataW.Trod enc P w base spare held t2 v2 d2 p2 ∧ DataW.Trod enc P w base spare held t3 v3 d3 p3 := by
  obtain ⟨v0, vs0, d0, e0, p0, q0, hargs, rfl, rfl, h0, r0⟩ := trodAll_cons h
  obtain ⟨v1, vs1, d1, e1, p1, q1, rfl, rfl, rfl, h1, r1⟩ := trodAll_cons r0
  obtain ⟨v2, vs2, d2, e2, p2, q2, rfl, rfl, rfl, h2, r2⟩ := trodAll_cons r1
  obtain ⟨v3, vs3, d3, e3, p3, q3, rfl, rfl, rfl, h3, r3⟩ := trodAll_cons r2
  obtain ⟨rfl, rfl, rfl⟩ := trodAll_nil r3
  exact ⟨v0, v1, v2, v3, d0, d1, d2, d3, p0, p1, p2, p3, by cases args; simp_all, rfl, by simp, h0, h1, h2, h3⟩
theorem trodAll_5 {t0 t1 t2 t3 t4 : TypeId} {args : Array Value} {ds : List (DataW H)} {ps : List MemPlace} (h : DataW.TrodAll enc P w base spare held [t0, t1, t2, t3, t4] args.toList ds ps) :
    ∃ v0 v1 v2 v3 v4 d0 d1 d2 d3 d4 p0 p1 p2 p3 p4, args = #[v0, v1, v2, v3, v4] ∧ ds = [d0, d1, d2, d3, d4] ∧ ps = p0 ++ p1 ++ p2 ++ p3 ++ p4 ∧ DataW.Trod enc P w base spare held t0 v0 d0 p0 ∧ DataW.Trod enc P w base spare held t1 v1 d1 p1 ∧ DataW.Trod enc P w base spare held t2 v2 d2 p2 ∧ DataW.Trod enc P w base spare held t3 v3 d3 p3 ∧ DataW.Trod enc P w base spare held t4 v4 d4 p4 := by
  obtain ⟨v0, vs0, d0, e0, p0, q0, hargs, rfl, rfl, h0, r0⟩ := trodAll_cons h
  obtain ⟨v1, vs1, d1, e1, p1, q1, rfl, rfl, rfl, h1, r1⟩ := trodAll_cons r0
  obtain ⟨v2, vs2, d2, e2, p2, q2, rfl, rfl, rfl, h2, r2⟩ := trodAll_cons r1
  obtain ⟨v3, vs3, d3, e3, p3, q3, rfl, rfl, rfl, h3, r3⟩ := trodAll_cons r2
  obtain ⟨v4, vs4, d4, e4, p4, q4, rfl, rfl, rfl, h4, r4⟩ := trodAll_cons r3
  obtain ⟨rfl, rfl, rfl⟩ := trodAll_nil r4
  exact ⟨v0, v1, v2, v3, v4, d0, d1, d2, d3, d4, p0, p1, p2, p3, p4, by cases args; simp_all, rfl, by simp, h0, h1, h2, h3, h4⟩
theorem trodAll_6 {t0 t1 t2 t3 t4 t5 : TypeId} {args : Array Value} {ds : List (DataW H)} {ps : List MemPlace} (h : DataW.TrodAll enc P w base spare held [t0, t1, t2, t3, t4, t5] args.toList ds ps) :
    ∃ v0 v1 v2 v3 v4 v5 d0 d1 d2 d3 d4 d5 p0 p1 p2 p3 p4 p5, args = #[v0, v1, v2, v3, v4, v5] ∧ ds = [d0, d1, d2, d3, d4, d5] ∧ ps = p0 ++ p1 ++ p2 ++ p3 ++ p4 ++ p5 ∧ DataW.Trod enc P w base spare held t0 v0 d0 p0 ∧ DataW.Trod enc P w base spare held t1 v1 d1 p1 ∧ DataW.Trod enc P w base spare held t2 v2 d2 p2 ∧ DataW.Trod enc P w base spare held t3 v3 d3 p3 ∧ DataW.Trod enc P w base spare held t4 v4 d4 p4 ∧ DataW.Trod enc P w base spare held t5 v5 d5 p5 := by
  obtain ⟨v0, vs0, d0, e0, p0, q0, hargs, rfl, rfl, h0, r0⟩ := trodAll_cons h
  obtain ⟨v1, vs1, d1, e1, p1, q1, rfl, rfl, rfl, h1, r1⟩ := trodAll_cons r0
  obtain ⟨v2, vs2, d2, e2, p2, q2, rfl, rfl, rfl, h2, r2⟩ := trodAll_cons r1
  obtain ⟨v3, vs3, d3, e3, p3, q3, rfl, rfl, rfl, h3, r3⟩ := trodAll_cons r2
  obtain ⟨v4, vs4, d4, e4, p4, q4, rfl, rfl, rfl, h4, r4⟩ := trodAll_cons r3
  obtain ⟨v5, vs5, d5, e5, p5, q5, rfl, rfl, rfl, h5, r5⟩ := trodAll_cons r4
  obtain ⟨rfl, rfl, rfl⟩ := trodAll_nil r5
  exact ⟨v0, v1, v2, v3, v4, v5, d0, d1, d2, d3, d4, d5, p0, p1, p2, p3, p4, p5, by cases args; simp_all, rfl, by simp, h0, h1, h2, h3, h4, h5⟩
end
end Go.Proofs.YthfolocjkpiljaaGreatDoor

