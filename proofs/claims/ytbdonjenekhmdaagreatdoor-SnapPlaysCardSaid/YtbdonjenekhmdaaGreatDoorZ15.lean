/- Texts that the claim leans on, part 15: C11, G13, G14, G15, C12, C23, C24, C25. -/
import Derived.Test.YtbdonjenekhmdaaGreatDoorZ1
import Derived.Test.YtbdonjenekhmdaaGreatDoorZ2
import Derived.Test.YtbdonjenekhmdaaGreatDoorZ3
import Derived.Test.YtbdonjenekhmdaaGreatDoorZ4
import Derived.Test.YtbdonjenekhmdaaGreatDoorZ5
import Derived.Test.YtbdonjenekhmdaaGreatDoorZ6
import Derived.Test.YtbdonjenekhmdaaGreatDoorZ7
import Derived.Test.YtbdonjenekhmdaaGreatDoorZ8
import Derived.Test.YtbdonjenekhmdaaGreatDoorZ9
import Derived.Test.YtbdonjenekhmdaaGreatDoorZ10
import Derived.Test.YtbdonjenekhmdaaGreatDoorZ11
import Derived.Test.YtbdonjenekhmdaaGreatDoorZ12
import Derived.Test.YtbdonjenekhmdaaGreatDoorZ13
import Derived.Test.YtbdonjenekhmdaaGreatDoorZ14
import Derived.Test.YtbdonjenekhmdaaGreatDoorRows
import Derived.WalkKit
import Derived.WalkSpells
import Derived.WalkLawsBesides
import Derived.Handy
import Derived.Deep.QuietTactic
import Derived.BigQuiet
import Derived.Deep.DeepCutAuto
import Derived.Lib.Hide
import Derived.RegionTactic
import Derived.ChangeAlike
import Derived.Laws.ResultCell
import Derived.Outline
import Derived.IntWalk
import Derived.Laws.MakeOwn
import Derived.Laws.OwnMore
import Derived.Laws.BitsAllLaws
import Derived.Laws.IdiomStrings
import Derived.Laws.BytesArg
import Derived.Carry
import Derived.Maps.Own
import Derived.Maps.Keyed
import Derived.RangeFuncNested
import Derived.RangeFuncBound
import Derived.RangeFuncCalls
import Derived.RangeFuncLeaves
import Derived.RangeFuncBox
import Derived.RangeFuncRecord
import Derived.Shelf.Abstract
import Derived.Shelf.RegionOpen
import Derived.OwnWalkIn
import Derived.TacticsInMore
import Derived.LoopNIn
import Derived.LoopIn
import Derived.OrdersIn
import Derived.OrdersHeld
import Derived.Maps.AppendAt
import Derived.Lib.SliceRun
import Derived.Great.BuildSlice
import Derived.Great.FillDense
import Derived.Laws.Rows
import Derived.Deep.Quiet
import Derived.Deep.RegionHeld3
import Derived.ProofKit
import Derived.OpenShut
import Derived.Deep.RegionHeld
import Derived.Laws.CopyOwn
import Derived.Laws.CopyRow
import Derived.Laws.NewBlocks
import Derived.Deep.RegionLaw
namespace Go.Proofs.YtbdonjenekhmdaaGreatDoor
open Go.RowKit
theorem RDoes.f {B g : Nat} {w w' : World} {d : Dk} (h : RDoes B g rT w d w') : RDoes B g fT w d w' := ⟨h.1, h.2.f⟩
section
variable {B g : Nat} {q0 : RQ} {d : Dk} {w : World}
end
end Go.Proofs.YtbdonjenekhmdaaGreatDoor
namespace Go.Proofs.YtbdonjenekhmdaaGreatDoor
open Go.RowKit
set_option maxRecDepth 100000 in
theorem lwide_any (t : Tg) (w : World) : Calls Tryz.prog 61 #[tgV t] w fun e w' => e = .returned (.int .i64 (wideT t : Nat)) ∧ Below w.heap.size w w' := by
 have hm := tmay_any t (w.alloc (Obj.cells #[.int .i64 t.rep, .int .i64 t.reg, .int .i64 t.pla, .int .i64 t.idx, .int .i64 t.inc] 39))
 have hwi := fun w => wide_any t.reg w
 have hbw := blw w (Obj.cells #[.int .i64 t.rep, .int .i64 t.reg, .int .i64 t.pla, .int .i64 t.idx, .int .i64 t.inc] 39)
 have B0 := heap_alloc_new w (Obj.cells #[.int .i64 t.rep, .int .i64 t.reg, .int .i64 t.pla, .int .i64 t.idx, .int .i64 t.inc] 39)
 have hqs := hbw.size
 have c0 : (w.alloc (Obj.cells #[.int .i64 t.rep, .int .i64 t.reg, .int .i64 t.pla, .int .i64 t.idx, .int .i64 t.inc] 39)).cell? ⟨w.heap.size, 0, none⟩ = some (.int .i64 t.rep) := blk_cell B0 0 _ rfl
 have c1 : (w.alloc (Obj.cells #[.int .i64 t.rep, .int .i64 t.reg, .int .i64 t.pla, .int .i64 t.idx, .int .i64 t.inc] 39)).cell? ⟨w.heap.size, 1, none⟩ = some (.int .i64 t.reg) := blk_cell B0 1 _ rfl
 have c2 : (w.alloc (Obj.cells #[.int .i64 t.rep, .int .i64 t.reg, .int .i64 t.pla, .int .i64 t.idx, .int .i64 t.inc] 39)).cell? ⟨w.heap.size, 2, none⟩ = some (.int .i64 t.pla) := blk_cell B0 2 _ rfl
 have c3 : (w.alloc (Obj.cells #[.int .i64 t.rep, .int .i64 t.reg, .int .i64 t.pla, .int .i64 t.idx, .int .i64 t.inc] 39)).cell? ⟨w.heap.size, 3, none⟩ = some (.int .i64 t.idx) := blk_cell B0 3 _ rfl
 have c4 : (w.alloc (Obj.cells #[.int .i64 t.rep, .int .i64 t.reg, .int .i64 t.pla, .int .i64 t.idx, .int .i64 t.inc] 39)).cell? ⟨w.heap.size, 4, none⟩ = some (.int .i64 t.inc) := blk_cell B0 4 _ rfl
 clear B0
 cases ht : mayTg t
 case false =>
  rw [show wideT t = 0 by unfold wideT; rw [ht]; rfl]
  rw [ht] at hm
  clear ht
  go_enter Tryz.func61, Tryz.ntmps61
  refine seqH (fun K HK => ?_)
  go_wp2
  refine HK.out _ _ ?_
  clear HK
  generalize w.alloc (Obj.cells #[.int .i64 t.rep, .int .i64 t.reg, .int .i64 t.pla, .int .i64 t.idx, .int .i64 t.inc] 39) = w0 at *
  generalize w.heap.size = q at *
  go_wp2_with (go_at_call 139; refine hm.mono ?_; rintro e w1 ⟨rfl, hb1⟩)
  go_ret
  exact ⟨rfl, hbw.trans (hb1.mono hqs)⟩
 case true =>
  rw [(wide_may ht).1]
  rw [ht] at hm
  clear ht
  go_enter Tryz.func61, Tryz.ntmps61
  refine seqH (fun K HK => ?_)
  go_wp2
  refine HK.out _ _ ?_
  clear HK
  generalize w.alloc (Obj.cells #[.int .i64 t.rep, .int .i64 t.reg, .int .i64 t.pla, .int .i64 t.idx, .int .i64 t.inc] 39) = w0 at *
  generalize w.heap.size = q at *
  go_wp2_with (first
   | (go_at_call 139; refine hm.mono ?_; rintro e w1 ⟨rfl, hb1⟩; have d1 := cell_later hb1 c1)
   | (go_at_call 111; refine (hwi _).mono ?_; rintro e w2 ⟨rfl, hb2⟩))
  go_ret
  exact ⟨rfl, hbw.trans ((hb1.trans (hb2.mono hb1.size)).mono hqs)⟩
/-! Acts of layer 6 that came in. -/
def a6L (x : A6) : List Value := [.bool x.sl, .int .i64 x.tg.rep, .int .i64 x.tg.reg, .int .i64 x.tg.pla, .int .i64 x.tg.idx, .int .i64 x.tg.inc, .slice x.oa x.body.length x.oc, .int .u8 (x.dk.kind : Int), .int .i64 x.dk.sec, .int .i64 x.dk.n, .slice x.dk.ba x.dk.bytes.length x.dk.bc, .slice x.dk.ka x.dk.keep.length x.dk.kc]
def a6A (x : A6) : Array Value := (a6L x).toArray
def a6V (x : A6) : Value := .agg (a6A x)
structure A6in (w : World) (x : A6) : Prop where
 b : SlB w x.oa x.oc x.body
 d : A5in w x.dk
 k : x.dk.kind < 256
 n : x.dk.n ≤ 9223372036854775807
theorem A6in.below {w w' : World} {x : A6} (h : A6in w x) (hb : Below w.heap.size w w') : A6in w' x := ⟨h.b.below hb, h.d.below hb, h.k, h.n⟩
structure Acts (w : World) (a : Option Addr) (l : List A6) : Prop where
 each : ∀ (j : Nat) (hj : j < l.length), ∃ b off, a = some ⟨b, off, none⟩ ∧ (∀ r u, (a6L l[j])[r]? = some u → w.cell? ⟨b, off + j * 12 + r, none⟩ = some u) ∧ A6in w l[j]
theorem Acts.below {w w' : World} {a : Option Addr} {l : List A6} (h : Acts w a l) (hb : Below w.heap.size w w') : Acts w' a l :=
 ⟨fun j hj => by
  obtain ⟨b, off, e, hc, hi⟩ := h.each j hj
  exact ⟨b, off, e, fun r u hu => cell_later hb (hc r u hu), hi.below hb⟩⟩
def gr6x (x : A6) : Bool := decide (100 < x.body.length) || gr5 x.dk
def gr6 (l : List A6) : Bool := decide (60 < l.length) || l.any gr6x
theorem gr6_no {l : List A6} (h : gr6 l = false) : l.length ≤ 60 ∧ ∀ x ∈ l, x.body.length ≤ 100 ∧ x.dk.bytes.length ≤ 200 ∧ x.dk.keep.length ≤ 100 := by
 unfold gr6 at h
 rw [Bool.or_eq_false_iff] at h
 refine ⟨by have := of_decide_eq_false h.1; omega, fun x hx => ?_⟩
 have h2 := List.any_eq_false.1 h.2 x hx
 unfold gr6x gr5 at h2
 simp at h2
 omega
theorem any_snoc6 {l : List A6} {j : Nat} (h : j < l.length) (f : A6 → Bool) : (l.take (j + 1)).any f = ((l.take j).any f || f l[j]) := by
 rw [List.take_succ_eq_append_getElem h, List.any_append, List.any_cons, List.any_nil, Bool.or_false]
set_option maxRecDepth 100000 in
set_option maxHeartbeats 4000000 in
theorem lgreat_any (a : Option Addr) (cap : Nat) (l : List A6) (w : World) (hp : Acts w a l) : Calls Tryz.prog 32 #[.slice a l.length cap] w fun e w' => e = .returned (.bool (gr6 l)) ∧ Below w.heap.size w w' := by
 unfold gr6
 by_cases h60 : 60 < l.length
 case pos =>
  rw [decide_eq_true h60, Bool.true_or]
  have hI : (60 : Int) < l.length := by omega
  go_enter Tryz.func32, Tryz.ntmps32
  go_wp2
  go_ret
  exact ⟨rfl, Below.refl _ _⟩
 case neg =>
  rw [decide_eq_false h60, Bool.false_or]
  have hI : ¬ (60 : Int) < l.length := by omega
  obtain ⟨r, hr⟩ : ∃ r, l.any gr6x = r := ⟨_, rfl⟩
  rw [hr]
  have HR := Lib.hid hr
  clear hr
  go_enter Tryz.func32, Tryz.ntmps32
  refine seqH (fun K HK => ?_)
  go_wp2
  refine HK.out _ _ ?_
  clear HK
  refine seqH (fun K HK => ?_)
  go_wp2
  refine HK.out _ _ ?_
  clear HK
  refine seqH (fun K HK => ?_)
  go_wp2_with fail
  go_loopw [3] (fun i wr => ∃ j : Nat, j ≤ l.length ∧ i = .int .i64 (j : Nat) ∧ Hid ((l.take j).any gr6x = false) ∧ Below w.heap.size w wr) (fun i _ => l.length - (intOf i).toNat)
  case atStart => exact ⟨0, by omega, rfl, Lib.hid rfl, Below.refl _ _⟩
  case round =>
   obtain ⟨j, hj, rfl, ha, hbr⟩ := hrel
   by_cases hlt : j < l.length
   case neg =>
    obtain rfl : j = l.length := by omega
    have hrf : r = false := by have h := ha.out; rw [List.take_length] at h; exact HR.out.symm.trans h
    subst hrf
    clear ha HR
    go_wp2
    refine HK.out _ _ ?_
    clear HK
    go_wp2
    go_ret
    exact ⟨rfl, hbr⟩
   case pos =>
    obtain ⟨b, off, rfl, hc, hi⟩ := (hp.below hbr).each j hlt
    have hsn := any_snoc6 hlt gr6x
    rw [ha.out, Bool.false_or] at hsn
    have hmem := List.getElem_mem hlt
    have hrt : gr6x l[j] = true → r = true := fun h => by
     rw [← HR.out, List.any_eq_true]
     exact ⟨_, hmem, h⟩
    generalize l[j] = x at *
    have c6 := hc 6 _ rfl
    have c7 := hc 7 _ rfl
    have c8 := hc 8 _ rfl
    have c9 := hc 9 _ rfl
    have c10 := hc 10 _ rfl
    have c11 := hc 11 _ rfl
    have HSN := Lib.hid hsn
    have HRT := Lib.hid hrt
    clear hsn hrt hmem ha hc
    by_cases h1 : 100 < x.body.length
    ·have hI2 : (100 : Int) < x.body.length := by omega
     obtain rfl := HRT.out (by unfold gr6x; rw [decide_eq_true h1]; rfl)
     clear HRT HSN HR
     go_wp2
     go_ret
     exact ⟨rfl, hbr⟩
    ·have hI2 : ¬ (100 : Int) < x.body.length := by omega
     have hx : gr6x x = gr5 x.dk := by unfold gr6x; rw [decide_eq_false h1, Bool.false_or]
     obtain ⟨gx, hgx⟩ : ∃ gx, gr5 x.dk = gx := ⟨_, rfl⟩
     rw [hgx] at hx
     have HGX := Lib.hid hgx
     have HX := Lib.hid hx
     clear hgx hx
     have hbx := blw wr (Obj.cells (a5A x.dk) 42)
     have hg5 := great5_any x.dk wr.heap.size 42 (wr.alloc (Obj.cells (a5A x.dk) 42)) (heap_alloc_new wr _)
     rw [HGX.out] at hg5
     cases gx
     ·go_wp2_with (go_at_call 95; refine hg5.mono ?_; rintro e w5 ⟨rfl, rfl⟩)
      go_roundw
      case rel => exact ⟨j + 1, by omega, by go_num, Lib.hid (by rw [HSN.out]; exact HX.out), hbr.trans (hbx.mono hbr.size)⟩
      case measure => simp [intOf]; omega
     ·obtain rfl := HRT.out HX.out
      clear HRT HSN HR
      go_wp2_with (go_at_call 95; refine hg5.mono ?_; rintro e w5 ⟨rfl, rfl⟩)
      go_ret
      exact ⟨rfl, hbr.trans (hbx.mono hbr.size)⟩
/-! A frame in memory. -/
def FrIn (w : World) (G C : Nat) (b : List UInt8) : Prop := b.length ≤ C ∧ C ≤ maxLen ∧ ∃ cur : List Value, w.heap[G]? = some (.cells cur.toArray 5 (0, 0)) ∧ ∀ (i : Nat) (u : Value), (bys b)[i]? = some u → cur[i]? = some u
section
variable {w w' : World} {G C : Nat} {b : List UInt8}
theorem FrIn.kt {B : Nat} (h : FrIn w G C b) (hk : Kt B w w') : FrIn w' G C b := by
 obtain ⟨h1, h2, cur, h3, h4⟩ := h
 exact ⟨h1, h2, cur, hk.ty _ _ _ h3 (by decide) (by decide) (by decide), h4⟩
theorem FrIn.below (h : FrIn w G C b) (hb : Below w.heap.size w w') : FrIn w' G C b := by
 obtain ⟨h1, h2, cur, h3, h4⟩ := h
 exact ⟨h1, h2, cur, tr_bl hb h3, h4⟩
theorem FrIn.piece (h : FrIn w G C b) {k : Nat} (hk : 64 * k + 64 ≤ b.length) : SlB w (some ⟨G, 64 * k, none⟩) (C - 64 * k) (pcD b k) := by
 obtain ⟨h1, h2, cur, h3, h4⟩ := h
 have hl : (pcD b k).length = 64 := by unfold pcD; rw [List.length_take, List.length_drop]; omega
 refine ⟨Row.of_block h3 (64 * k) (fun i u hu => ?_), by omega, by omega, fun e => by cases e⟩
 refine h4 _ _ ?_
 have hi := (List.getElem?_eq_some_iff.1 hu).1
 rw [bys_len, hl] at hi
 unfold bys pcD at hu
 rw [List.getElem?_map, List.getElem?_take_of_lt hi, List.getElem?_drop] at hu
 unfold bys
 rw [List.getElem?_map]
 exact hu
theorem FrIn.of_owns {base : Nat} {v : Value} (h : w.ownsRow base 5 1 v b.length (bys b)) (hb : 0 < b.length) : ∃ G C, v = .slice (some ⟨G, 0, none⟩) b.length C ∧ base ≤ G ∧ FrIn w G C b := by
 rcases h.2 with ⟨h1, h2⟩ | ⟨g, cap, cur, h1, h2, h3, h4, h5, h6, h7⟩
 ·omega
 ·refine ⟨g, cap, h1, h2, h4, h5, cur.toList, by rw [Array.toArray_toList]; exact h3, fun i u hu => ?_⟩
  have hi := (List.getElem?_eq_some_iff.1 hu).1
  rw [bys_len] at hi
  rw [← h7, List.getElem?_take_of_lt (by omega)] at hu
  exact hu
end
end Go.Proofs.YtbdonjenekhmdaaGreatDoor
namespace Go.Proofs.YtbdonjenekhmdaaGreatDoor
open Go.RowKit
section
variable {w : World} {q : Nat} {t : Tg} {T : TypeId}
end
theorem pcD_len {b : List UInt8} {k : Nat} (h : 64 * k + 64 ≤ b.length) : (pcD b k).length = 64 := by unfold pcD; rw [List.length_take, List.length_drop]; omega
section
variable {B g gp : Nat} {wv : Value} {d : Dk} {w : World}
end
end Go.Proofs.YtbdonjenekhmdaaGreatDoor
namespace Go.Proofs.YtbdonjenekhmdaaGreatDoor
open Go.RowKit
theorem a6_tg (x : A6) : 1 + 5 ≤ (a6A x).size ∧ (a6A x).extract 1 (1 + 5) = #[Value.int .i64 x.tg.rep, .int .i64 x.tg.reg, .int .i64 x.tg.pla, .int .i64 x.tg.idx, .int .i64 x.tg.inc] := ⟨by show 6 ≤ 12; decide, by simp [a6A, a6L]⟩
theorem a6_dk (x : A6) : 7 + 5 ≤ (a6A x).size ∧ (a6A x).extract 7 (7 + 5) = a5A x.dk := ⟨by show 12 ≤ 12; decide, by simp [a6A, a6L, a5A, a5L]⟩
section
variable {w : World} {q : Nat} {x : A6} {T : TypeId}
theorem a6_c0 (h : w.heap[q]? = some (.cells (a6A x) T (0, 0))) : w.cell? ⟨q, 0, none⟩ = some (.bool x.sl) := blk_cell h 0 _ rfl
theorem a6_c2 (h : w.heap[q]? = some (.cells (a6A x) T (0, 0))) : w.cell? ⟨q, 2, none⟩ = some (.int .i64 x.tg.reg) := blk_cell h 2 _ rfl
theorem a6_c3 (h : w.heap[q]? = some (.cells (a6A x) T (0, 0))) : w.cell? ⟨q, 3, none⟩ = some (.int .i64 x.tg.pla) := blk_cell h 3 _ rfl
theorem a6_c6 (h : w.heap[q]? = some (.cells (a6A x) T (0, 0))) : w.cell? ⟨q, 6, none⟩ = some (.slice x.oa x.body.length x.oc) := blk_cell h 6 _ rfl
end
section
variable {B g gp : Nat} {wv : Value} {d : Dk} {w : World}
set_option maxRecDepth 100000 in
set_option maxHeartbeats 8000000 in
theorem ldo_no (h : DiskB B g gp wv d w) (hb : B ≤ w.heap.size) (x : A6) (hx : x.sl = false) (hi : ∀ w', Kt B w w' → A6in w' x) (hl : x.dk.bytes.length ≤ 200) (hw : d.waits.length ≤ 1000) :
  Calls Tryz.prog 15 #[.pointer (some ⟨g, 0, none⟩), a6V x] w fun e w' => (∃ v, e = .returned v) ∧ Does B g gp w (do6 d x) w' := by
 have hbw := blw w (Obj.cells (a6A x) 44)
 have D0 := h.below hbw
 have k0 := Kt.of hbw hb
 have B0 := heap_alloc_new w (Obj.cells (a6A x) 44)
 have hB0 : B ≤ (w.alloc (Obj.cells (a6A x) 44)).heap.size := Nat.le_trans hb k0.bl.size
 have h5 := do5_any D0 hB0 x.dk (fun w' hk => (hi w' (k0.trans hk)).d) (hi _ k0).k (hi _ k0).n hl (by omega)
 have c0 := a6_c0 B0
 rw [hx] at c0
 unfold do6
 rw [if_pos hx]
 unfold a6V
 clear hbw h hi hx
 go_enter Tryz.func15, Tryz.ntmps15
 refine seqH (fun K HK => ?_)
 go_wp2
 refine HK.out _ _ ?_
 clear HK
 generalize w.alloc (Obj.cells (a6A x) 44) = w0 at *
 go_wp2_with (first
  | ((with_reducible refine wpList_ldB 42 _ ?_); refine ⟨rfl, _, ⟨_, _, _, _, _, Tryz.isAgg42, Tryz.sizeOf42, rfl, ‹_›, a6_dk x⟩, ?_⟩)
  | (go_at_call 59; refine h5.mono ?_; rintro e w1 ⟨rfl, D1, k1⟩))
 refine bodyPost_ret (results_none rfl _ _ _) rfl ?_
 exact ⟨⟨_, rfl⟩, D1, k0.trans k1⟩
set_option maxRecDepth 100000 in
set_option maxHeartbeats 8000000 in
theorem ldo_yes (h : DiskB B g gp wv d w) (hb : B ≤ w.heap.size) (x : A6) (hx : x.sl = true) (hi : ∀ w', Kt B w w' → A6in w' x) (hl : x.body.length ≤ 1000) (hw : d.waits.length ≤ 1000) :
  Calls Tryz.prog 15 #[.pointer (some ⟨g, 0, none⟩), a6V x] w fun e w' => (∃ v, e = .returned v) ∧ Does B g gp w (do6 d x) w' := by
 have hbw := blw w (Obj.cells (a6A x) 44)
 have D0 := h.below hbw
 have k0 := Kt.of hbw hb
 have B0 := heap_alloc_new w (Obj.cells (a6A x) 44)
 have hB0 : B ≤ (w.alloc (Obj.cells (a6A x) 44)).heap.size := Nat.le_trans hb k0.bl.size
 have I0 := hi _ k0
 have c0 := a6_c0 B0
 rw [hx] at c0
 unfold do6
 rw [if_neg (by rw [hx]; decide)]
 have hwi := fun w => lwide_any x.tg w
 have hwt := wideT_le x.tg
 have hse := fun w' (hs' : SlB w' x.oa x.oc x.body) => rseal_any x.tg x.oa x.oc x.body (wideT x.tg) w' hs' hl (by omega)
 have hcs := sealR_len x.tg x.body (wideT x.tg)
 have hff : sealE x.tg x.body (wideT x.tg) = 0 → ∃ f : Nat, firstN x.tg.reg x.tg.pla = f ∧ f + wideT x.tg ≤ 156 := fun he => by
  cases hm : mayTg x.tg
  ·unfold sealE at he
   rw [if_pos (.inl hm)] at he
   cases he
  ·obtain ⟨f, h1, h2, _⟩ := place_of hm
   exact ⟨f, h1, h2⟩
 generalize wideT x.tg = n at *
 generalize sealR x.tg x.body n = b at *
 generalize sealE x.tg x.body n = se at *
 generalize hfi : firstN x.tg.reg x.tg.pla = fi at *
 have HF := Lib.hid hfi
 have HCS := Lib.hid hcs
 have HFF := Lib.hid hff
 have hpw := fun k => (puts_pl d fi b k).2
 clear hfi hcs hff hbw h hi hx
 unfold a6V
 go_enter Tryz.func15, Tryz.ntmps15
 refine seqH (fun K HK => ?_)
 go_wp2
 refine HK.out _ _ ?_
 clear HK
 generalize w.alloc (Obj.cells (a6A x) 44) = w0 at *
 obtain ⟨q, hq⟩ : ∃ q, w.heap.size = q := ⟨_, rfl⟩
 have hbq : B ≤ q := by omega
 rw [hq] at B0 c0 ⊢
 clear hq
 refine seqH (fun K HK => ?_)
 go_wp2
 refine HK.out _ _ ?_
 clear HK
 clear c0
 refine seqH (fun K HK => ?_)
 go_wp2_with fail
 have hbd := (Below.refl w0.heap.size w0).drew
 have D1 := D0.below hbd
 have k1 := k0.trans (Kt.of hbd hB0)
 have B1 := tr_bl hbd B0
 have s1 := I0.b.below hbd
 have hB1 := Nat.le_trans hB0 hbd.size
 clear D0 k0 B0 I0 hB0 hbd
 refine wp_region_held_drew (S := fun w' => w'.heap[q]? = some (.cells (a6A x) 44 (0, 0))) (by kernel_rfl) B1 (fun hS0 => ?_)
 generalize w0.drew = x0 at *
 refine tkT 0 rfl (by intro wS hSw; go_simp; (try with_reducible rfl)) ?_
 refine tkT 1 (v := .agg (#[Value.int .i64 x.tg.rep, .int .i64 x.tg.reg, .int .i64 x.tg.pla, .int .i64 x.tg.idx, .int .i64 x.tg.inc])) rfl (by intro wS hSw; exact exec_ldB 39 _ ⟨_, _, _, _, _, Tryz.isAgg39, Tryz.sizeOf39, rfl, hSw, a6_tg x⟩) ?_
 refine tkT 2 rfl (by intro wS hSw; go_simp; (try with_reducible rfl)) ?_
 refine tkT 3 rfl (by intro wS hSw; have c := a6_c6 hSw; go_simp; (try with_reducible rfl)) ?_
 refine tkT 4 rfl (by intro wS hSw; go_simp; (try with_reducible rfl)) ?_
 refine tkT 5 (v := .agg (#[Value.int .i64 x.tg.rep, .int .i64 x.tg.reg, .int .i64 x.tg.pla, .int .i64 x.tg.idx, .int .i64 x.tg.inc])) rfl (by intro wS hSw; exact exec_ldB 39 _ ⟨_, _, _, _, _, Tryz.isAgg39, Tryz.sizeOf39, rfl, hSw, a6_tg x⟩) ?_
 refine rdy1 6 rfl (fun K' hK' => ?_)
 go_simp
 refine (hwi _).mono ?_
 rintro e w4 ⟨rfl, hb4⟩
 have D4 := D1.below hb4
 have k4 := k1.trans (Kt.of hb4 hB1)
 have B4 := tr_bl hb4 B1
 have s4 := s1.below hb4
 have hB4 := Nat.le_trans hB1 hb4.size
 refine hK'.out _ _ B4 (fun _ => ?_)
 clear hK' D1 k1 B1 s1 hB1 hb4 hS0
 (try simp only [Act.put]); (try simp only [List.setIfInBounds_toArray]); (try simp only [List.set_cons_succ]); (try simp only [List.set_cons_zero])
 refine rdy1 7 rfl (fun K' hK' => ?_)
 go_simp
 refine (hse _ s4).mono ?_
 rintro e w5 ⟨⟨v5, rfl, o5⟩, hb5⟩
 have D5 := D4.below hb5
 have k5 := k4.trans (Kt.of hb5 hB4)
 have B5 := tr_bl hb5 B4
 have hB5 := Nat.le_trans hB4 hb5.size
 refine hK'.out _ _ B5 (fun _ => ?_)
 clear hK' D4 k4 B4 s4 hB4 hb5 hse hwi
 (try simp only [Act.put]); (try simp only [List.setIfInBounds_toArray]); (try simp only [List.set_cons_succ]); (try simp only [List.set_cons_zero])
 refine tkT 8 rfl (by intro wS hSw; go_simp; (try with_reducible rfl)) ?_
 refine tkT 9 rfl (by intro wS hSw; go_simp; (try with_reducible rfl)) ?_
 refine tkT 10 rfl (by intro wS hSw; go_simp; (try with_reducible rfl)) ?_
 refine tkT 11 rfl (by intro wS hSw; go_simp; (try with_reducible rfl)) ?_
 refine tkT 12 rfl (by intro wS hSw; go_simp; (try with_reducible rfl)) ?_
 refine wpAnyH_done (by kernel_rfl) ?_ _
 refine HK.out _ _ ?_
 clear HK
 refine seqH (fun K HK => ?_)
 go_wp2
 refine HK.out _ _ ?_
 clear HK
 rcases HCS.out with ⟨hlb, hn12, rfl⟩ | ⟨hlb, hne⟩
 case inr =>
  have hsn : (se == 0) = false := by rw [beq_eq_false_iff_ne]; exact hne
  rw [hlb]
  clear hne HCS HFF hlb
  go_wp2_with fail
  go_loopw [6] (fun i wr => i = .int .i64 0 ∧ wr = w5) (fun _ _ => 0)
  case atStart => exact ⟨rfl, rfl⟩
  case round =>
   obtain ⟨rfl, rfl⟩ := hrel
   go_wp2
   go_end0
   exact ⟨⟨_, rfl⟩, ⟨_, D5⟩, k5⟩
 case inl =>
  obtain ⟨f, hf, hfn⟩ := HFF.out rfl
  subst hf
  obtain ⟨G, C, rfl, hG, F5⟩ := FrIn.of_owns o5 (by omega)
  rw [show b.length / 64 = n by omega]
  have q1 : (b.length : Int) / 64 = (n : Int) := by omega
  have q2 : (b.length : Int).tdiv 64 = (n : Int) := by rw [Int.tdiv_eq_ediv_of_nonneg (by omega)]; exact q1
  have hC := F5.1
  have HL := Lib.hid hlb
  have hCm := F5.2.1
  unfold maxLen at hCm
  clear HCS HFF o5 hG hlb
  go_wp2_with fail
  go_loopw [6] (fun i wr => ∃ k : Nat, k ≤ n ∧ i = .int .i64 (k : Int) ∧ (∃ wv', DiskB B g gp wv' (putsD d f b k) wr) ∧ Kt B w wr ∧ wr.heap[q]? = some (Obj.cells (a6A x) 44) ∧ FrIn wr G C b) (fun i _ => n - (intOf i).toNat)
  case atStart => exact ⟨0, by omega, rfl, ⟨_, D5⟩, k5, B5, F5⟩
  case round =>
   clear D5 k5 B5 F5 hB5
   obtain ⟨k, hkn, rfl, ⟨wv7, D7⟩, k7, B7, F7⟩ := hrel
   have hB7 := Nat.le_trans hb k7.bl.size
   by_cases hlt : k < n
   case neg =>
    obtain rfl : k = n := by omega
    go_wp2
    go_end0
    exact ⟨⟨_, rfl⟩, ⟨_, D7⟩, k7⟩
   case pos =>
    have hlI : (k : Int) < (n : Int) := by omega
    have W1 := Lib.hid (show IntKind.i64.wrap (64 * (k : Int)) = 64 * (k : Int) from IntWalk.i64_in _ (by omega))
    have W2 := Lib.hid (show IntKind.i64.wrap (64 * (k : Int) + 64) = 64 * (k : Int) + 64 from IntWalk.i64_in _ (by omega))
    have W3 := Lib.hid (show IntKind.i64.wrap ((f : Int) + (k : Int)) = (f : Int) + (k : Int) from IntWalk.i64_in _ (by omega))
    have T1 := Lib.hid (show (64 * (k : Int)).toNat = 64 * k by omega)
    have T2 := Lib.hid (show (64 * (k : Int) + 64).toNat = 64 * k + 64 by omega)
    refine seqH (fun K HK => ?_)
    go_wp2
    refine HK.out _ _ ?_
    clear HK
    refine seqH (fun K HK2 => ?_)
    refine wp_block ?_
    go_wp2_with fail
    have hbd := (Below.refl wr.heap.size wr).drew
    have D9 := D7.below hbd
    have k9 := k7.trans (Kt.of hbd hB7)
    have B9 := tr_bl hbd B7
    have F9 := F7.below hbd
    have hB9 := Nat.le_trans hB7 hbd.size
    clear D7 k7 B7 F7 hB7 hbd
    refine wp_region_held_drew (S := fun w' => w'.heap[q]? = some (.cells (a6A x) 44 (0, 0))) (by kernel_rfl) B9 (fun hS0 => ?_)
    generalize wr.drew = x1 at *
    refine tkT 0 rfl (by intro wS hSw; go_simp; (try with_reducible rfl)) ?_
    refine tkT 1 rfl (by intro wS hSw; go_simp; (try with_reducible rfl)) ?_
    refine tkT 2 rfl (by intro wS hSw; go_simp; (try with_reducible rfl)) ?_
    refine tkT 3 rfl (by intro wS hSw; have c := a6_c2 hSw; go_simp; (try with_reducible rfl)) ?_
    refine tkT 4 rfl (by intro wS hSw; go_simp; (try with_reducible rfl)) ?_
    refine tkT 5 rfl (by intro wS hSw; go_simp; (try with_reducible rfl)) ?_
    refine tkT 6 rfl (by intro wS hSw; have c := a6_c3 hSw; go_simp; (try with_reducible rfl)) ?_
    refine tkT 8 rfl (by intro wS hSw; go_simp; (try with_reducible rfl)) ?_
    refine tkT 10 rfl (by intro wS hSw; go_simp; (try with_reducible rfl)) ?_
    refine tkT 11 rfl (by intro wS hSw; go_simp; (try with_reducible rfl)) ?_
    refine tkT 12 (v := .int .i64 (64 * (k : Int))) rfl (by intro wS hSw; go_simp; rw [W1.out]) ?_
    refine tkT 13 rfl (by intro wS hSw; go_simp; (try with_reducible rfl)) ?_
    refine tkT 14 (v := .int .i64 (64 * (k : Int))) rfl (by intro wS hSw; go_simp; rw [W1.out]) ?_
    refine tkT 15 (v := .int .i64 (64 * (k : Int) + 64)) rfl (by intro wS hSw; go_simp; rw [W2.out]) ?_
    refine tkT 16 (v := .slice (some ⟨G, 64 * k, none⟩) 64 (C - 64 * k)) rfl (by intro wS hSw; go_simp; rw [if_pos ⟨by omega, by have := HL.out; omega⟩, if_pos ⟨by omega, by omega⟩, T1.out, T2.out, if_neg (by have := HL.out; omega), show 64 * k + 64 - 64 * k = 64 by omega]) ?_
    refine rdy1 7 rfl (fun K' hK' => ?_)
    go_simp
    refine (first_any x.tg.reg x.tg.pla _).mono ?_
    rintro e w10 ⟨rfl, hb10⟩
    rw [HF.out]
    have D10 := D9.below hb10
    have k10 := k9.trans (Kt.of hb10 hB9)
    have B10 := tr_bl hb10 B9
    have F10 := F9.below hb10
    have hB10 := Nat.le_trans hB9 hb10.size
    refine hK'.out _ _ B10 (fun _ => ?_)
    clear hK' D9 k9 B9 F9 hB9 hb10 hS0
    (try simp only [Act.put]); (try simp only [List.setIfInBounds_toArray]); (try simp only [List.set_cons_succ]); (try simp only [List.set_cons_zero])
    refine tkT 9 (v := .int .i64 ((f : Int) + (k : Int))) rfl (by intro wS hSw; go_simp; rw [W3.out]) ?_
    refine rdy1 17 rfl (fun K' hK' => ?_)
    go_simp
    have hwr := write_any D10 hB10 ((f : Int) + (k : Int)) (some ⟨G, 64 * k, none⟩) (C - 64 * k) (pcD b k) (fun w' hk => (F10.kt hk).piece (by have := HL.out; omega)) (by have := hpw k; omega)
    rw [pcD_len (by have := HL.out; omega)] at hwr
    refine hwr.mono ?_
    rintro e w11 ⟨rfl, ⟨wv11, D11⟩, hk11⟩
    have B11 := hk11.ty _ _ _ B10 (by decide) (by decide) (by decide)
    have F11 := F10.kt hk11
    have k11 := k10.trans hk11
    refine hK'.out _ _ B11 (fun _ => ?_)
    clear hK' hwr D10 k10 B10 F10 hB10 hk11
    refine wpAnyH_done (by kernel_rfl) ?_ _
    (try simp only [Exit.inBlock, Exit.then])
    refine HK2.out _ _ ?_
    clear HK2
    go_wp2
    go_roundw
    case rel => exact ⟨k + 1, by omega, by go_num, ⟨_, D11⟩, k11, B11, F11⟩
    case measure => simp [intOf]; omega
theorem ldo_any (h : DiskB B g gp wv d w) (hb : B ≤ w.heap.size) (x : A6) (hi : ∀ w', Kt B w w' → A6in w' x) (hl : x.body.length ≤ 100 ∧ x.dk.bytes.length ≤ 200 ∧ x.dk.keep.length ≤ 100) (hw : d.waits.length ≤ 1000) :
  Calls Tryz.prog 15 #[.pointer (some ⟨g, 0, none⟩), a6V x] w fun e w' => (∃ v, e = .returned v) ∧ Does B g gp w (do6 d x) w' := by
 cases hx : x.sl
 ·exact ldo_no h hb x hx hi hl.2.1 hw
 ·exact ldo_yes h hb x hx hi (by omega) hw
end
end Go.Proofs.YtbdonjenekhmdaaGreatDoor
namespace Go.Proofs.YtbdonjenekhmdaaGreatDoor
open Go.RowKit
theorem FrIn.kr {X : TypeId → Bool} {B : Nat} {w w' : World} {G C : Nat} {b : List UInt8} (h : FrIn w G C b) (hk : Kx X B w w') (hX : X 5 = false) : FrIn w' G C b := by
 obtain ⟨h1, h2, cur, h3, h4⟩ := h
 exact ⟨h1, h2, cur, hk.ty _ _ _ h3 hX, h4⟩
section
variable {B g : Nat} {q0 : RQ} {d : Dk} {w : World}
end
end Go.Proofs.YtbdonjenekhmdaaGreatDoor
namespace Go.Proofs.YtbdonjenekhmdaaGreatDoor
open Go.RowKit
theorem mineF_none (rep reg pla : Int) : mineF [] rep reg pla = (2, zeroTg, []) := by
 have h : openF [] = (2, zeroTg, []) := by unfold openF; rfl
 unfold mineF
 rw [h]
 rfl
section
variable {B g : Nat} {q : RQ} {d : Dk} {w w' : World}
theorem rread_len (h : RefB B g q d w) (s : Int) : ((readD d s).2 = 0 → (readD d s).1.length = 64) ∧ ((readD d s).2 ≠ 0 → (readD d s).1 = []) := by
 unfold readD
 by_cases h0 : liveD d s = 0
 ·rw [if_neg (by simpa using h0)]
  cases hl : lastW d.waits s.toNat with
  | some b =>
   obtain ⟨x, hx, e⟩ := lastW_mem hl
   simp only
   exact ⟨fun _ => by rw [← e]; exact (h.wk x hx).1, fun hh => absurd rfl hh⟩
  | none =>
   simp only
   cases hp : d.pl[s.toNat]? with
   | none => exact ⟨(fun hh => by cases hh), fun _ => rfl⟩
   | some p =>
    simp only
    by_cases hlo : p.lost = true
    ·rw [if_pos hlo]
     exact ⟨(fun hh => by cases hh), fun _ => rfl⟩
    ·rw [if_neg hlo]
     exact ⟨fun _ => (h.ok p (List.mem_of_getElem? hp)).1, fun hh => absurd rfl hh⟩
 ·rw [if_pos (by simpa using h0)]
  exact ⟨fun hh => absurd hh h0, fun _ => rfl⟩
def mineD (d : Dk) (rep reg pla : Int) : Nat × Tg × List UInt8 := mineF (readD d (firstN reg pla)).1 rep reg pla
set_option maxRecDepth 100000 in
theorem rasked7_any (h : RefB B g q d w) (rep reg : Int) : Calls Tryz.prog 102 #[.pointer (some ⟨g, 0, none⟩), .int .i64 rep, .int .i64 reg] w fun e w' => e = .returned (.bool (decide (openC d rep reg ≠ 2))) ∧ w = w' := by
 have hn := h.n0
 have c0 := h.c0
 have hv : openC d rep reg = if d.pl.length < 156 ∨ (reg ≠ 1 ∧ reg ≠ 2) ∨ rep < 0 ∨ 7 ≤ rep then 2 else if upD d = false then 5 else 0 := by
  unfold openC
  rw [if_neg (by omega)]
 obtain ⟨r, hr⟩ : ∃ r, decide (openC d rep reg ≠ 2) = r := ⟨_, rfl⟩
 rw [hr]
 by_cases a1 : 156 ≤ d.pl.length
 ·by_cases a2 : reg = 1 ∨ reg = 2
  ·by_cases a3 : 0 ≤ rep
   ·by_cases a4 : rep ≤ 6
    ·obtain rfl : r = true := by
      rw [← hr, hv, if_neg (by omega)]
      split <;> decide
     clear hv hr
     rcases a2 with rfl | rfl
     ·skip
      go_enter Tryz.func102, Tryz.ntmps102
      go_wp2
      go_ret
      exact ⟨rfl, rfl⟩
     ·skip
      go_enter Tryz.func102, Tryz.ntmps102
      go_wp2
      go_ret
      exact ⟨rfl, rfl⟩
    ·obtain rfl : r = false := (by rw [← hr, hv, if_pos (by omega)]; decide)
     clear hv hr
     rcases a2 with rfl | rfl
     ·skip
      go_enter Tryz.func102, Tryz.ntmps102
      go_wp2
      go_ret
      exact ⟨ret_bool (by first | (simp; done) | (simp; omega)), rfl⟩
     ·skip
      go_enter Tryz.func102, Tryz.ntmps102
      go_wp2
      go_ret
      exact ⟨ret_bool (by first | (simp; done) | (simp; omega)), rfl⟩
   ·obtain rfl : r = false := (by rw [← hr, hv, if_pos (by omega)]; decide)
    clear hv hr
    rcases a2 with rfl | rfl
    ·skip
     go_enter Tryz.func102, Tryz.ntmps102
     go_wp2
     go_ret
     exact ⟨rfl, rfl⟩
    ·skip
     go_enter Tryz.func102, Tryz.ntmps102
     go_wp2
     go_ret
     exact ⟨rfl, rfl⟩
  ·obtain rfl : r = false := (by rw [← hr, hv, if_pos (by omega)]; decide)
   have b1 : (reg == 1) = false := by rw [beq_eq_false_iff_ne]; omega
   have b2 : (reg == 2) = false := by rw [beq_eq_false_iff_ne]; omega
   clear hv hr a2
   go_enter Tryz.func102, Tryz.ntmps102
   go_wp2
   go_ret
   exact ⟨rfl, rfl⟩
 ·obtain rfl : r = false := (by rw [← hr, hv, if_pos (by omega)]; decide)
  clear hv hr
  go_enter Tryz.func102, Tryz.ntmps102
  go_wp2
  go_ret
  exact ⟨rfl, rfl⟩
set_option maxRecDepth 100000 in
set_option maxHeartbeats 4000000 in
theorem rmine7_any (h : RefB B g q d w) (rep reg pla : Int) : Calls Tryz.prog 104 #[.pointer (some ⟨g, 0, none⟩), .int .i64 rep, .int .i64 reg, .int .i64 pla] w fun e w' => FrRes w.heap.size (mineD d rep reg pla) e w' ∧ Below w.heap.size w w' := by
 have hbA := blw w (Obj.cells #[.int .i64 0, .int .i64 0, .int .i64 0, .int .i64 0, .int .i64 0] 39)
 have A0 := heap_alloc_new w (Obj.cells #[.int .i64 0, .int .i64 0, .int .i64 0, .int .i64 0, .int .i64 0] 39)
 have hd := h.below hbA
 have hfi := rfirst3_any reg pla (w.alloc (Obj.cells #[.int .i64 0, .int .i64 0, .int .i64 0, .int .i64 0, .int .i64 0] 39))
 have hrd := rread_any hd (firstN reg pla)
 obtain ⟨h1, h2⟩ := rread_len h (firstN reg pla)
 unfold mineD
 obtain ⟨b, e, hre⟩ : ∃ b e, readD d (firstN reg pla) = (b, e) := ⟨_, _, rfl⟩
 rw [hre] at hrd h1 h2 ⊢
 simp only at hrd h1 h2 ⊢
 have hq := hbA.size
 clear hd h hre
 by_cases h0 : e = 0
 case neg =>
  obtain rfl := h2 h0
  rw [mineF_none]
  have e0 : (e != 0) = true := by rw [bne_iff_ne]; exact h0
  clear h1 h2 h0
  go_enter Tryz.func104, Tryz.ntmps104
  refine seqH (fun K HK => ?_)
  go_wp2
  refine HK.out _ _ ?_
  clear HK
  generalize w.alloc (Obj.cells #[.int .i64 0, .int .i64 0, .int .i64 0, .int .i64 0, .int .i64 0] 39) = w0 at *
  go_wp2_with (first
   | (go_at_call 119; refine hfi.mono ?_; rintro e w1 ⟨rfl, rfl⟩)
   | (go_at_call 126; refine hrd.mono ?_; rintro e w2 ⟨⟨a2, c2, rfl, s2⟩, hb2⟩; have A2 := tr_bl hb2 A0; have hb3 := hbA.trans (hb2.mono hq))
   | ((with_reducible refine wpList_stB 39 _ _ ?_); refine ⟨_, _, _, ⟨_, _, _, Tryz.sizeOf39, rfl, A2, st5 _ rfl 0 0 0 0 0⟩, ?_⟩; intro w5 B5 g5))
  exact bodyPost_ret (results_t1c1t1 rfl rfl (run_loadVar_all Tryz.isAgg39 Tryz.sizeOf39 B5 rfl)) rfl ⟨FrRes.none rfl, bl_st hb3 g5 (Nat.le_trans hq hb2.size) (Nat.le_refl _)⟩
 case pos =>
  have h64 := h1 h0
  subst h0
  clear h1 h2
  have hmi := fun (a : Option Addr) (c : Nat) (w' : World) (s : SlB w' a c b) => rmine_any a c b rep reg pla w' s (by omega)
  obtain ⟨⟨st, tg, body⟩, hR⟩ : ∃ R, mineF b rep reg pla = R := ⟨_, rfl⟩
  rw [hR] at hmi ⊢
  clear hR h64
  go_enter Tryz.func104, Tryz.ntmps104
  refine seqH (fun K HK => ?_)
  go_wp2
  refine HK.out _ _ ?_
  clear HK
  generalize w.alloc (Obj.cells #[.int .i64 0, .int .i64 0, .int .i64 0, .int .i64 0, .int .i64 0] 39) = w0 at *
  go_wp2_with (first
   | (go_at_call 119; refine hfi.mono ?_; rintro e w1 ⟨rfl, rfl⟩)
   | (go_at_call 126; refine hrd.mono ?_; rintro e w2 ⟨⟨a2, c2, rfl, s2⟩, hb2⟩; have A2 := tr_bl hb2 A0; have hb3 := hbA.trans (hb2.mono hq); have hmi2 := hmi a2 c2 w2 s2)
   | (go_at_call 127; refine hmi2.mono ?_; rintro e w4 ⟨⟨a4, c4, rfl, o4⟩, hb4⟩; have A4 := tr_bl hb4 A2; have hb5 := hb3.trans (hb4.mono (Nat.le_trans hq hb2.size)))
   | ((with_reducible refine wpList_stB 39 _ _ ?_); refine ⟨_, _, _, ⟨_, _, _, Tryz.sizeOf39, rfl, A4, st5 _ rfl tg.rep tg.reg tg.pla tg.idx tg.inc⟩, ?_⟩; intro w5 B5 g5))
  exact bodyPost_ret (results_t1c1t1 rfl rfl (run_loadVar_all Tryz.isAgg39 Tryz.sizeOf39 B5 rfl)) rfl ⟨⟨a4, c4, rfl, (o4.mono (Nat.le_trans hq hb2.size)).st g5 A4 (by decide)⟩, bl_st hb5 g5 (Nat.le_trans (Nat.le_trans hq hb2.size) hb4.size) (Nat.le_refl _)⟩
end
end Go.Proofs.YtbdonjenekhmdaaGreatDoor
namespace Go.Proofs.YtbdonjenekhmdaaGreatDoor
open Go.RowKit
def whichP (a b : Nat) (x y : Int) : Int × Int := if a = 1 ∧ b = 1 then (if x < y then (1, 0) else (0, 0)) else if a = 1 then (0, 0) else if b = 1 then (1, 0) else if a = 0 ∨ b = 0 then (-1, 0) else (-1, 70)
def whichC (d : Dk) (rep reg : Int) : Int × Int := whichP (copyC d rep reg 0).st (copyC d rep reg 1).st (copyC d rep reg 0).tg.idx (copyC d rep reg 1).tg.idx
theorem which_loaded (c0 c1 : Cp) : whichP c0.st c1.st c0.tg.idx c1.tg.idx = (if (loadedC c0 c1).2.1 = true then ((loadedC c0 c1).1 : Int) else -1, (loadedC c0 c1).2.2) := by
 unfold whichP loadedC overC
 by_cases h0 : c0.st = 1
 ·by_cases h1 : c1.st = 1
  ·by_cases h2 : c0.tg.idx < c1.tg.idx
   ·simp [h0, h1, h2]
   ·simp [h0, h1, h2]
  ·simp [h0, h1]
 ·by_cases h1 : c1.st = 1
  ·simp [h0, h1]
  ·by_cases h2 : c0.st = 0 ∨ c1.st = 0
   ·simp [h0, h1, h2]
   ·simp [h0, h1, h2]
theorem mineD_copy (d : Dk) (rep reg i : Int) : mineD d rep reg i = ((copyC d rep reg i).st, (copyC d rep reg i).tg, (copyC d rep reg i).body) := rfl
section
variable {B g : Nat} {q : RQ} {d : Dk} {w w' : World}
set_option maxRecDepth 100000 in
set_option maxHeartbeats 16000000 in
theorem rwhich_any (h : RefB B g q d w) (rep reg : Int) : Calls Tryz.prog 103 #[.pointer (some ⟨g, 0, none⟩), .int .i64 rep, .int .i64 reg] w fun e w' => e = .returned (.tuple #[.int .i64 (whichC d rep reg).1, .int .i64 (whichC d rep reg).2]) ∧ Below w.heap.size w w' := by
 have h0 := rmine7_any h rep reg 0
 have h1 := fun (w' : World) (hb : Below w.heap.size w w') => rmine7_any (h.below hb) rep reg 1
 rw [mineD_copy] at h0
 simp only [mineD_copy] at h1
 unfold whichC
 generalize copyC d rep reg 0 = p0 at *
 generalize copyC d rep reg 1 = p1 at *
 obtain ⟨s0, t0, b0⟩ := p0
 obtain ⟨s1, t1, b1⟩ := p1
 simp only at h0 h1 ⊢
 clear h
 by_cases a0 : s0 = 1
 ·subst a0
  have i0 : (((1 : Nat) : Int) == 1) = true := rfl
  by_cases a1 : s1 = 1
  ·subst a1
   by_cases a2 : t0.idx < t1.idx
   ·have hv : whichP 1 1 t0.idx t1.idx = (1, 0) := by unfold whichP; rw [if_pos ⟨rfl, rfl⟩, if_pos a2]
    rw [hv]
    clear hv
    go_enter Tryz.func103, Tryz.ntmps103
    refine seqH (fun K HK => ?_)
    go_wp2
    refine HK.out _ _ ?_
    clear HK
    refine seqH (fun K HK => ?_)
    go_wp2_with (first
     | (go_at_call 104; refine h0.mono ?_; rintro e w1 ⟨⟨a1, c1, rfl, _⟩, hb1⟩)
     | ((first | (with_reducible refine wpList_stNew 39 _ _ ?_) | (with_reducible refine wp_stNew 39 _ _ ?_)); refine ⟨_, _, ⟨Tryz.sizeOf39, rfl, tg_new _⟩, rfl, ?_⟩))
    refine HK.out _ _ ?_
    clear HK
    have hb2 := hb1.trans ((blw w1 (Obj.cells #[.int .i64 t0.rep, .int .i64 t0.reg, .int .i64 t0.pla, .int .i64 t0.idx, .int .i64 t0.inc] 39)).mono hb1.size)
    have T2 := heap_alloc_new w1 (Obj.cells #[.int .i64 t0.rep, .int .i64 t0.reg, .int .i64 t0.pla, .int .i64 t0.idx, .int .i64 t0.inc] 39)
    have h1' := h1 _ hb2
    clear h0 h1 hb1
    generalize w1.alloc (Obj.cells #[.int .i64 t0.rep, .int .i64 t0.reg, .int .i64 t0.pla, .int .i64 t0.idx, .int .i64 t0.inc] 39) = w2 at *
    generalize w1.heap.size = q2 at *
    refine seqH (fun K HK => ?_)
    go_wp2_with (first
     | (go_at_call 104; refine h1'.mono ?_; rintro e w3 ⟨⟨a3, c3, rfl, _⟩, hb3⟩)
     | ((first | (with_reducible refine wpList_stNew 39 _ _ ?_) | (with_reducible refine wp_stNew 39 _ _ ?_)); refine ⟨_, _, ⟨Tryz.sizeOf39, rfl, tg_new _⟩, rfl, ?_⟩))
    refine HK.out _ _ ?_
    clear HK
    have hb4 := hb2.trans ((hb3.trans ((blw w3 (Obj.cells #[.int .i64 t1.rep, .int .i64 t1.reg, .int .i64 t1.pla, .int .i64 t1.idx, .int .i64 t1.inc] 39)).mono hb3.size)).mono hb2.size)
    have T4 := tr_al (Obj.cells #[.int .i64 t1.rep, .int .i64 t1.reg, .int .i64 t1.pla, .int .i64 t1.idx, .int .i64 t1.inc] 39) (tr_bl hb3 T2)
    have T5 := heap_alloc_new w3 (Obj.cells #[.int .i64 t1.rep, .int .i64 t1.reg, .int .i64 t1.pla, .int .i64 t1.idx, .int .i64 t1.inc] 39)
    clear h1' hb2 hb3 T2
    generalize w3.alloc (Obj.cells #[.int .i64 t1.rep, .int .i64 t1.reg, .int .i64 t1.pla, .int .i64 t1.idx, .int .i64 t1.inc] 39) = w4 at *
    generalize w3.heap.size = q4 at *
    have u0 := blk_cell T4 3 (.int .i64 t0.idx) rfl
    have u1 := blk_cell T5 3 (.int .i64 t1.idx) rfl
    go_wp2
    go_ret2
    exact ⟨rfl, hb4⟩
   ·have hv : whichP 1 1 t0.idx t1.idx = (0, 0) := by unfold whichP; rw [if_pos ⟨rfl, rfl⟩, if_neg a2]
    rw [hv]
    clear hv
    go_enter Tryz.func103, Tryz.ntmps103
    refine seqH (fun K HK => ?_)
    go_wp2
    refine HK.out _ _ ?_
    clear HK
    refine seqH (fun K HK => ?_)
    go_wp2_with (first
     | (go_at_call 104; refine h0.mono ?_; rintro e w1 ⟨⟨a1, c1, rfl, _⟩, hb1⟩)
     | ((first | (with_reducible refine wpList_stNew 39 _ _ ?_) | (with_reducible refine wp_stNew 39 _ _ ?_)); refine ⟨_, _, ⟨Tryz.sizeOf39, rfl, tg_new _⟩, rfl, ?_⟩))
    refine HK.out _ _ ?_
    clear HK
    have hb2 := hb1.trans ((blw w1 (Obj.cells #[.int .i64 t0.rep, .int .i64 t0.reg, .int .i64 t0.pla, .int .i64 t0.idx, .int .i64 t0.inc] 39)).mono hb1.size)
    have T2 := heap_alloc_new w1 (Obj.cells #[.int .i64 t0.rep, .int .i64 t0.reg, .int .i64 t0.pla, .int .i64 t0.idx, .int .i64 t0.inc] 39)
    have h1' := h1 _ hb2
    clear h0 h1 hb1
    generalize w1.alloc (Obj.cells #[.int .i64 t0.rep, .int .i64 t0.reg, .int .i64 t0.pla, .int .i64 t0.idx, .int .i64 t0.inc] 39) = w2 at *
    generalize w1.heap.size = q2 at *
    refine seqH (fun K HK => ?_)
    go_wp2_with (first
     | (go_at_call 104; refine h1'.mono ?_; rintro e w3 ⟨⟨a3, c3, rfl, _⟩, hb3⟩)
     | ((first | (with_reducible refine wpList_stNew 39 _ _ ?_) | (with_reducible refine wp_stNew 39 _ _ ?_)); refine ⟨_, _, ⟨Tryz.sizeOf39, rfl, tg_new _⟩, rfl, ?_⟩))
    refine HK.out _ _ ?_
    clear HK
    have hb4 := hb2.trans ((hb3.trans ((blw w3 (Obj.cells #[.int .i64 t1.rep, .int .i64 t1.reg, .int .i64 t1.pla, .int .i64 t1.idx, .int .i64 t1.inc] 39)).mono hb3.size)).mono hb2.size)
    have T4 := tr_al (Obj.cells #[.int .i64 t1.rep, .int .i64 t1.reg, .int .i64 t1.pla, .int .i64 t1.idx, .int .i64 t1.inc] 39) (tr_bl hb3 T2)
    have T5 := heap_alloc_new w3 (Obj.cells #[.int .i64 t1.rep, .int .i64 t1.reg, .int .i64 t1.pla, .int .i64 t1.idx, .int .i64 t1.inc] 39)
    clear h1' hb2 hb3 T2
    generalize w3.alloc (Obj.cells #[.int .i64 t1.rep, .int .i64 t1.reg, .int .i64 t1.pla, .int .i64 t1.idx, .int .i64 t1.inc] 39) = w4 at *
    generalize w3.heap.size = q4 at *
    have u0 := blk_cell T4 3 (.int .i64 t0.idx) rfl
    have u1 := blk_cell T5 3 (.int .i64 t1.idx) rfl
    go_wp2
    go_ret2
    exact ⟨rfl, hb4⟩
  ·have hv : whichP 1 s1 t0.idx t1.idx = (0, 0) := by unfold whichP; rw [if_neg (fun hh => a1 hh.2), if_pos rfl]
   rw [hv]
   have i1 : ((s1 : Int) == 1) = false := by rw [beq_eq_false_iff_ne]; omega
   clear hv a1
   go_enter Tryz.func103, Tryz.ntmps103
   refine seqH (fun K HK => ?_)
   go_wp2
   refine HK.out _ _ ?_
   clear HK
   refine seqH (fun K HK => ?_)
   go_wp2_with (first
    | (go_at_call 104; refine h0.mono ?_; rintro e w1 ⟨⟨a1, c1, rfl, _⟩, hb1⟩)
    | ((first | (with_reducible refine wpList_stNew 39 _ _ ?_) | (with_reducible refine wp_stNew 39 _ _ ?_)); refine ⟨_, _, ⟨Tryz.sizeOf39, rfl, tg_new _⟩, rfl, ?_⟩))
   refine HK.out _ _ ?_
   clear HK
   have hb2 := hb1.trans ((blw w1 (Obj.cells #[.int .i64 t0.rep, .int .i64 t0.reg, .int .i64 t0.pla, .int .i64 t0.idx, .int .i64 t0.inc] 39)).mono hb1.size)
   have T2 := heap_alloc_new w1 (Obj.cells #[.int .i64 t0.rep, .int .i64 t0.reg, .int .i64 t0.pla, .int .i64 t0.idx, .int .i64 t0.inc] 39)
   have h1' := h1 _ hb2
   clear h0 h1 hb1
   generalize w1.alloc (Obj.cells #[.int .i64 t0.rep, .int .i64 t0.reg, .int .i64 t0.pla, .int .i64 t0.idx, .int .i64 t0.inc] 39) = w2 at *
   generalize w1.heap.size = q2 at *
   refine seqH (fun K HK => ?_)
   go_wp2_with (first
    | (go_at_call 104; refine h1'.mono ?_; rintro e w3 ⟨⟨a3, c3, rfl, _⟩, hb3⟩)
    | ((first | (with_reducible refine wpList_stNew 39 _ _ ?_) | (with_reducible refine wp_stNew 39 _ _ ?_)); refine ⟨_, _, ⟨Tryz.sizeOf39, rfl, tg_new _⟩, rfl, ?_⟩))
   refine HK.out _ _ ?_
   clear HK
   have hb4 := hb2.trans ((hb3.trans ((blw w3 (Obj.cells #[.int .i64 t1.rep, .int .i64 t1.reg, .int .i64 t1.pla, .int .i64 t1.idx, .int .i64 t1.inc] 39)).mono hb3.size)).mono hb2.size)
   have T4 := tr_al (Obj.cells #[.int .i64 t1.rep, .int .i64 t1.reg, .int .i64 t1.pla, .int .i64 t1.idx, .int .i64 t1.inc] 39) (tr_bl hb3 T2)
   have T5 := heap_alloc_new w3 (Obj.cells #[.int .i64 t1.rep, .int .i64 t1.reg, .int .i64 t1.pla, .int .i64 t1.idx, .int .i64 t1.inc] 39)
   clear h1' hb2 hb3 T2
   generalize w3.alloc (Obj.cells #[.int .i64 t1.rep, .int .i64 t1.reg, .int .i64 t1.pla, .int .i64 t1.idx, .int .i64 t1.inc] 39) = w4 at *
   generalize w3.heap.size = q4 at *
   have u0 := blk_cell T4 3 (.int .i64 t0.idx) rfl
   have u1 := blk_cell T5 3 (.int .i64 t1.idx) rfl
   go_wp2
   go_ret2
   exact ⟨rfl, hb4⟩
 ·have i0 : ((s0 : Int) == 1) = false := by rw [beq_eq_false_iff_ne]; omega
  by_cases a1 : s1 = 1
  ·subst a1
   have i1 : (((1 : Nat) : Int) == 1) = true := rfl
   have hv : whichP s0 1 t0.idx t1.idx = (1, 0) := by unfold whichP; rw [if_neg (fun hh => a0 hh.1), if_neg a0, if_pos rfl]
   rw [hv]
   clear hv a0
   go_enter Tryz.func103, Tryz.ntmps103
   refine seqH (fun K HK => ?_)
   go_wp2
   refine HK.out _ _ ?_
   clear HK
   refine seqH (fun K HK => ?_)
   go_wp2_with (first
    | (go_at_call 104; refine h0.mono ?_; rintro e w1 ⟨⟨a1, c1, rfl, _⟩, hb1⟩)
    | ((first | (with_reducible refine wpList_stNew 39 _ _ ?_) | (with_reducible refine wp_stNew 39 _ _ ?_)); refine ⟨_, _, ⟨Tryz.sizeOf39, rfl, tg_new _⟩, rfl, ?_⟩))
   refine HK.out _ _ ?_
   clear HK
   have hb2 := hb1.trans ((blw w1 (Obj.cells #[.int .i64 t0.rep, .int .i64 t0.reg, .int .i64 t0.pla, .int .i64 t0.idx, .int .i64 t0.inc] 39)).mono hb1.size)
   have T2 := heap_alloc_new w1 (Obj.cells #[.int .i64 t0.rep, .int .i64 t0.reg, .int .i64 t0.pla, .int .i64 t0.idx, .int .i64 t0.inc] 39)
   have h1' := h1 _ hb2
   clear h0 h1 hb1
   generalize w1.alloc (Obj.cells #[.int .i64 t0.rep, .int .i64 t0.reg, .int .i64 t0.pla, .int .i64 t0.idx, .int .i64 t0.inc] 39) = w2 at *
   generalize w1.heap.size = q2 at *
   refine seqH (fun K HK => ?_)
   go_wp2_with (first
    | (go_at_call 104; refine h1'.mono ?_; rintro e w3 ⟨⟨a3, c3, rfl, _⟩, hb3⟩)
    | ((first | (with_reducible refine wpList_stNew 39 _ _ ?_) | (with_reducible refine wp_stNew 39 _ _ ?_)); refine ⟨_, _, ⟨Tryz.sizeOf39, rfl, tg_new _⟩, rfl, ?_⟩))
   refine HK.out _ _ ?_
   clear HK
   have hb4 := hb2.trans ((hb3.trans ((blw w3 (Obj.cells #[.int .i64 t1.rep, .int .i64 t1.reg, .int .i64 t1.pla, .int .i64 t1.idx, .int .i64 t1.inc] 39)).mono hb3.size)).mono hb2.size)
   have T4 := tr_al (Obj.cells #[.int .i64 t1.rep, .int .i64 t1.reg, .int .i64 t1.pla, .int .i64 t1.idx, .int .i64 t1.inc] 39) (tr_bl hb3 T2)
   have T5 := heap_alloc_new w3 (Obj.cells #[.int .i64 t1.rep, .int .i64 t1.reg, .int .i64 t1.pla, .int .i64 t1.idx, .int .i64 t1.inc] 39)
   clear h1' hb2 hb3 T2
   generalize w3.alloc (Obj.cells #[.int .i64 t1.rep, .int .i64 t1.reg, .int .i64 t1.pla, .int .i64 t1.idx, .int .i64 t1.inc] 39) = w4 at *
   generalize w3.heap.size = q4 at *
   have u0 := blk_cell T4 3 (.int .i64 t0.idx) rfl
   have u1 := blk_cell T5 3 (.int .i64 t1.idx) rfl
   go_wp2
   go_ret2
   exact ⟨rfl, hb4⟩
  ·have i1 : ((s1 : Int) == 1) = false := by rw [beq_eq_false_iff_ne]; omega
   by_cases a2 : s0 = 0
   ·have hv : whichP s0 s1 t0.idx t1.idx = (-1, 0) := by unfold whichP; rw [if_neg (fun hh => a0 hh.1), if_neg a0, if_neg a1, if_pos (.inl a2)]
    rw [hv]
    have i2 : ((s0 : Int) == 0) = true := by rw [a2]; rfl
    clear hv a0 a1 a2
    go_enter Tryz.func103, Tryz.ntmps103
    refine seqH (fun K HK => ?_)
    go_wp2
    refine HK.out _ _ ?_
    clear HK
    refine seqH (fun K HK => ?_)
    go_wp2_with (first
     | (go_at_call 104; refine h0.mono ?_; rintro e w1 ⟨⟨a1, c1, rfl, _⟩, hb1⟩)
     | ((first | (with_reducible refine wpList_stNew 39 _ _ ?_) | (with_reducible refine wp_stNew 39 _ _ ?_)); refine ⟨_, _, ⟨Tryz.sizeOf39, rfl, tg_new _⟩, rfl, ?_⟩))
    refine HK.out _ _ ?_
    clear HK
    have hb2 := hb1.trans ((blw w1 (Obj.cells #[.int .i64 t0.rep, .int .i64 t0.reg, .int .i64 t0.pla, .int .i64 t0.idx, .int .i64 t0.inc] 39)).mono hb1.size)
    have T2 := heap_alloc_new w1 (Obj.cells #[.int .i64 t0.rep, .int .i64 t0.reg, .int .i64 t0.pla, .int .i64 t0.idx, .int .i64 t0.inc] 39)
    have h1' := h1 _ hb2
    clear h0 h1 hb1
    generalize w1.alloc (Obj.cells #[.int .i64 t0.rep, .int .i64 t0.reg, .int .i64 t0.pla, .int .i64 t0.idx, .int .i64 t0.inc] 39) = w2 at *
    generalize w1.heap.size = q2 at *
    refine seqH (fun K HK => ?_)
    go_wp2_with (first
     | (go_at_call 104; refine h1'.mono ?_; rintro e w3 ⟨⟨a3, c3, rfl, _⟩, hb3⟩)
     | ((first | (with_reducible refine wpList_stNew 39 _ _ ?_) | (with_reducible refine wp_stNew 39 _ _ ?_)); refine ⟨_, _, ⟨Tryz.sizeOf39, rfl, tg_new _⟩, rfl, ?_⟩))
    refine HK.out _ _ ?_
    clear HK
    have hb4 := hb2.trans ((hb3.trans ((blw w3 (Obj.cells #[.int .i64 t1.rep, .int .i64 t1.reg, .int .i64 t1.pla, .int .i64 t1.idx, .int .i64 t1.inc] 39)).mono hb3.size)).mono hb2.size)
    have T4 := tr_al (Obj.cells #[.int .i64 t1.rep, .int .i64 t1.reg, .int .i64 t1.pla, .int .i64 t1.idx, .int .i64 t1.inc] 39) (tr_bl hb3 T2)
    have T5 := heap_alloc_new w3 (Obj.cells #[.int .i64 t1.rep, .int .i64 t1.reg, .int .i64 t1.pla, .int .i64 t1.idx, .int .i64 t1.inc] 39)
    clear h1' hb2 hb3 T2
    generalize w3.alloc (Obj.cells #[.int .i64 t1.rep, .int .i64 t1.reg, .int .i64 t1.pla, .int .i64 t1.idx, .int .i64 t1.inc] 39) = w4 at *
    generalize w3.heap.size = q4 at *
    have u0 := blk_cell T4 3 (.int .i64 t0.idx) rfl
    have u1 := blk_cell T5 3 (.int .i64 t1.idx) rfl
    go_wp2
    go_ret2
    exact ⟨rfl, hb4⟩
   ·have i2 : ((s0 : Int) == 0) = false := by rw [beq_eq_false_iff_ne]; omega
    by_cases a3 : s1 = 0
    ·have hv : whichP s0 s1 t0.idx t1.idx = (-1, 0) := by unfold whichP; rw [if_neg (fun hh => a0 hh.1), if_neg a0, if_neg a1, if_pos (.inr a3)]
     rw [hv]
     have i3 : ((s1 : Int) == 0) = true := by rw [a3]; rfl
     clear hv a0 a1 a2 a3
     go_enter Tryz.func103, Tryz.ntmps103
     refine seqH (fun K HK => ?_)
     go_wp2
     refine HK.out _ _ ?_
     clear HK
     refine seqH (fun K HK => ?_)
     go_wp2_with (first
      | (go_at_call 104; refine h0.mono ?_; rintro e w1 ⟨⟨a1, c1, rfl, _⟩, hb1⟩)
      | ((first | (with_reducible refine wpList_stNew 39 _ _ ?_) | (with_reducible refine wp_stNew 39 _ _ ?_)); refine ⟨_, _, ⟨Tryz.sizeOf39, rfl, tg_new _⟩, rfl, ?_⟩))
     refine HK.out _ _ ?_
     clear HK
     have hb2 := hb1.trans ((blw w1 (Obj.cells #[.int .i64 t0.rep, .int .i64 t0.reg, .int .i64 t0.pla, .int .i64 t0.idx, .int .i64 t0.inc] 39)).mono hb1.size)
     have T2 := heap_alloc_new w1 (Obj.cells #[.int .i64 t0.rep, .int .i64 t0.reg, .int .i64 t0.pla, .int .i64 t0.idx, .int .i64 t0.inc] 39)
     have h1' := h1 _ hb2
     clear h0 h1 hb1
     generalize w1.alloc (Obj.cells #[.int .i64 t0.rep, .int .i64 t0.reg, .int .i64 t0.pla, .int .i64 t0.idx, .int .i64 t0.inc] 39) = w2 at *
     generalize w1.heap.size = q2 at *
     refine seqH (fun K HK => ?_)
     go_wp2_with (first
      | (go_at_call 104; refine h1'.mono ?_; rintro e w3 ⟨⟨a3, c3, rfl, _⟩, hb3⟩)
      | ((first | (with_reducible refine wpList_stNew 39 _ _ ?_) | (with_reducible refine wp_stNew 39 _ _ ?_)); refine ⟨_, _, ⟨Tryz.sizeOf39, rfl, tg_new _⟩, rfl, ?_⟩))
     refine HK.out _ _ ?_
     clear HK
     have hb4 := hb2.trans ((hb3.trans ((blw w3 (Obj.cells #[.int .i64 t1.rep, .int .i64 t1.reg, .int .i64 t1.pla, .int .i64 t1.idx, .int .i64 t1.inc] 39)).mono hb3.size)).mono hb2.size)
     have T4 := tr_al (Obj.cells #[.int .i64 t1.rep, .int .i64 t1.reg, .int .i64 t1.pla, .int .i64 t1.idx, .int .i64 t1.inc] 39) (tr_bl hb3 T2)
     have T5 := heap_alloc_new w3 (Obj.cells #[.int .i64 t1.rep, .int .i64 t1.reg, .int .i64 t1.pla, .int .i64 t1.idx, .int .i64 t1.inc] 39)
     clear h1' hb2 hb3 T2
     generalize w3.alloc (Obj.cells #[.int .i64 t1.rep, .int .i64 t1.reg, .int .i64 t1.pla, .int .i64 t1.idx, .int .i64 t1.inc] 39) = w4 at *
     generalize w3.heap.size = q4 at *
     have u0 := blk_cell T4 3 (.int .i64 t0.idx) rfl
     have u1 := blk_cell T5 3 (.int .i64 t1.idx) rfl
     go_wp2
     go_ret2
     exact ⟨rfl, hb4⟩
    ·have hv : whichP s0 s1 t0.idx t1.idx = (-1, 70) := by unfold whichP; rw [if_neg (fun hh => a0 hh.1), if_neg a0, if_neg a1, if_neg (fun hh => hh.elim a2 a3)]
     rw [hv]
     have i3 : ((s1 : Int) == 0) = false := by rw [beq_eq_false_iff_ne]; omega
     clear hv a0 a1 a2 a3
     go_enter Tryz.func103, Tryz.ntmps103
     refine seqH (fun K HK => ?_)
     go_wp2
     refine HK.out _ _ ?_
     clear HK
     refine seqH (fun K HK => ?_)
     go_wp2_with (first
      | (go_at_call 104; refine h0.mono ?_; rintro e w1 ⟨⟨a1, c1, rfl, _⟩, hb1⟩)
      | ((first | (with_reducible refine wpList_stNew 39 _ _ ?_) | (with_reducible refine wp_stNew 39 _ _ ?_)); refine ⟨_, _, ⟨Tryz.sizeOf39, rfl, tg_new _⟩, rfl, ?_⟩))
     refine HK.out _ _ ?_
     clear HK
     have hb2 := hb1.trans ((blw w1 (Obj.cells #[.int .i64 t0.rep, .int .i64 t0.reg, .int .i64 t0.pla, .int .i64 t0.idx, .int .i64 t0.inc] 39)).mono hb1.size)
     have T2 := heap_alloc_new w1 (Obj.cells #[.int .i64 t0.rep, .int .i64 t0.reg, .int .i64 t0.pla, .int .i64 t0.idx, .int .i64 t0.inc] 39)
     have h1' := h1 _ hb2
     clear h0 h1 hb1
     generalize w1.alloc (Obj.cells #[.int .i64 t0.rep, .int .i64 t0.reg, .int .i64 t0.pla, .int .i64 t0.idx, .int .i64 t0.inc] 39) = w2 at *
     generalize w1.heap.size = q2 at *
     refine seqH (fun K HK => ?_)
     go_wp2_with (first
      | (go_at_call 104; refine h1'.mono ?_; rintro e w3 ⟨⟨a3, c3, rfl, _⟩, hb3⟩)
      | ((first | (with_reducible refine wpList_stNew 39 _ _ ?_) | (with_reducible refine wp_stNew 39 _ _ ?_)); refine ⟨_, _, ⟨Tryz.sizeOf39, rfl, tg_new _⟩, rfl, ?_⟩))
     refine HK.out _ _ ?_
     clear HK
     have hb4 := hb2.trans ((hb3.trans ((blw w3 (Obj.cells #[.int .i64 t1.rep, .int .i64 t1.reg, .int .i64 t1.pla, .int .i64 t1.idx, .int .i64 t1.inc] 39)).mono hb3.size)).mono hb2.size)
     have T4 := tr_al (Obj.cells #[.int .i64 t1.rep, .int .i64 t1.reg, .int .i64 t1.pla, .int .i64 t1.idx, .int .i64 t1.inc] 39) (tr_bl hb3 T2)
     have T5 := heap_alloc_new w3 (Obj.cells #[.int .i64 t1.rep, .int .i64 t1.reg, .int .i64 t1.pla, .int .i64 t1.idx, .int .i64 t1.inc] 39)
     clear h1' hb2 hb3 T2
     generalize w3.alloc (Obj.cells #[.int .i64 t1.rep, .int .i64 t1.reg, .int .i64 t1.pla, .int .i64 t1.idx, .int .i64 t1.inc] 39) = w4 at *
     generalize w3.heap.size = q4 at *
     have u0 := blk_cell T4 3 (.int .i64 t0.idx) rfl
     have u1 := blk_cell T5 3 (.int .i64 t1.idx) rfl
     go_wp2
     go_ret2
     exact ⟨rfl, hb4⟩
end
end Go.Proofs.YtbdonjenekhmdaaGreatDoor
namespace Go.Proofs.YtbdonjenekhmdaaGreatDoor
open Go.RowKit
theorem which_ge {d : Dk} {rep reg : Int} (h : 0 ≤ (whichC d rep reg).1) : (loadedC (copyC d rep reg 0) (copyC d rep reg 1)).2.1 = true ∧ ((loadedC (copyC d rep reg 0) (copyC d rep reg 1)).1 = 0 ∨ (loadedC (copyC d rep reg 0) (copyC d rep reg 1)).1 = 1) ∧ (whichC d rep reg).1 = (loadedC (copyC d rep reg 0) (copyC d rep reg 1)).1 ∧ copyC d rep reg (whichC d rep reg).1 = pickC (copyC d rep reg 0) (copyC d rep reg 1) := by
 unfold whichC at h ⊢
 rw [which_loaded] at h ⊢
 have hl : (loadedC (copyC d rep reg 0) (copyC d rep reg 1)).1 = 0 ∨ (loadedC (copyC d rep reg 0) (copyC d rep reg 1)).1 = 1 := by
  unfold loadedC
  split
  ·exact .inr rfl
  ·split
   ·exact .inl rfl
   ·split <;> exact .inl rfl
 cases ha : (loadedC (copyC d rep reg 0) (copyC d rep reg 1)).2.1
 ·rw [ha] at h
  simp at h
 ·simp only [if_true]
  refine ⟨trivial, hl, trivial, ?_⟩
  unfold pickC
  rcases hl with hl | hl
  ·rw [hl]; simp
  ·rw [hl]; simp
theorem which_lt {d : Dk} {rep reg : Int} (h : (whichC d rep reg).1 < 0) : (loadedC (copyC d rep reg 0) (copyC d rep reg 1)).2.1 = false ∧ (whichC d rep reg).2 = (loadedC (copyC d rep reg 0) (copyC d rep reg 1)).2.2 := by
 unfold whichC at h ⊢
 rw [which_loaded] at h ⊢
 cases ha : (loadedC (copyC d rep reg 0) (copyC d rep reg 1)).2.1
 ·exact ⟨rfl, rfl⟩
 ·rw [ha] at h
  simp at h
  omega
def LdR (r : Int × List UInt8 × Int) (e : Ending) (w' : World) : Prop := ∃ a c, e = .returned (.tuple #[.int .i64 r.1, .slice a r.2.1.length c, .int .i64 r.2.2]) ∧ SlB w' a c r.2.1
section
variable {B g : Nat} {q : RQ} {d : Dk} {w w' : World}
set_option maxRecDepth 100000 in
set_option maxHeartbeats 8000000 in
theorem rload_any (h : RefB B g q d w) (rep reg : Int) : Calls Tryz.prog 38 #[.pointer (some ⟨g, 0, none⟩), .int .i64 rep, .int .i64 reg] w fun e w' => LdR (loadC d rep reg) e w' ∧ Below w.heap.size w w' := by
 have hk := rasked7_any h rep reg
 have hn := h.n0
 have c4 := h.c4
 have c5 := h.c5
 have hv : openC d rep reg = if d.pl.length < 156 ∨ (reg ≠ 1 ∧ reg ≠ 2) ∨ rep < 0 ∨ 7 ≤ rep then 2 else if upD d = false then 5 else 0 := by
  unfold openC
  rw [if_neg (by omega)]
 have hup : upD d = (!d.down && !d.dead) := by unfold upD; rw [decide_eq_true hn]; rfl
 by_cases h2 : openC d rep reg = 2
 case pos =>
  rw [decide_eq_false (by rw [h2]; simp)] at hk
  have hl : loadC d rep reg = (0, [], 2) := by unfold loadC; rw [if_pos (by rw [h2]; simp), h2]
  rw [hl]
  clear hl h2 hv hup
  go_enter Tryz.func38, Tryz.ntmps38
  go_wp2_with (go_at_call 102; refine hk.mono ?_; rintro e w1 ⟨rfl, rfl⟩)
  go_ret3
  exact ⟨⟨none, 0, rfl, slb_nil _⟩, Below.refl _ _⟩
 case neg =>
 rw [decide_eq_true h2] at hk
 have hv2 : openC d rep reg = if upD d = false then 5 else 0 := by
  rw [hv] at h2 ⊢
  split at h2
  ·exact absurd rfl h2
  ·rename_i h3; rw [if_neg h3]
 clear hv h2
 rcases two_b d.down with e1 | e1
 case inr =>
  have hl : loadC d rep reg = (0, [], 5) := by
   have h5 : openC d rep reg = 5 := by rw [hv2, hup, e1]; rfl
   unfold loadC
   rw [if_pos (by rw [h5]; simp), h5]
  rw [hl]
  rw [e1] at c4
  clear hl hv2 hup e1
  go_enter Tryz.func38, Tryz.ntmps38
  go_wp2_with (go_at_call 102; refine hk.mono ?_; rintro e w1 ⟨rfl, rfl⟩)
  go_ret3
  exact ⟨⟨none, 0, rfl, slb_nil _⟩, Below.refl _ _⟩
 case inl =>
 rcases two_b d.dead with e2 | e2
 case inr =>
  have hl : loadC d rep reg = (0, [], 5) := by
   have h5 : openC d rep reg = 5 := by rw [hv2, hup, e1, e2]; rfl
   unfold loadC
   rw [if_pos (by rw [h5]; simp), h5]
  rw [hl]
  rw [e1] at c4
  rw [e2] at c5
  clear hl hv2 hup e1 e2
  go_enter Tryz.func38, Tryz.ntmps38
  go_wp2_with (go_at_call 102; refine hk.mono ?_; rintro e w1 ⟨rfl, rfl⟩)
  go_ret3
  exact ⟨⟨none, 0, rfl, slb_nil _⟩, Below.refl _ _⟩
 case inl =>
 have ho : openC d rep reg = 0 := by rw [hv2, hup, e1, e2]; rfl
 rw [e1] at c4
 rw [e2] at c5
 clear hv2 hup e1 e2
 have hwh := rwhich_any h rep reg
 have hge := which_ge (d := d) (rep := rep) (reg := reg)
 have hlt := which_lt (d := d) (rep := rep) (reg := reg)
 obtain ⟨⟨i, er⟩, hw⟩ : ∃ r, whichC d rep reg = r := ⟨_, rfl⟩
 rw [hw] at hwh hge hlt
 simp only at hwh hge hlt
 clear hw
 by_cases hi : i < 0
 case pos =>
  obtain ⟨h1, h2⟩ := hlt hi
  have hl : loadC d rep reg = (0, [], er) := by unfold loadC; rw [if_neg (by rw [ho]; simp), if_pos h1, h2]
  rw [hl]
  clear hl hge hlt h1 h2 ho
  go_enter Tryz.func38, Tryz.ntmps38
  go_wp2_with (first
   | (go_at_call 102; refine hk.mono ?_; rintro e w1 ⟨rfl, rfl⟩)
   | (go_at_call 103; refine hwh.mono ?_; rintro e w2 ⟨rfl, hb2⟩))
  go_ret3
  exact ⟨⟨none, 0, rfl, slb_nil _⟩, hb2⟩
 case neg =>
  have h1 := (hge (by omega)).1
  have h4 := (hge (by omega)).2.2.2
  have hmi := fun (w' : World) (hb : Below w.heap.size w w') => rmine7_any (h.below hb) rep reg i
  simp only [mineD_copy, h4] at hmi
  have hl : loadC d rep reg = ((pickC (copyC d rep reg 0) (copyC d rep reg 1)).tg.idx, (pickC (copyC d rep reg 0) (copyC d rep reg 1)).body, 0) := by unfold loadC; rw [if_neg (by rw [ho]; simp), if_neg (by rw [h1]; simp)]
  rw [hl]
  clear hl hge hlt h1 h4 ho
  generalize pickC (copyC d rep reg 0) (copyC d rep reg 1) = pc at *
  obtain ⟨st, tg, body⟩ := pc
  simp only at hmi ⊢
  go_enter Tryz.func38, Tryz.ntmps38
  refine seqH (fun K HK => ?_)
  go_wp2
  refine HK.out _ _ ?_
  clear HK
  refine seqH (fun K HK => ?_)
  go_wp2_with (go_at_call 102; refine hk.mono ?_; rintro e w1 ⟨rfl, rfl⟩)
  refine HK.out _ _ ?_
  clear HK
  refine seqH (fun K HK => ?_)
  go_wp2
  refine HK.out _ _ ?_
  clear HK
  refine seqH (fun K HK => ?_)
  go_wp2_with (go_at_call 103; refine hwh.mono ?_; rintro e w2 ⟨rfl, hb2⟩)
  refine HK.out _ _ ?_
  clear HK
  have hmi2 := hmi _ hb2
  clear hmi hwh hk
  refine seqH (fun K HK => ?_)
  go_wp2
  refine HK.out _ _ ?_
  clear HK
  refine seqH (fun K HK => ?_)
  go_wp2_with (first
     | (go_at_call 104; refine hmi2.mono ?_; rintro e w3 ⟨⟨a3, c3, rfl, o3⟩, hb3⟩)
     | ((first | (with_reducible refine wpList_stNew 39 _ _ ?_) | (with_reducible refine wp_stNew 39 _ _ ?_)); refine ⟨_, _, ⟨Tryz.sizeOf39, rfl, tg_new _⟩, rfl, ?_⟩))
  refine HK.out _ _ ?_
  clear HK
  have T4 := heap_alloc_new w3 (Obj.cells #[.int .i64 tg.rep, .int .i64 tg.reg, .int .i64 tg.pla, .int .i64 tg.idx, .int .i64 tg.inc] 39)
  have s4 := o3.slb.below (blw w3 (Obj.cells #[.int .i64 tg.rep, .int .i64 tg.reg, .int .i64 tg.pla, .int .i64 tg.idx, .int .i64 tg.inc] 39))
  have hb4 := (hb2.trans (hb3.mono hb2.size)).trans ((blw w3 (Obj.cells #[.int .i64 tg.rep, .int .i64 tg.reg, .int .i64 tg.pla, .int .i64 tg.idx, .int .i64 tg.inc] 39)).mono (Nat.le_trans hb2.size hb3.size))
  clear hmi2 hb2 hb3 o3
  generalize w3.alloc (Obj.cells #[.int .i64 tg.rep, .int .i64 tg.reg, .int .i64 tg.pla, .int .i64 tg.idx, .int .i64 tg.inc] 39) = w4 at *
  generalize w3.heap.size = q4 at *
  have u0 := blk_cell T4 3 (.int .i64 tg.idx) rfl
  go_wp2
  go_ret3
  exact ⟨⟨a3, c3, rfl, s4⟩, hb4⟩
end
end Go.Proofs.YtbdonjenekhmdaaGreatDoor
