/- Texts that the claim leans on, part 20: G13, G14, G15, X16, G19, G20, OA. -/
import Derived.Test.YtejjneamngkmoaaDoorZ1
import Derived.Test.YtejjneamngkmoaaDoorZ2
import Derived.Test.YtejjneamngkmoaaDoorZ3
import Derived.Test.YtejjneamngkmoaaDoorZ4
import Derived.Test.YtejjneamngkmoaaDoorZ5
import Derived.Test.YtejjneamngkmoaaDoorZ6
import Derived.Test.YtejjneamngkmoaaDoorZ7
import Derived.Test.YtejjneamngkmoaaDoorZ8
import Derived.Test.YtejjneamngkmoaaDoorZ9
import Derived.Test.YtejjneamngkmoaaDoorZ10
import Derived.Test.YtejjneamngkmoaaDoorZ17
import Derived.Test.YtejjneamngkmoaaDoorZ18
import Derived.Test.YtejjneamngkmoaaDoorZ19
import Derived.Test.YtejjneamngkmoaaDoorRows
import Derived.WalkKit
import Derived.WalkSpells
import Derived.WalkLawsBesides
import Derived.Handy
import Derived.Deep.QuietTactic
import Derived.BigQuiet
import Derived.Deep.DeepCutAuto
import Derived.Lib.Hide
import Derived.RegionTactic
import Derived.ChangeAlike
import Derived.Laws.ResultCell
import Derived.Outline
import Derived.IntWalk
import Derived.Laws.Shifts
import Derived.Deep.Slices
import Derived.Lib.SmallJoins
import Derived.Laws.BitsAllLaws
import Derived.Shelf.Abstract
import Derived.Shelf.RegionOpen
import Derived.OwnWalkIn
import Derived.TacticsInMore
import Derived.LoopNIn
import Derived.LoopIn
import Derived.Maps.AppendAt
import Derived.RangeFuncNested
import Derived.RangeFuncBound
import Derived.RangeFuncCalls
import Derived.RangeFuncLeaves
import Derived.RangeFuncBox
import Derived.Laws.IdiomStrings
import Derived.Laws.BytesArg
import Derived.Laws.MakeOwn
import Derived.Lib.SliceRun
import Derived.Great.BuildSlice
import Derived.Great.FillDense
import Derived.Laws.Rows
import Derived.Deep.Quiet
import Derived.Deep.RegionHeld3
import Derived.ProofKit
import Derived.OpenShut
import Derived.Laws.CopyOwn
import Derived.Laws.CopyRow
import Derived.Laws.NewBlocks
import Derived.Deep.RegionLaw
import Derived.ChangeSlices
namespace Go.Proofs.YtejjneamngkmoaaDoor
open Go.RowKit

set_option maxRecDepth 100000 in
theorem lwide_any (t : Tg) (w : World) : Calls Tryd.prog 30 #[tgV t] w fun e w' => e = .returned (.int .i64 (wideT t : Nat)) ∧ Below w.heap.size w w' := by
  have hm := tmay_any t (w.alloc (Obj.cells #[.int .i64 t.rep, .int .i64 t.reg, .int .i64 t.pla, .int .i64 t.idx, .int .i64 t.inc] 37))
  have hwi := fun w => wide_any t.reg w
  have hbw := blw w (Obj.cells #[.int .i64 t.rep, .int .i64 t.reg, .int .i64 t.pla, .int .i64 t.idx, .int .i64 t.inc] 37)
  have B0 := heap_alloc_new w (Obj.cells #[.int .i64 t.rep, .int .i64 t.reg, .int .i64 t.pla, .int .i64 t.idx, .int .i64 t.inc] 37)
  have hqs := hbw.size
  have c0 : (w.alloc (Obj.cells #[.int .i64 t.rep, .int .i64 t.reg, .int .i64 t.pla, .int .i64 t.idx, .int .i64 t.inc] 37)).cell? ⟨w.heap.size, 0, none⟩ = some (.int .i64 t.rep) := blk_cell B0 0 _ rfl
  have c1 : (w.alloc (Obj.cells #[.int .i64 t.rep, .int .i64 t.reg, .int .i64 t.pla, .int .i64 t.idx, .int .i64 t.inc] 37)).cell? ⟨w.heap.size, 1, none⟩ = some (.int .i64 t.reg) := blk_cell B0 1 _ rfl
  have c2 : (w.alloc (Obj.cells #[.int .i64 t.rep, .int .i64 t.reg, .int .i64 t.pla, .int .i64 t.idx, .int .i64 t.inc] 37)).cell? ⟨w.heap.size, 2, none⟩ = some (.int .i64 t.pla) := blk_cell B0 2 _ rfl
  have c3 : (w.alloc (Obj.cells #[.int .i64 t.rep, .int .i64 t.reg, .int .i64 t.pla, .int .i64 t.idx, .int .i64 t.inc] 37)).cell? ⟨w.heap.size, 3, none⟩ = some (.int .i64 t.idx) := blk_cell B0 3 _ rfl
  have c4 : (w.alloc (Obj.cells #[.int .i64 t.rep, .int .i64 t.reg, .int .i64 t.pla, .int .i64 t.idx, .int .i64 t.inc] 37)).cell? ⟨w.heap.size, 4, none⟩ = some (.int .i64 t.inc) := blk_cell B0 4 _ rfl
  clear B0
  cases ht : mayTg t
  case false =>
    rw [show wideT t = 0 by unfold wideT; rw [ht]; rfl]
    rw [ht] at hm
    clear ht
    go_enter Tryd.func30, Tryd.ntmps30
    refine wp_seq_k (fun K hK => ?_)
    have HK := Lib.hid hK
    clear hK
    go_wp2
    refine HK.out _ _ ?_
    clear HK
    generalize w.alloc (Obj.cells #[.int .i64 t.rep, .int .i64 t.reg, .int .i64 t.pla, .int .i64 t.idx, .int .i64 t.inc] 37) = w0 at *
    generalize w.heap.size = q at *
    go_wp2_with (go_at_call 27; refine hm.mono ?_; rintro e w1 ⟨rfl, hb1⟩)
    go_ret
    exact ⟨rfl, hbw.trans (hb1.mono hqs)⟩
  case true =>
    rw [(wide_may ht).1]
    rw [ht] at hm
    clear ht
    go_enter Tryd.func30, Tryd.ntmps30
    refine wp_seq_k (fun K hK => ?_)
    have HK := Lib.hid hK
    clear hK
    go_wp2
    refine HK.out _ _ ?_
    clear HK
    generalize w.alloc (Obj.cells #[.int .i64 t.rep, .int .i64 t.reg, .int .i64 t.pla, .int .i64 t.idx, .int .i64 t.inc] 37) = w0 at *
    generalize w.heap.size = q at *
    go_wp2_with (first
      | (go_at_call 27; refine hm.mono ?_; rintro e w1 ⟨rfl, hb1⟩; have d1 := cell_later hb1 c1)
      | (go_at_call 51; refine (hwi _).mono ?_; rintro e w2 ⟨rfl, hb2⟩))
    go_ret
    exact ⟨rfl, hbw.trans ((hb1.trans (hb2.mono hb1.size)).mono hqs)⟩
/-! Acts of layer 6 that came in. -/
def a6L (x : A6) : List Value := [.bool x.sl, .int .i64 x.tg.rep, .int .i64 x.tg.reg, .int .i64 x.tg.pla, .int .i64 x.tg.idx, .int .i64 x.tg.inc, .slice x.oa x.body.length x.oc, .int .u8 (x.dk.kind : Int), .int .i64 x.dk.sec, .int .i64 x.dk.n, .slice x.dk.ba x.dk.bytes.length x.dk.bc, .slice x.dk.ka x.dk.keep.length x.dk.kc]
def a6A (x : A6) : Array Value := (a6L x).toArray
def a6V (x : A6) : Value := .agg (a6A x)
structure A6in (w : World) (x : A6) : Prop where
  b : SlB w x.oa x.oc x.body
  d : A5in w x.dk
  k : x.dk.kind < 256
  n : x.dk.n ≤ 9223372036854775807
theorem A6in.below {w w' : World} {x : A6} (h : A6in w x) (hb : Below w.heap.size w w') : A6in w' x := ⟨h.b.below hb, h.d.below hb, h.k, h.n⟩
structure Acts (w : World) (a : Option Addr) (l : List A6) : Prop where
  each : ∀ (j : Nat) (hj : j < l.length), ∃ b off, a = some ⟨b, off, none⟩ ∧ (∀ r u, (a6L l[j])[r]? = some u → w.cell? ⟨b, off + j * 12 + r, none⟩ = some u) ∧ A6in w l[j]
theorem Acts.below {w w' : World} {a : Option Addr} {l : List A6} (h : Acts w a l) (hb : Below w.heap.size w w') : Acts w' a l :=
  ⟨fun j hj => by
    obtain ⟨b, off, e, hc, hi⟩ := h.each j hj
    exact ⟨b, off, e, fun r u hu => cell_later hb (hc r u hu), hi.below hb⟩⟩
def gr6x (x : A6) : Bool := decide (100 < x.body.length) || gr5 x.dk
def gr6 (l : List A6) : Bool := decide (60 < l.length) || l.any gr6x
theorem gr6_no {l : List A6} (h : gr6 l = false) : l.length ≤ 60 ∧ ∀ x ∈ l, x.body.length ≤ 100 ∧ x.dk.bytes.length ≤ 200 ∧ x.dk.keep.length ≤ 100 := by
  unfold gr6 at h
  rw [Bool.or_eq_false_iff] at h
  refine ⟨by have := of_decide_eq_false h.1; omega, fun x hx => ?_⟩
  have h2 := List.any_eq_false.1 h.2 x hx
  unfold gr6x gr5 at h2
  simp at h2
  omega
theorem any_snoc6 {l : List A6} {j : Nat} (h : j < l.length) (f : A6 → Bool) : (l.take (j + 1)).any f = ((l.take j).any f || f l[j]) := by
  rw [List.take_succ_eq_append_getElem h, List.any_append, List.any_cons, List.any_nil, Bool.or_false]
set_option maxRecDepth 100000 in
set_option maxHeartbeats 1000000 in
theorem lgreat_any (a : Option Addr) (cap : Nat) (l : List A6) (w : World) (hp : Acts w a l) : Calls Tryd.prog 20 #[.slice a l.length cap] w fun e w' => e = .returned (.bool (gr6 l)) ∧ Below w.heap.size w w' := by
  unfold gr6
  by_cases h60 : 60 < l.length
  case pos =>
    rw [decide_eq_true h60, Bool.true_or]
    have hI : (60 : Int) < l.length := by omega
    go_enter Tryd.func20, Tryd.ntmps20
    go_wp2
    go_ret
    exact ⟨rfl, Below.refl _ _⟩
  case neg =>
    rw [decide_eq_false h60, Bool.false_or]
    have hI : ¬ (60 : Int) < l.length := by omega
    obtain ⟨r, hr⟩ : ∃ r, l.any gr6x = r := ⟨_, rfl⟩
    rw [hr]
    have HR := Lib.hid hr
    clear hr
    go_enter Tryd.func20, Tryd.ntmps20
    refine wp_seq_k (fun K hK => ?_)
    have HK := Lib.hid hK
    clear hK
    go_wp2
    refine HK.out _ _ ?_
    clear HK
    refine wp_seq_k (fun K hK => ?_)
    have HK := Lib.hid hK
    clear hK
    go_wp2
    refine HK.out _ _ ?_
    clear HK
    refine wp_seq_k (fun K hK => ?_)
    have HK := Lib.hid hK
    clear hK
    go_wp2_with fail
    go_loopw [3] (fun i wr => ∃ j : Nat, j ≤ l.length ∧ i = .int .i64 (j : Nat) ∧ Hid ((l.take j).any gr6x = false) ∧ Below w.heap.size w wr) (fun i _ => l.length - (intOf i).toNat)
    case atStart => exact ⟨0, by omega, rfl, Lib.hid rfl, Below.refl _ _⟩
    case round =>
      obtain ⟨j, hj, rfl, ha, hbr⟩ := hrel
      by_cases hlt : j < l.length
      case neg =>
        obtain rfl : j = l.length := by omega
        have hrf : r = false := by have h := ha.out; rw [List.take_length] at h; exact HR.out.symm.trans h
        subst hrf
        clear ha HR
        go_wp2
        refine HK.out _ _ ?_
        clear HK
        go_wp2
        go_ret
        exact ⟨rfl, hbr⟩
      case pos =>
        obtain ⟨b, off, rfl, hc, hi⟩ := (hp.below hbr).each j hlt
        have hsn := any_snoc6 hlt gr6x
        rw [ha.out, Bool.false_or] at hsn
        have hmem := List.getElem_mem hlt
        have hrt : gr6x l[j] = true → r = true := fun h => by
          rw [← HR.out, List.any_eq_true]
          exact ⟨_, hmem, h⟩
        generalize l[j] = x at *
        have c6 := hc 6 _ rfl
        have c7 := hc 7 _ rfl
        have c8 := hc 8 _ rfl
        have c9 := hc 9 _ rfl
        have c10 := hc 10 _ rfl
        have c11 := hc 11 _ rfl
        have HSN := Lib.hid hsn
        have HRT := Lib.hid hrt
        clear hsn hrt hmem ha hc
        by_cases h1 : 100 < x.body.length
        · have hI2 : (100 : Int) < x.body.length := by omega
          obtain rfl := HRT.out (by unfold gr6x; rw [decide_eq_true h1]; rfl)
          clear HRT HSN HR
          go_wp2
          go_ret
          exact ⟨rfl, hbr⟩
        · have hI2 : ¬ (100 : Int) < x.body.length := by omega
          have hx : gr6x x = gr5 x.dk := by unfold gr6x; rw [decide_eq_false h1, Bool.false_or]
          obtain ⟨gx, hgx⟩ : ∃ gx, gr5 x.dk = gx := ⟨_, rfl⟩
          rw [hgx] at hx
          have HGX := Lib.hid hgx
          have HX := Lib.hid hx
          clear hgx hx
          have hbx := blw wr (Obj.cells (a5A x.dk) 49)
          have hg5 := great5_any x.dk wr.heap.size 49 (wr.alloc (Obj.cells (a5A x.dk) 49)) (heap_alloc_new wr _)
          rw [HGX.out] at hg5
          cases gx
          · go_wp2_with (go_at_call 56; refine hg5.mono ?_; rintro e w5 ⟨rfl, rfl⟩)
            go_roundw
            case rel => exact ⟨j + 1, by omega, by go_num, Lib.hid (by rw [HSN.out]; exact HX.out), hbr.trans (hbx.mono hbr.size)⟩
            case measure => simp [intOf]; omega
          · obtain rfl := HRT.out HX.out
            clear HRT HSN HR
            go_wp2_with (go_at_call 56; refine hg5.mono ?_; rintro e w5 ⟨rfl, rfl⟩)
            go_ret
            exact ⟨rfl, hbr.trans (hbx.mono hbr.size)⟩
/-! A frame in memory. -/
def FrIn (w : World) (G C : Nat) (b : List UInt8) : Prop := b.length ≤ C ∧ C ≤ maxLen ∧ ∃ cur : List Value, w.heap[G]? = some (.cells cur.toArray 5 (0, 0)) ∧ ∀ (i : Nat) (u : Value), (bys b)[i]? = some u → cur[i]? = some u
section
variable {w w' : World} {G C : Nat} {b : List UInt8}
theorem FrIn.kt {B : Nat} (h : FrIn w G C b) (hk : Kt B w w') : FrIn w' G C b := by
  obtain ⟨h1, h2, cur, h3, h4⟩ := h
  exact ⟨h1, h2, cur, hk.ty _ _ _ h3 (by decide) (by decide) (by decide), h4⟩
theorem FrIn.below (h : FrIn w G C b) (hb : Below w.heap.size w w') : FrIn w' G C b := by
  obtain ⟨h1, h2, cur, h3, h4⟩ := h
  exact ⟨h1, h2, cur, tr_bl hb h3, h4⟩
theorem FrIn.piece (h : FrIn w G C b) {k : Nat} (hk : 64 * k + 64 ≤ b.length) : SlB w (some ⟨G, 64 * k, none⟩) (C - 64 * k) (pcD b k) := by
  obtain ⟨h1, h2, cur, h3, h4⟩ := h
  have hl : (pcD b k).length = 64 := by unfold pcD; rw [List.length_take, List.length_drop]; omega
  refine ⟨Row.of_block h3 (64 * k) (fun i u hu => ?_), by omega, by omega, fun e => by cases e⟩
  refine h4 _ _ ?_
  have hi := (List.getElem?_eq_some_iff.1 hu).1
  rw [bys_len, hl] at hi
  unfold bys pcD at hu
  rw [List.getElem?_map, List.getElem?_take_of_lt hi, List.getElem?_drop] at hu
  unfold bys
  rw [List.getElem?_map]
  exact hu
theorem FrIn.of_owns {base : Nat} {v : Value} (h : w.ownsRow base 5 1 v b.length (bys b)) (hb : 0 < b.length) : ∃ G C, v = .slice (some ⟨G, 0, none⟩) b.length C ∧ base ≤ G ∧ FrIn w G C b := by
  rcases h.2 with ⟨h1, h2⟩ | ⟨g, cap, cur, h1, h2, h3, h4, h5, h6, h7⟩
  · omega
  · refine ⟨g, cap, h1, h2, h4, h5, cur.toList, by rw [Array.toArray_toList]; exact h3, fun i u hu => ?_⟩
    have hi := (List.getElem?_eq_some_iff.1 hu).1
    rw [bys_len] at hi
    rw [← h7, List.getElem?_take_of_lt (by omega)] at hu
    exact hu
end
theorem seal_n (t : Tg) (a : Option Addr) (cap : Nat) (body : List UInt8) (n : Nat) (hn : n = 1 ∨ n = 2) (w : World) (hs : SlB w a cap body) (ht : mayTg t = true) (hb : body.length ≤ 43) : Calls Tryd.prog 63 #[tgV t, .slice a body.length cap, .int .i64 (n : Int)] w fun e w' => (∃ G, e = .returned (.tuple #[.slice (some ⟨G, 0, none⟩) (64 * n) (64 * n), .int .i64 0]) ∧ w.heap.size ≤ G ∧ FrIn w' G (64 * n) (sealF t body (64 * n))) ∧ Below w.heap.size w w' := by
  have key : ∀ m G (w' : World), m = 64 * n → w'.heap[G]? = some (.cells (bys (sealF t body m)).toArray 5 (0, 0)) → FrIn w' G (64 * n) (sealF t body (64 * n)) := fun m G w' e h => by
    subst e
    have hl : (sealF t body (64 * n)).length = 64 * n := sealF_len (by rcases hn with rfl | rfl <;> decide) (by rcases hn with rfl | rfl <;> simp [roomN] <;> omega)
    exact ⟨by omega, by unfold maxLen; omega, _, h, fun _ _ hu => hu⟩
  rcases hn with rfl | rfl
  · refine (seal1 t a cap body w hs ht (by omega)).mono ?_
    rintro e w' ⟨⟨G, rfl, h1, h2⟩, h3⟩
    exact ⟨⟨G, rfl, h1, key 64 G w' rfl h2⟩, h3⟩
  · refine (seal2 t a cap body w hs ht (by omega)).mono ?_
    rintro e w' ⟨⟨G, rfl, h1, h2⟩, h3⟩
    exact ⟨⟨G, rfl, h1, key 128 G w' rfl h2⟩, h3⟩
end Go.Proofs.YtejjneamngkmoaaDoor

namespace Go.Proofs.YtejjneamngkmoaaDoor
open Go.RowKit

section
variable {w : World} {q : Nat} {t : Tg} {T : TypeId}
theorem tg_c0 (h : w.heap[q]? = some (.cells #[Value.int .i64 t.rep, .int .i64 t.reg, .int .i64 t.pla, .int .i64 t.idx, .int .i64 t.inc] T (0, 0))) : w.cell? ⟨q, 0, none⟩ = some (.int .i64 t.rep) := blk_cell h 0 _ rfl
theorem tg_c1 (h : w.heap[q]? = some (.cells #[Value.int .i64 t.rep, .int .i64 t.reg, .int .i64 t.pla, .int .i64 t.idx, .int .i64 t.inc] T (0, 0))) : w.cell? ⟨q, 1, none⟩ = some (.int .i64 t.reg) := blk_cell h 1 _ rfl
theorem tg_c2 (h : w.heap[q]? = some (.cells #[Value.int .i64 t.rep, .int .i64 t.reg, .int .i64 t.pla, .int .i64 t.idx, .int .i64 t.inc] T (0, 0))) : w.cell? ⟨q, 2, none⟩ = some (.int .i64 t.pla) := blk_cell h 2 _ rfl
theorem tg_c3 (h : w.heap[q]? = some (.cells #[Value.int .i64 t.rep, .int .i64 t.reg, .int .i64 t.pla, .int .i64 t.idx, .int .i64 t.inc] T (0, 0))) : w.cell? ⟨q, 3, none⟩ = some (.int .i64 t.idx) := blk_cell h 3 _ rfl
theorem tg_c4 (h : w.heap[q]? = some (.cells #[Value.int .i64 t.rep, .int .i64 t.reg, .int .i64 t.pla, .int .i64 t.idx, .int .i64 t.inc] T (0, 0))) : w.cell? ⟨q, 4, none⟩ = some (.int .i64 t.inc) := blk_cell h 4 _ rfl
end
theorem pcD_len {b : List UInt8} {k : Nat} (h : 64 * k + 64 ≤ b.length) : (pcD b k).length = 64 := by unfold pcD; rw [List.length_take, List.length_drop]; omega
section
variable {B g gp : Nat} {wv : Value} {d : Dk} {w : World}
set_option maxRecDepth 100000 in
set_option maxHeartbeats 2000000 in
theorem lput_any (h : DiskB B g gp wv d w) (hb : B ≤ w.heap.size) (t : Tg) (ht : mayTg t = true) (a : Option Addr) (cap : Nat) (body : List UInt8) (hs : ∀ w', Kt B w w' → SlB w' a cap body) (hl : body.length ≤ 43) (hR : Ready d) (hw : d.waits.length ≤ 1000) {f : Nat} (hf : firstN t.reg t.pla = f) :
    Calls Tryd.prog 28 #[.pointer (some ⟨g, 0, none⟩), tgV t, .slice a body.length cap] w fun e w' => e = .returned (.bool true) ∧ Does B g gp w (flushD (putsD d f (sealF t body (64 * wideT t)) (wideT t))).1 w' := by
  have hbw := blw w (Obj.cells #[.int .i64 t.rep, .int .i64 t.reg, .int .i64 t.pla, .int .i64 t.idx, .int .i64 t.inc] 37)
  have D0 := h.below hbw
  have k0 := Kt.of hbw hb
  have B0 := heap_alloc_new w (Obj.cells #[.int .i64 t.rep, .int .i64 t.reg, .int .i64 t.pla, .int .i64 t.idx, .int .i64 t.inc] 37)
  have hs0 := hs _ k0
  have hB0 : B ≤ (w.alloc (Obj.cells #[.int .i64 t.rep, .int .i64 t.reg, .int .i64 t.pla, .int .i64 t.idx, .int .i64 t.inc] 37)).heap.size := Nat.le_trans hb k0.bl.size
  have HS : ∀ w' : World, Kt B w w' → SlB w' a cap body := hs
  obtain ⟨f', hf', hfn, _⟩ := place_of ht
  have hff : f' = f := by omega
  subst hff
  have hwi := fun w => lwide_any t w
  obtain ⟨_, w2, w3⟩ := wide_may ht
  obtain ⟨n, hn⟩ : ∃ n, wideT t = n := ⟨_, rfl⟩
  rw [hn] at hwi w2 w3 hfn ⊢
  have hlen : (sealF t body (64 * n)).length = 64 * n := sealF_len (by have := (room_wide w2 w3).1; omega) (by have := (room_wide w2 w3).2; omega)
  have hse := fun w' (hs' : SlB w' a cap body) => seal_n t a cap body n (by omega) w' hs' ht hl
  obtain ⟨b, hbb⟩ : ∃ b, sealF t body (64 * n) = b := ⟨_, rfl⟩
  rw [hbb] at hlen ⊢
  simp only [hbb] at hse
  have hph := put_held hR w2 w3 hfn hlen
  have hpr := (puts_ready hR (b := b) n w3 hfn (by omega)).2
  have hpw := fun k => (puts_pl d f' b k).2
  have HF := Lib.hid hf
  have HL := Lib.hid hlen
  have HPH := Lib.hid hph.1
  have HPR := Lib.hid hpr
  clear hf hf' hn hbb hlen hph hpr ht hR hs hbw h
  have hb2 := Lib.hid hb
  go_enter Tryd.func28, Tryd.ntmps28
  refine wp_seq_k (fun K hK => ?_)
  have HK := Lib.hid hK
  clear hK
  go_wp2
  refine HK.out _ _ ?_
  clear HK
  generalize w.alloc (Obj.cells #[.int .i64 t.rep, .int .i64 t.reg, .int .i64 t.pla, .int .i64 t.idx, .int .i64 t.inc] 37) = w0 at *
  generalize hqe : w.heap.size = q at *
  rw [← hqe] at hb
  have HQ := Lib.hid hqe
  clear hqe
  refine wp_seq_k (fun K hK => ?_)
  have HK := Lib.hid hK
  clear hK
  go_wp2_with fail
  have hbd := (Below.refl w0.heap.size w0).drew
  have D1 := D0.below hbd
  have k1 := k0.trans (Kt.of hbd hB0)
  have B1 := tr_bl hbd B0
  have s1 := hs0.below hbd
  have hB1 := Nat.le_trans hB0 hbd.size
  clear D0 k0 B0 hs0 hB0 hbd
  refine wp_region_held_drew (S := fun w' => w'.heap[q]? = some (.cells #[Value.int .i64 t.rep, .int .i64 t.reg, .int .i64 t.pla, .int .i64 t.idx, .int .i64 t.inc] 37 (0, 0))) (by kernel_rfl) B1 (fun hS0 => ?_)
  generalize w0.drew = x0 at *
  refine wpAnyH_take (i := 0) (oi := ⟨_, _, _, _, _, _⟩) (v := .agg (#[Value.int .i64 t.rep, .int .i64 t.reg, .int .i64 t.pla, .int .i64 t.idx, .int .i64 t.inc])) rfl (by kernel_rfl) (by kernel_rfl) (by kernel_rfl) (fun _ _ _ h => h) (Or.inl ⟨by rfl, fun wS hSw => ?_⟩) (by assumption) ?_
  · exact exec_ldB 37 _ ⟨_, _, _, _, _, Tryd.isAgg37, Tryd.sizeOf37, rfl, hSw, ld5 _ _ _ _ _⟩
  (try simp only [Act.put])
  (try simp only [List.setIfInBounds_toArray])
  (try simp only [List.set_cons_succ])
  (try simp only [List.set_cons_zero])
  refine wpAnyH_take (i := 1) (oi := ⟨_, _, _, _, _, _⟩) (v := ?_) rfl (by kernel_rfl) (by kernel_rfl) (by kernel_rfl) (fun _ _ _ h => h) (Or.inl ⟨by rfl, ?_⟩) (by assumption) ?_
  rotate_left
  · intro wS hSw
    go_simp; (try with_reducible rfl)
  (try simp only [Act.put])
  (try simp only [List.setIfInBounds_toArray])
  (try simp only [List.set_cons_succ])
  (try simp only [List.set_cons_zero])
  refine wpAnyH_take (i := 2) (oi := ⟨_, _, _, _, _, _⟩) (v := .agg (#[Value.int .i64 t.rep, .int .i64 t.reg, .int .i64 t.pla, .int .i64 t.idx, .int .i64 t.inc])) rfl (by kernel_rfl) (by kernel_rfl) (by kernel_rfl) (fun _ _ _ h => h) (Or.inl ⟨by rfl, fun wS hSw => ?_⟩) (by assumption) ?_
  · exact exec_ldB 37 _ ⟨_, _, _, _, _, Tryd.isAgg37, Tryd.sizeOf37, rfl, hSw, ld5 _ _ _ _ _⟩
  (try simp only [Act.put])
  (try simp only [List.setIfInBounds_toArray])
  (try simp only [List.set_cons_succ])
  (try simp only [List.set_cons_zero])
  refine wpAnyH_ready (rs := [3]) (by kernel_rfl) (by simp) ?_
  refine AllReadyH.cons (o := ⟨_, _, _, _, _, _⟩) rfl (fun K' hK' => ?_) AllReadyH.nil
  refine (if_pos (by rfl)).mpr ?_
  go_simp
  refine (hwi _).mono ?_
  rintro e w4 ⟨rfl, hb4⟩
  have D4 := D1.below hb4
  have k4 := k1.trans (Kt.of hb4 hB1)
  have B4 := tr_bl hb4 B1
  have s4 := s1.below hb4
  have hB4 := Nat.le_trans hB1 hb4.size
  refine hK'.out _ _ B4 (fun _ => ?_)
  clear hK' D1 k1 B1 s1 hB1 hb4 hS0
  (try simp only [Act.put])
  (try simp only [List.setIfInBounds_toArray])
  (try simp only [List.set_cons_succ])
  (try simp only [List.set_cons_zero])
  refine wpAnyH_ready (rs := [4]) (by kernel_rfl) (by simp) ?_
  refine AllReadyH.cons (o := ⟨_, _, _, _, _, _⟩) rfl (fun K' hK' => ?_) AllReadyH.nil
  refine (if_pos (by rfl)).mpr ?_
  go_simp
  refine (hse _ s4).mono ?_
  rintro e w5 ⟨⟨G, rfl, hG, F5⟩, hb5⟩
  have D5 := D4.below hb5
  have k5 := k4.trans (Kt.of hb5 hB4)
  have B5 := tr_bl hb5 B4
  have hB5 := Nat.le_trans hB4 hb5.size
  refine hK'.out _ _ B5 (fun _ => ?_)
  clear hK' D4 k4 B4 s4 hB4 hb5 hse hG
  (try simp only [Act.put])
  (try simp only [List.setIfInBounds_toArray])
  (try simp only [List.set_cons_succ])
  (try simp only [List.set_cons_zero])
  refine wpAnyH_take (i := 5) (oi := ⟨_, _, _, _, _, _⟩) (v := ?_) rfl (by kernel_rfl) (by kernel_rfl) (by kernel_rfl) (fun _ _ _ h => h) (Or.inl ⟨by rfl, ?_⟩) (by assumption) ?_
  rotate_left
  · intro wS hSw
    go_simp; (try with_reducible rfl)
  (try simp only [Act.put])
  (try simp only [List.setIfInBounds_toArray])
  (try simp only [List.set_cons_succ])
  (try simp only [List.set_cons_zero])
  refine wpAnyH_take (i := 6) (oi := ⟨_, _, _, _, _, _⟩) (v := ?_) rfl (by kernel_rfl) (by kernel_rfl) (by kernel_rfl) (fun _ _ _ h => h) (Or.inl ⟨by rfl, ?_⟩) (by assumption) ?_
  rotate_left
  · intro wS hSw
    go_simp; (try with_reducible rfl)
  (try simp only [Act.put])
  (try simp only [List.setIfInBounds_toArray])
  (try simp only [List.set_cons_succ])
  (try simp only [List.set_cons_zero])
  refine wpAnyH_take (i := 7) (oi := ⟨_, _, _, _, _, _⟩) (v := ?_) rfl (by kernel_rfl) (by kernel_rfl) (by kernel_rfl) (fun _ _ _ h => h) (Or.inl ⟨by rfl, ?_⟩) (by assumption) ?_
  rotate_left
  · intro wS hSw
    go_simp; (try with_reducible rfl)
  (try simp only [Act.put])
  (try simp only [List.setIfInBounds_toArray])
  (try simp only [List.set_cons_succ])
  (try simp only [List.set_cons_zero])
  refine wpAnyH_take (i := 8) (oi := ⟨_, _, _, _, _, _⟩) (v := ?_) rfl (by kernel_rfl) (by kernel_rfl) (by kernel_rfl) (fun _ _ _ h => h) (Or.inl ⟨by rfl, ?_⟩) (by assumption) ?_
  rotate_left
  · intro wS hSw
    go_simp; (try with_reducible rfl)
  (try simp only [Act.put])
  (try simp only [List.setIfInBounds_toArray])
  (try simp only [List.set_cons_succ])
  (try simp only [List.set_cons_zero])
  refine wpAnyH_take (i := 9) (oi := ⟨_, _, _, _, _, _⟩) (v := ?_) rfl (by kernel_rfl) (by kernel_rfl) (by kernel_rfl) (fun _ _ _ h => h) (Or.inl ⟨by rfl, ?_⟩) (by assumption) ?_
  rotate_left
  · intro wS hSw
    go_simp; (try with_reducible rfl)
  (try simp only [Act.put])
  (try simp only [List.setIfInBounds_toArray])
  (try simp only [List.set_cons_succ])
  (try simp only [List.set_cons_zero])
  refine wpAnyH_done (by kernel_rfl) ?_ _
  refine HK.out _ _ ?_
  clear HK
  have c0 := tg_c0 B5
  have c1 := tg_c1 B5
  have c2 := tg_c2 B5
  have c3 := tg_c3 B5
  have c4 := tg_c4 B5
  refine wp_seq_k (fun K hK => ?_)
  have HK := Lib.hid hK
  clear hK
  go_wp2_with (go_at_call 30; refine (hwi _).mono ?_; rintro e w6 ⟨rfl, hb6⟩; have D6 := D5.below hb6; have k6 := k5.trans (Kt.of hb6 hB5); have B6 := tr_bl hb6 B5; have hB6 := Nat.le_trans hB5 hb6.size; have F6 := F5.below hb6)
  refine HK.out _ _ ?_
  clear HK
  clear c0 c1 c2 c3 c4 D5 k5 B5 hB5 F5 hb6
  refine wp_seq_k (fun K hK => ?_)
  have HK := Lib.hid hK
  clear hK
  go_wp2_with fail
  go_loopw [9] (fun i wr => ∃ k : Nat, k ≤ n ∧ i = .int .i64 (k : Int) ∧ (∃ wv', DiskB B g gp wv' (putsD d f' b k) wr) ∧ Kt B w wr ∧ wr.heap[q]? = some (Obj.cells #[.int .i64 t.rep, .int .i64 t.reg, .int .i64 t.pla, .int .i64 t.idx, .int .i64 t.inc] 37) ∧ FrIn wr G (64 * n) b) (fun i _ => n - (intOf i).toNat)
  case atStart => exact ⟨0, by omega, rfl, ⟨_, D6⟩, k6, B6, F6⟩
  case round =>
    clear D6 k6 B6 F6 hB6
    obtain ⟨k, hkn, rfl, ⟨wv7, D7⟩, k7, B7, F7⟩ := hrel
    have hB7 := Nat.le_trans hb k7.bl.size
    have c0 := tg_c0 B7
    have c1 := tg_c1 B7
    have c2 := tg_c2 B7
    have c3 := tg_c3 B7
    have c4 := tg_c4 B7
    by_cases hlt : k < n
    case neg =>
      obtain rfl : k = n := by omega
      go_wp2_with (go_at_call 30; refine (hwi _).mono ?_; rintro e w8 ⟨rfl, hb8⟩; have D8 := D7.below hb8; have k8 := k7.trans (Kt.of hb8 hB7); have hB8 := Nat.le_trans hB7 hb8.size)
      refine HK.out _ _ ?_
      clear HK
      have hfl := flush_any D8 hB8
      rw [HPH.out] at hfl
      go_wp2_with (go_at_call 64; refine hfl.mono ?_; rintro e w9 ⟨rfl, D9, k9⟩)
      go_ret
      exact ⟨rfl, D9, k8.trans k9⟩
    case pos =>
      have hlI : (k : Int) < (n : Int) := by omega
      have W1 := Lib.hid (show IntKind.i64.wrap (64 * (k : Int)) = 64 * (k : Int) from IntWalk.i64_in _ (by omega))
      have W2 := Lib.hid (show IntKind.i64.wrap (64 * (k : Int) + 64) = 64 * (k : Int) + 64 from IntWalk.i64_in _ (by omega))
      have W3 := Lib.hid (show IntKind.i64.wrap ((f' : Int) + (k : Int)) = (f' : Int) + (k : Int) from IntWalk.i64_in _ (by omega))
      have T1 := Lib.hid (show (64 * (k : Int)).toNat = 64 * k by omega)
      have T2 := Lib.hid (show (64 * (k : Int) + 64).toNat = 64 * k + 64 by omega)
      refine wp_seq_k (fun K hK => ?_)
      have HK := Lib.hid hK
      clear hK
      go_wp2_with (go_at_call 30; refine (hwi _).mono ?_; rintro e w8 ⟨rfl, hb8⟩; have D8 := D7.below hb8; have k8 := k7.trans (Kt.of hb8 hB7); have hB8 := Nat.le_trans hB7 hb8.size; have B8 := tr_bl hb8 B7; have F8 := F7.below hb8)
      refine HK.out _ _ ?_
      clear HK
      clear D7 k7 B7 F7 hB7 c0 c1 c2 c3 c4 hb8
      refine wp_seq_k (fun K hK => ?_)
      have HK2 := Lib.hid hK
      clear hK
      refine wp_block ?_
      refine wp_seq_k (fun K hK => ?_)
      have HK3 := Lib.hid hK
      clear hK
      go_wp2_with fail
      have hbd := (Below.refl w8.heap.size w8).drew
      have D9 := D8.below hbd
      have k9 := k8.trans (Kt.of hbd hB8)
      have B9 := tr_bl hbd B8
      have F9 := F8.below hbd
      have hB9 := Nat.le_trans hB8 hbd.size
      clear D8 k8 B8 F8 hB8 hbd
      refine wp_region_held_drew (S := fun w' => w'.heap[q]? = some (.cells #[Value.int .i64 t.rep, .int .i64 t.reg, .int .i64 t.pla, .int .i64 t.idx, .int .i64 t.inc] 37 (0, 0))) (by kernel_rfl) B9 (fun hS0 => ?_)
      generalize w8.drew = x1 at *
      refine wpAnyH_take (i := 0) (oi := ⟨_, _, _, _, _, _⟩) (v := ?_) rfl (by kernel_rfl) (by kernel_rfl) (by kernel_rfl) (fun _ _ _ h => h) (Or.inl ⟨by rfl, ?_⟩) (by assumption) ?_
      rotate_left
      · intro wS hSw
        go_simp; (try with_reducible rfl)
      (try simp only [Act.put])
      (try simp only [List.setIfInBounds_toArray])
      (try simp only [List.set_cons_succ])
      (try simp only [List.set_cons_zero])
      refine wpAnyH_take (i := 1) (oi := ⟨_, _, _, _, _, _⟩) (v := ?_) rfl (by kernel_rfl) (by kernel_rfl) (by kernel_rfl) (fun _ _ _ h => h) (Or.inl ⟨by rfl, ?_⟩) (by assumption) ?_
      rotate_left
      · intro wS hSw
        go_simp; (try with_reducible rfl)
      (try simp only [Act.put])
      (try simp only [List.setIfInBounds_toArray])
      (try simp only [List.set_cons_succ])
      (try simp only [List.set_cons_zero])
      refine wpAnyH_take (i := 2) (oi := ⟨_, _, _, _, _, _⟩) (v := ?_) rfl (by kernel_rfl) (by kernel_rfl) (by kernel_rfl) (fun _ _ _ h => h) (Or.inl ⟨by rfl, ?_⟩) (by assumption) ?_
      rotate_left
      · intro wS hSw
        have c := tg_c1 hSw; go_simp; (try with_reducible rfl)
      (try simp only [Act.put])
      (try simp only [List.setIfInBounds_toArray])
      (try simp only [List.set_cons_succ])
      (try simp only [List.set_cons_zero])
      refine wpAnyH_take (i := 3) (oi := ⟨_, _, _, _, _, _⟩) (v := ?_) rfl (by kernel_rfl) (by kernel_rfl) (by kernel_rfl) (fun _ _ _ h => h) (Or.inl ⟨by rfl, ?_⟩) (by assumption) ?_
      rotate_left
      · intro wS hSw
        go_simp; (try with_reducible rfl)
      (try simp only [Act.put])
      (try simp only [List.setIfInBounds_toArray])
      (try simp only [List.set_cons_succ])
      (try simp only [List.set_cons_zero])
      refine wpAnyH_take (i := 4) (oi := ⟨_, _, _, _, _, _⟩) (v := ?_) rfl (by kernel_rfl) (by kernel_rfl) (by kernel_rfl) (fun _ _ _ h => h) (Or.inl ⟨by rfl, ?_⟩) (by assumption) ?_
      rotate_left
      · intro wS hSw
        have c := tg_c2 hSw; go_simp; (try with_reducible rfl)
      (try simp only [Act.put])
      (try simp only [List.setIfInBounds_toArray])
      (try simp only [List.set_cons_succ])
      (try simp only [List.set_cons_zero])
      refine wpAnyH_take (i := 6) (oi := ⟨_, _, _, _, _, _⟩) (v := ?_) rfl (by kernel_rfl) (by kernel_rfl) (by kernel_rfl) (fun _ _ _ h => h) (Or.inl ⟨by rfl, ?_⟩) (by assumption) ?_
      rotate_left
      · intro wS hSw
        go_simp; (try with_reducible rfl)
      (try simp only [Act.put])
      (try simp only [List.setIfInBounds_toArray])
      (try simp only [List.set_cons_succ])
      (try simp only [List.set_cons_zero])
      refine wpAnyH_take (i := 8) (oi := ⟨_, _, _, _, _, _⟩) (v := ?_) rfl (by kernel_rfl) (by kernel_rfl) (by kernel_rfl) (fun _ _ _ h => h) (Or.inl ⟨by rfl, ?_⟩) (by assumption) ?_
      rotate_left
      · intro wS hSw
        go_simp; (try with_reducible rfl)
      (try simp only [Act.put])
      (try simp only [List.setIfInBounds_toArray])
      (try simp only [List.set_cons_succ])
      (try simp only [List.set_cons_zero])
      refine wpAnyH_take (i := 9) (oi := ⟨_, _, _, _, _, _⟩) (v := ?_) rfl (by kernel_rfl) (by kernel_rfl) (by kernel_rfl) (fun _ _ _ h => h) (Or.inl ⟨by rfl, ?_⟩) (by assumption) ?_
      rotate_left
      · intro wS hSw
        go_simp; (try with_reducible rfl)
      (try simp only [Act.put])
      (try simp only [List.setIfInBounds_toArray])
      (try simp only [List.set_cons_succ])
      (try simp only [List.set_cons_zero])
      refine wpAnyH_take (i := 10) (oi := ⟨_, _, _, _, _, _⟩) (v := .int .i64 (64 * (k : Int))) rfl (by kernel_rfl) (by kernel_rfl) (by kernel_rfl) (fun _ _ _ h => h) (Or.inl ⟨by rfl, fun wS hSw => ?_⟩) (by assumption) ?_
      · go_simp; rw [W1.out]
      (try simp only [Act.put])
      (try simp only [List.setIfInBounds_toArray])
      (try simp only [List.set_cons_succ])
      (try simp only [List.set_cons_zero])
      refine wpAnyH_take (i := 11) (oi := ⟨_, _, _, _, _, _⟩) (v := ?_) rfl (by kernel_rfl) (by kernel_rfl) (by kernel_rfl) (fun _ _ _ h => h) (Or.inl ⟨by rfl, ?_⟩) (by assumption) ?_
      rotate_left
      · intro wS hSw
        go_simp; (try with_reducible rfl)
      (try simp only [Act.put])
      (try simp only [List.setIfInBounds_toArray])
      (try simp only [List.set_cons_succ])
      (try simp only [List.set_cons_zero])
      refine wpAnyH_take (i := 12) (oi := ⟨_, _, _, _, _, _⟩) (v := .int .i64 (64 * (k : Int))) rfl (by kernel_rfl) (by kernel_rfl) (by kernel_rfl) (fun _ _ _ h => h) (Or.inl ⟨by rfl, fun wS hSw => ?_⟩) (by assumption) ?_
      · go_simp; rw [W1.out]
      (try simp only [Act.put])
      (try simp only [List.setIfInBounds_toArray])
      (try simp only [List.set_cons_succ])
      (try simp only [List.set_cons_zero])
      refine wpAnyH_take (i := 13) (oi := ⟨_, _, _, _, _, _⟩) (v := .int .i64 (64 * (k : Int) + 64)) rfl (by kernel_rfl) (by kernel_rfl) (by kernel_rfl) (fun _ _ _ h => h) (Or.inl ⟨by rfl, fun wS hSw => ?_⟩) (by assumption) ?_
      · go_simp; rw [W2.out]
      (try simp only [Act.put])
      (try simp only [List.setIfInBounds_toArray])
      (try simp only [List.set_cons_succ])
      (try simp only [List.set_cons_zero])
      refine wpAnyH_take (i := 14) (oi := ⟨_, _, _, _, _, _⟩) (v := .slice (some ⟨G, 64 * k, none⟩) 64 (64 * n - 64 * k)) rfl (by kernel_rfl) (by kernel_rfl) (by kernel_rfl) (fun _ _ _ h => h) (Or.inl ⟨by rfl, fun wS hSw => ?_⟩) (by assumption) ?_
      · go_simp; rw [if_pos ⟨by omega, by omega⟩, if_pos ⟨by omega, by omega⟩, T1.out, T2.out, if_neg (by omega), show 64 * k + 64 - 64 * k = 64 by omega]
      (try simp only [Act.put])
      (try simp only [List.setIfInBounds_toArray])
      (try simp only [List.set_cons_succ])
      (try simp only [List.set_cons_zero])
      refine wpAnyH_ready (rs := [5]) (by kernel_rfl) (by simp) ?_
      refine AllReadyH.cons (o := ⟨_, _, _, _, _, _⟩) rfl (fun K' hK' => ?_) AllReadyH.nil
      refine (if_pos (by rfl)).mpr ?_
      go_simp
      refine (first_any t.reg t.pla _).mono ?_
      rintro e w10 ⟨rfl, hb10⟩
      rw [HF.out]
      have D10 := D9.below hb10
      have k10 := k9.trans (Kt.of hb10 hB9)
      have B10 := tr_bl hb10 B9
      have F10 := F9.below hb10
      have hB10 := Nat.le_trans hB9 hb10.size
      refine hK'.out _ _ B10 (fun _ => ?_)
      clear hK' D9 k9 B9 F9 hB9 hb10 hS0
      (try simp only [Act.put])
      (try simp only [List.setIfInBounds_toArray])
      (try simp only [List.set_cons_succ])
      (try simp only [List.set_cons_zero])
      refine wpAnyH_take (i := 7) (oi := ⟨_, _, _, _, _, _⟩) (v := .int .i64 ((f' : Int) + (k : Int))) rfl (by kernel_rfl) (by kernel_rfl) (by kernel_rfl) (fun _ _ _ h => h) (Or.inl ⟨by rfl, fun wS hSw => ?_⟩) (by assumption) ?_
      · go_simp; rw [W3.out]
      (try simp only [Act.put])
      (try simp only [List.setIfInBounds_toArray])
      (try simp only [List.set_cons_succ])
      (try simp only [List.set_cons_zero])
      refine wpAnyH_ready (rs := [15]) (by kernel_rfl) (by simp) ?_
      refine AllReadyH.cons (o := ⟨_, _, _, _, _, _⟩) rfl (fun K' hK' => ?_) AllReadyH.nil
      refine (if_pos (by rfl)).mpr ?_
      go_simp
      have hwr := write_any D10 hB10 ((f' : Int) + (k : Int)) (some ⟨G, 64 * k, none⟩) (64 * n - 64 * k) (pcD b k) (fun w' hk => (F10.kt hk).piece (by have := HL.out; omega)) (by have := hpw k; omega)
      rw [pcD_len (by have := HL.out; omega), HPR.out k hlt] at hwr
      refine hwr.mono ?_
      rintro e w11 ⟨rfl, ⟨wv11, D11⟩, hk11⟩
      have B11 := hk11.ty _ _ _ B10 (by decide) (by decide) (by decide)
      have F11 := F10.kt hk11
      have k11 := k10.trans hk11
      refine hK'.out _ _ B11 (fun _ => ?_)
      clear hK' hwr D10 k10 B10 F10 hB10 hk11
      (try simp only [Act.put])
      (try simp only [List.setIfInBounds_toArray])
      (try simp only [List.set_cons_succ])
      (try simp only [List.set_cons_zero])
      refine wpAnyH_take (i := 16) (oi := ⟨_, _, _, _, _, _⟩) (v := ?_) rfl (by kernel_rfl) (by kernel_rfl) (by kernel_rfl) (fun _ _ _ h => h) (Or.inl ⟨by rfl, ?_⟩) (by assumption) ?_
      rotate_left
      · intro wS hSw
        go_simp; (try with_reducible rfl)
      (try simp only [Act.put])
      (try simp only [List.setIfInBounds_toArray])
      (try simp only [List.set_cons_succ])
      (try simp only [List.set_cons_zero])
      refine wpAnyH_done (by kernel_rfl) ?_ _
      refine HK3.out _ _ ?_
      clear HK3
      go_wp2
      (try simp only [Exit.inBlock, Exit.then])
      refine HK2.out _ _ ?_
      clear HK2
      go_wp2
      go_roundw
      case rel => exact ⟨k + 1, by omega, by go_num, ⟨_, D11⟩, k11, B11, F11⟩
      case measure => simp [intOf]; omega
end
end Go.Proofs.YtejjneamngkmoaaDoor

namespace Go.Proofs.YtejjneamngkmoaaDoor
open Go.RowKit

theorem a6_tg (x : A6) : 1 + 5 ≤ (a6A x).size ∧ (a6A x).extract 1 (1 + 5) = #[Value.int .i64 x.tg.rep, .int .i64 x.tg.reg, .int .i64 x.tg.pla, .int .i64 x.tg.idx, .int .i64 x.tg.inc] := ⟨by show 6 ≤ 12; decide, by simp [a6A, a6L]⟩
theorem a6_dk (x : A6) : 7 + 5 ≤ (a6A x).size ∧ (a6A x).extract 7 (7 + 5) = a5A x.dk := ⟨by show 12 ≤ 12; decide, by simp [a6A, a6L, a5A, a5L]⟩
section
variable {w : World} {q : Nat} {x : A6} {T : TypeId}
theorem a6_c0 (h : w.heap[q]? = some (.cells (a6A x) T (0, 0))) : w.cell? ⟨q, 0, none⟩ = some (.bool x.sl) := blk_cell h 0 _ rfl
theorem a6_c2 (h : w.heap[q]? = some (.cells (a6A x) T (0, 0))) : w.cell? ⟨q, 2, none⟩ = some (.int .i64 x.tg.reg) := blk_cell h 2 _ rfl
theorem a6_c3 (h : w.heap[q]? = some (.cells (a6A x) T (0, 0))) : w.cell? ⟨q, 3, none⟩ = some (.int .i64 x.tg.pla) := blk_cell h 3 _ rfl
theorem a6_c6 (h : w.heap[q]? = some (.cells (a6A x) T (0, 0))) : w.cell? ⟨q, 6, none⟩ = some (.slice x.oa x.body.length x.oc) := blk_cell h 6 _ rfl
end
section
variable {B g gp : Nat} {wv : Value} {d : Dk} {w : World}
set_option maxRecDepth 100000 in
set_option maxHeartbeats 2000000 in
theorem ldo_no (h : DiskB B g gp wv d w) (hb : B ≤ w.heap.size) (x : A6) (hx : x.sl = false) (hi : ∀ w', Kt B w w' → A6in w' x) (hl : x.dk.bytes.length ≤ 200) (hw : d.waits.length ≤ 1000) :
    Calls Tryd.prog 21 #[.pointer (some ⟨g, 0, none⟩), a6V x] w fun e w' => (∃ v, e = .returned v) ∧ Does B g gp w (do6 d x) w' := by
  have hbw := blw w (Obj.cells (a6A x) 51)
  have D0 := h.below hbw
  have k0 := Kt.of hbw hb
  have B0 := heap_alloc_new w (Obj.cells (a6A x) 51)
  have hB0 : B ≤ (w.alloc (Obj.cells (a6A x) 51)).heap.size := Nat.le_trans hb k0.bl.size
  have h5 := do5_any D0 hB0 x.dk (fun w' hk => (hi w' (k0.trans hk)).d) (hi _ k0).k (hi _ k0).n hl (by omega)
  have c0 := a6_c0 B0
  rw [hx] at c0
  unfold do6
  rw [if_pos hx]
  unfold a6V
  clear hbw h hi hx
  go_enter Tryd.func21, Tryd.ntmps21
  refine wp_seq_k (fun K hK => ?_)
  have HK := Lib.hid hK
  clear hK
  go_wp2
  refine HK.out _ _ ?_
  clear HK
  generalize w.alloc (Obj.cells (a6A x) 51) = w0 at *
  go_wp2_with (first
    | ((with_reducible refine wpList_ldB 49 _ ?_); refine ⟨rfl, _, ⟨_, _, _, _, _, Tryd.isAgg49, Tryd.sizeOf49, rfl, ‹_›, a6_dk x⟩, ?_⟩)
    | (go_at_call 57; refine h5.mono ?_; rintro e w1 ⟨rfl, D1, k1⟩))
  refine bodyPost_ret (results_none rfl _ _ _) rfl ?_
  exact ⟨⟨_, rfl⟩, D1, k0.trans k1⟩
set_option maxRecDepth 100000 in
set_option maxHeartbeats 2000000 in
theorem ldo_yes (h : DiskB B g gp wv d w) (hb : B ≤ w.heap.size) (x : A6) (hx : x.sl = true) (hi : ∀ w', Kt B w w' → A6in w' x) (hl : x.body.length ≤ 1000) (hw : d.waits.length ≤ 1000) :
    Calls Tryd.prog 21 #[.pointer (some ⟨g, 0, none⟩), a6V x] w fun e w' => (∃ v, e = .returned v) ∧ Does B g gp w (do6 d x) w' := by
  have hbw := blw w (Obj.cells (a6A x) 51)
  have D0 := h.below hbw
  have k0 := Kt.of hbw hb
  have B0 := heap_alloc_new w (Obj.cells (a6A x) 51)
  have hB0 : B ≤ (w.alloc (Obj.cells (a6A x) 51)).heap.size := Nat.le_trans hb k0.bl.size
  have I0 := hi _ k0
  have c0 := a6_c0 B0
  rw [hx] at c0
  unfold do6
  rw [if_neg (by rw [hx]; decide)]
  have hwi := fun w => lwide_any x.tg w
  have hwt := wideT_le x.tg
  have hse := fun w' (hs' : SlB w' x.oa x.oc x.body) => rseal_any x.tg x.oa x.oc x.body (wideT x.tg) w' hs' hl (by omega)
  have hcs := sealR_len x.tg x.body (wideT x.tg)
  have hff : sealE x.tg x.body (wideT x.tg) = 0 → ∃ f : Nat, firstN x.tg.reg x.tg.pla = f ∧ f + wideT x.tg ≤ 156 := fun he => by
    cases hm : mayTg x.tg
    · unfold sealE at he
      rw [if_pos (.inl hm)] at he
      cases he
    · obtain ⟨f, h1, h2, _⟩ := place_of hm
      exact ⟨f, h1, h2⟩
  generalize wideT x.tg = n at *
  generalize sealR x.tg x.body n = b at *
  generalize sealE x.tg x.body n = se at *
  generalize hfi : firstN x.tg.reg x.tg.pla = fi at *
  have HF := Lib.hid hfi
  have HCS := Lib.hid hcs
  have HFF := Lib.hid hff
  have hpw := fun k => (puts_pl d fi b k).2
  clear hfi hcs hff hbw h hi hx
  unfold a6V
  go_enter Tryd.func21, Tryd.ntmps21
  refine wp_seq_k (fun K hK => ?_)
  have HK := Lib.hid hK
  clear hK
  go_wp2
  refine HK.out _ _ ?_
  clear HK
  generalize w.alloc (Obj.cells (a6A x) 51) = w0 at *
  obtain ⟨q, hq⟩ : ∃ q, w.heap.size = q := ⟨_, rfl⟩
  have hbq : B ≤ q := by omega
  rw [hq] at B0 c0 ⊢
  clear hq
  refine wp_seq_k (fun K hK => ?_)
  have HK := Lib.hid hK
  clear hK
  go_wp2
  refine HK.out _ _ ?_
  clear HK
  clear c0
  refine wp_seq_k (fun K hK => ?_)
  have HK := Lib.hid hK
  clear hK
  go_wp2_with fail
  have hbd := (Below.refl w0.heap.size w0).drew
  have D1 := D0.below hbd
  have k1 := k0.trans (Kt.of hbd hB0)
  have B1 := tr_bl hbd B0
  have s1 := I0.b.below hbd
  have hB1 := Nat.le_trans hB0 hbd.size
  clear D0 k0 B0 I0 hB0 hbd
  refine wp_region_held_drew (S := fun w' => w'.heap[q]? = some (.cells (a6A x) 51 (0, 0))) (by kernel_rfl) B1 (fun hS0 => ?_)
  generalize w0.drew = x0 at *
  refine wpAnyH_take (i := 0) (oi := ⟨_, _, _, _, _, _⟩) (v := ?_) rfl (by kernel_rfl) (by kernel_rfl) (by kernel_rfl) (fun _ _ _ h => h) (Or.inl ⟨by rfl, ?_⟩) (by assumption) ?_
  rotate_left
  · intro wS hSw
    go_simp; (try with_reducible rfl)
  (try simp only [Act.put])
  (try simp only [List.setIfInBounds_toArray])
  (try simp only [List.set_cons_succ])
  (try simp only [List.set_cons_zero])
  refine wpAnyH_take (i := 1) (oi := ⟨_, _, _, _, _, _⟩) (v := .agg (#[Value.int .i64 x.tg.rep, .int .i64 x.tg.reg, .int .i64 x.tg.pla, .int .i64 x.tg.idx, .int .i64 x.tg.inc])) rfl (by kernel_rfl) (by kernel_rfl) (by kernel_rfl) (fun _ _ _ h => h) (Or.inl ⟨by rfl, fun wS hSw => ?_⟩) (by assumption) ?_
  · exact exec_ldB 37 _ ⟨_, _, _, _, _, Tryd.isAgg37, Tryd.sizeOf37, rfl, hSw, a6_tg x⟩
  (try simp only [Act.put])
  (try simp only [List.setIfInBounds_toArray])
  (try simp only [List.set_cons_succ])
  (try simp only [List.set_cons_zero])
  refine wpAnyH_take (i := 2) (oi := ⟨_, _, _, _, _, _⟩) (v := ?_) rfl (by kernel_rfl) (by kernel_rfl) (by kernel_rfl) (fun _ _ _ h => h) (Or.inl ⟨by rfl, ?_⟩) (by assumption) ?_
  rotate_left
  · intro wS hSw
    go_simp; (try with_reducible rfl)
  (try simp only [Act.put])
  (try simp only [List.setIfInBounds_toArray])
  (try simp only [List.set_cons_succ])
  (try simp only [List.set_cons_zero])
  refine wpAnyH_take (i := 3) (oi := ⟨_, _, _, _, _, _⟩) (v := ?_) rfl (by kernel_rfl) (by kernel_rfl) (by kernel_rfl) (fun _ _ _ h => h) (Or.inl ⟨by rfl, ?_⟩) (by assumption) ?_
  rotate_left
  · intro wS hSw
    have c := a6_c6 hSw; go_simp; (try with_reducible rfl)
  (try simp only [Act.put])
  (try simp only [List.setIfInBounds_toArray])
  (try simp only [List.set_cons_succ])
  (try simp only [List.set_cons_zero])
  refine wpAnyH_take (i := 4) (oi := ⟨_, _, _, _, _, _⟩) (v := ?_) rfl (by kernel_rfl) (by kernel_rfl) (by kernel_rfl) (fun _ _ _ h => h) (Or.inl ⟨by rfl, ?_⟩) (by assumption) ?_
  rotate_left
  · intro wS hSw
    go_simp; (try with_reducible rfl)
  (try simp only [Act.put])
  (try simp only [List.setIfInBounds_toArray])
  (try simp only [List.set_cons_succ])
  (try simp only [List.set_cons_zero])
  refine wpAnyH_take (i := 5) (oi := ⟨_, _, _, _, _, _⟩) (v := .agg (#[Value.int .i64 x.tg.rep, .int .i64 x.tg.reg, .int .i64 x.tg.pla, .int .i64 x.tg.idx, .int .i64 x.tg.inc])) rfl (by kernel_rfl) (by kernel_rfl) (by kernel_rfl) (fun _ _ _ h => h) (Or.inl ⟨by rfl, fun wS hSw => ?_⟩) (by assumption) ?_
  · exact exec_ldB 37 _ ⟨_, _, _, _, _, Tryd.isAgg37, Tryd.sizeOf37, rfl, hSw, a6_tg x⟩
  (try simp only [Act.put])
  (try simp only [List.setIfInBounds_toArray])
  (try simp only [List.set_cons_succ])
  (try simp only [List.set_cons_zero])
  refine wpAnyH_ready (rs := [6]) (by kernel_rfl) (by simp) ?_
  refine AllReadyH.cons (o := ⟨_, _, _, _, _, _⟩) rfl (fun K' hK' => ?_) AllReadyH.nil
  refine (if_pos (by rfl)).mpr ?_
  go_simp
  refine (hwi _).mono ?_
  rintro e w4 ⟨rfl, hb4⟩
  have D4 := D1.below hb4
  have k4 := k1.trans (Kt.of hb4 hB1)
  have B4 := tr_bl hb4 B1
  have s4 := s1.below hb4
  have hB4 := Nat.le_trans hB1 hb4.size
  refine hK'.out _ _ B4 (fun _ => ?_)
  clear hK' D1 k1 B1 s1 hB1 hb4 hS0
  (try simp only [Act.put])
  (try simp only [List.setIfInBounds_toArray])
  (try simp only [List.set_cons_succ])
  (try simp only [List.set_cons_zero])
  refine wpAnyH_ready (rs := [7]) (by kernel_rfl) (by simp) ?_
  refine AllReadyH.cons (o := ⟨_, _, _, _, _, _⟩) rfl (fun K' hK' => ?_) AllReadyH.nil
  refine (if_pos (by rfl)).mpr ?_
  go_simp
  refine (hse _ s4).mono ?_
  rintro e w5 ⟨⟨v5, rfl, o5⟩, hb5⟩
  have D5 := D4.below hb5
  have k5 := k4.trans (Kt.of hb5 hB4)
  have B5 := tr_bl hb5 B4
  have hB5 := Nat.le_trans hB4 hb5.size
  refine hK'.out _ _ B5 (fun _ => ?_)
  clear hK' D4 k4 B4 s4 hB4 hb5 hse hwi
  (try simp only [Act.put])
  (try simp only [List.setIfInBounds_toArray])
  (try simp only [List.set_cons_succ])
  (try simp only [List.set_cons_zero])
  refine wpAnyH_take (i := 8) (oi := ⟨_, _, _, _, _, _⟩) (v := ?_) rfl (by kernel_rfl) (by kernel_rfl) (by kernel_rfl) (fun _ _ _ h => h) (Or.inl ⟨by rfl, ?_⟩) (by assumption) ?_
  rotate_left
  · intro wS hSw
    go_simp; (try with_reducible rfl)
  (try simp only [Act.put])
  (try simp only [List.setIfInBounds_toArray])
  (try simp only [List.set_cons_succ])
  (try simp only [List.set_cons_zero])
  refine wpAnyH_take (i := 9) (oi := ⟨_, _, _, _, _, _⟩) (v := ?_) rfl (by kernel_rfl) (by kernel_rfl) (by kernel_rfl) (fun _ _ _ h => h) (Or.inl ⟨by rfl, ?_⟩) (by assumption) ?_
  rotate_left
  · intro wS hSw
    go_simp; (try with_reducible rfl)
  (try simp only [Act.put])
  (try simp only [List.setIfInBounds_toArray])
  (try simp only [List.set_cons_succ])
  (try simp only [List.set_cons_zero])
  refine wpAnyH_take (i := 10) (oi := ⟨_, _, _, _, _, _⟩) (v := ?_) rfl (by kernel_rfl) (by kernel_rfl) (by kernel_rfl) (fun _ _ _ h => h) (Or.inl ⟨by rfl, ?_⟩) (by assumption) ?_
  rotate_left
  · intro wS hSw
    go_simp; (try with_reducible rfl)
  (try simp only [Act.put])
  (try simp only [List.setIfInBounds_toArray])
  (try simp only [List.set_cons_succ])
  (try simp only [List.set_cons_zero])
  refine wpAnyH_take (i := 11) (oi := ⟨_, _, _, _, _, _⟩) (v := ?_) rfl (by kernel_rfl) (by kernel_rfl) (by kernel_rfl) (fun _ _ _ h => h) (Or.inl ⟨by rfl, ?_⟩) (by assumption) ?_
  rotate_left
  · intro wS hSw
    go_simp; (try with_reducible rfl)
  (try simp only [Act.put])
  (try simp only [List.setIfInBounds_toArray])
  (try simp only [List.set_cons_succ])
  (try simp only [List.set_cons_zero])
  refine wpAnyH_take (i := 12) (oi := ⟨_, _, _, _, _, _⟩) (v := ?_) rfl (by kernel_rfl) (by kernel_rfl) (by kernel_rfl) (fun _ _ _ h => h) (Or.inl ⟨by rfl, ?_⟩) (by assumption) ?_
  rotate_left
  · intro wS hSw
    go_simp; (try with_reducible rfl)
  (try simp only [Act.put])
  (try simp only [List.setIfInBounds_toArray])
  (try simp only [List.set_cons_succ])
  (try simp only [List.set_cons_zero])
  refine wpAnyH_done (by kernel_rfl) ?_ _
  refine HK.out _ _ ?_
  clear HK
  refine wp_seq_k (fun K hK => ?_)
  have HK := Lib.hid hK
  clear hK
  go_wp2
  refine HK.out _ _ ?_
  clear HK
  rcases HCS.out with ⟨hlb, hn12, rfl⟩ | ⟨hlb, hne⟩
  case inr =>
    have hsn : (se == 0) = false := by rw [beq_eq_false_iff_ne]; exact hne
    rw [hlb]
    clear hne HCS HFF hlb
    go_wp2_with fail
    go_loopw [6] (fun i wr => i = .int .i64 0 ∧ wr = w5) (fun _ _ => 0)
    case atStart => exact ⟨rfl, rfl⟩
    case round =>
      obtain ⟨rfl, rfl⟩ := hrel
      go_wp2
      go_end0
      exact ⟨⟨_, rfl⟩, ⟨_, D5⟩, k5⟩
  case inl =>
    obtain ⟨f, hf, hfn⟩ := HFF.out rfl
    subst hf
    obtain ⟨G, C, rfl, hG, F5⟩ := FrIn.of_owns o5 (by omega)
    rw [show b.length / 64 = n by omega]
    have q1 : (b.length : Int) / 64 = (n : Int) := by omega
    have q2 : (b.length : Int).tdiv 64 = (n : Int) := by rw [Int.tdiv_eq_ediv_of_nonneg (by omega)]; exact q1
    have hC := F5.1
    have HL := Lib.hid hlb
    have hCm := F5.2.1
    unfold maxLen at hCm
    clear HCS HFF o5 hG hlb
    go_wp2_with fail
    go_loopw [6] (fun i wr => ∃ k : Nat, k ≤ n ∧ i = .int .i64 (k : Int) ∧ (∃ wv', DiskB B g gp wv' (putsD d f b k) wr) ∧ Kt B w wr ∧ wr.heap[q]? = some (Obj.cells (a6A x) 51) ∧ FrIn wr G C b) (fun i _ => n - (intOf i).toNat)
    case atStart => exact ⟨0, by omega, rfl, ⟨_, D5⟩, k5, B5, F5⟩
    case round =>
      clear D5 k5 B5 F5 hB5
      obtain ⟨k, hkn, rfl, ⟨wv7, D7⟩, k7, B7, F7⟩ := hrel
      have hB7 := Nat.le_trans hb k7.bl.size
      by_cases hlt : k < n
      case neg =>
        obtain rfl : k = n := by omega
        go_wp2
        go_end0
        exact ⟨⟨_, rfl⟩, ⟨_, D7⟩, k7⟩
      case pos =>
        have hlI : (k : Int) < (n : Int) := by omega
        have W1 := Lib.hid (show IntKind.i64.wrap (64 * (k : Int)) = 64 * (k : Int) from IntWalk.i64_in _ (by omega))
        have W2 := Lib.hid (show IntKind.i64.wrap (64 * (k : Int) + 64) = 64 * (k : Int) + 64 from IntWalk.i64_in _ (by omega))
        have W3 := Lib.hid (show IntKind.i64.wrap ((f : Int) + (k : Int)) = (f : Int) + (k : Int) from IntWalk.i64_in _ (by omega))
        have T1 := Lib.hid (show (64 * (k : Int)).toNat = 64 * k by omega)
        have T2 := Lib.hid (show (64 * (k : Int) + 64).toNat = 64 * k + 64 by omega)
        refine wp_seq_k (fun K hK => ?_)
        have HK := Lib.hid hK
        clear hK
        go_wp2
        refine HK.out _ _ ?_
        clear HK
        refine wp_seq_k (fun K hK => ?_)
        have HK2 := Lib.hid hK
        clear hK
        refine wp_block ?_
        go_wp2_with fail
        have hbd := (Below.refl wr.heap.size wr).drew
        have D9 := D7.below hbd
        have k9 := k7.trans (Kt.of hbd hB7)
        have B9 := tr_bl hbd B7
        have F9 := F7.below hbd
        have hB9 := Nat.le_trans hB7 hbd.size
        clear D7 k7 B7 F7 hB7 hbd
        refine wp_region_held_drew (S := fun w' => w'.heap[q]? = some (.cells (a6A x) 51 (0, 0))) (by kernel_rfl) B9 (fun hS0 => ?_)
        generalize wr.drew = x1 at *
        refine wpAnyH_take (i := 0) (oi := ⟨_, _, _, _, _, _⟩) (v := ?_) rfl (by kernel_rfl) (by kernel_rfl) (by kernel_rfl) (fun _ _ _ h => h) (Or.inl ⟨by rfl, ?_⟩) (by assumption) ?_
        rotate_left
        · intro wS hSw
          go_simp; (try with_reducible rfl)
        (try simp only [Act.put])
        (try simp only [List.setIfInBounds_toArray])
        (try simp only [List.set_cons_succ])
        (try simp only [List.set_cons_zero])
        refine wpAnyH_take (i := 1) (oi := ⟨_, _, _, _, _, _⟩) (v := ?_) rfl (by kernel_rfl) (by kernel_rfl) (by kernel_rfl) (fun _ _ _ h => h) (Or.inl ⟨by rfl, ?_⟩) (by assumption) ?_
        rotate_left
        · intro wS hSw
          go_simp; (try with_reducible rfl)
        (try simp only [Act.put])
        (try simp only [List.setIfInBounds_toArray])
        (try simp only [List.set_cons_succ])
        (try simp only [List.set_cons_zero])
        refine wpAnyH_take (i := 2) (oi := ⟨_, _, _, _, _, _⟩) (v := ?_) rfl (by kernel_rfl) (by kernel_rfl) (by kernel_rfl) (fun _ _ _ h => h) (Or.inl ⟨by rfl, ?_⟩) (by assumption) ?_
        rotate_left
        · intro wS hSw
          go_simp; (try with_reducible rfl)
        (try simp only [Act.put])
        (try simp only [List.setIfInBounds_toArray])
        (try simp only [List.set_cons_succ])
        (try simp only [List.set_cons_zero])
        refine wpAnyH_take (i := 3) (oi := ⟨_, _, _, _, _, _⟩) (v := ?_) rfl (by kernel_rfl) (by kernel_rfl) (by kernel_rfl) (fun _ _ _ h => h) (Or.inl ⟨by rfl, ?_⟩) (by assumption) ?_
        rotate_left
        · intro wS hSw
          have c := a6_c2 hSw; go_simp; (try with_reducible rfl)
        (try simp only [Act.put])
        (try simp only [List.setIfInBounds_toArray])
        (try simp only [List.set_cons_succ])
        (try simp only [List.set_cons_zero])
        refine wpAnyH_take (i := 4) (oi := ⟨_, _, _, _, _, _⟩) (v := ?_) rfl (by kernel_rfl) (by kernel_rfl) (by kernel_rfl) (fun _ _ _ h => h) (Or.inl ⟨by rfl, ?_⟩) (by assumption) ?_
        rotate_left
        · intro wS hSw
          go_simp; (try with_reducible rfl)
        (try simp only [Act.put])
        (try simp only [List.setIfInBounds_toArray])
        (try simp only [List.set_cons_succ])
        (try simp only [List.set_cons_zero])
        refine wpAnyH_take (i := 5) (oi := ⟨_, _, _, _, _, _⟩) (v := ?_) rfl (by kernel_rfl) (by kernel_rfl) (by kernel_rfl) (fun _ _ _ h => h) (Or.inl ⟨by rfl, ?_⟩) (by assumption) ?_
        rotate_left
        · intro wS hSw
          go_simp; (try with_reducible rfl)
        (try simp only [Act.put])
        (try simp only [List.setIfInBounds_toArray])
        (try simp only [List.set_cons_succ])
        (try simp only [List.set_cons_zero])
        refine wpAnyH_take (i := 6) (oi := ⟨_, _, _, _, _, _⟩) (v := ?_) rfl (by kernel_rfl) (by kernel_rfl) (by kernel_rfl) (fun _ _ _ h => h) (Or.inl ⟨by rfl, ?_⟩) (by assumption) ?_
        rotate_left
        · intro wS hSw
          have c := a6_c3 hSw; go_simp; (try with_reducible rfl)
        (try simp only [Act.put])
        (try simp only [List.setIfInBounds_toArray])
        (try simp only [List.set_cons_succ])
        (try simp only [List.set_cons_zero])
        refine wpAnyH_take (i := 8) (oi := ⟨_, _, _, _, _, _⟩) (v := ?_) rfl (by kernel_rfl) (by kernel_rfl) (by kernel_rfl) (fun _ _ _ h => h) (Or.inl ⟨by rfl, ?_⟩) (by assumption) ?_
        rotate_left
        · intro wS hSw
          go_simp; (try with_reducible rfl)
        (try simp only [Act.put])
        (try simp only [List.setIfInBounds_toArray])
        (try simp only [List.set_cons_succ])
        (try simp only [List.set_cons_zero])
        refine wpAnyH_take (i := 10) (oi := ⟨_, _, _, _, _, _⟩) (v := ?_) rfl (by kernel_rfl) (by kernel_rfl) (by kernel_rfl) (fun _ _ _ h => h) (Or.inl ⟨by rfl, ?_⟩) (by assumption) ?_
        rotate_left
        · intro wS hSw
          go_simp; (try with_reducible rfl)
        (try simp only [Act.put])
        (try simp only [List.setIfInBounds_toArray])
        (try simp only [List.set_cons_succ])
        (try simp only [List.set_cons_zero])
        refine wpAnyH_take (i := 11) (oi := ⟨_, _, _, _, _, _⟩) (v := ?_) rfl (by kernel_rfl) (by kernel_rfl) (by kernel_rfl) (fun _ _ _ h => h) (Or.inl ⟨by rfl, ?_⟩) (by assumption) ?_
        rotate_left
        · intro wS hSw
          go_simp; (try with_reducible rfl)
        (try simp only [Act.put])
        (try simp only [List.setIfInBounds_toArray])
        (try simp only [List.set_cons_succ])
        (try simp only [List.set_cons_zero])
        refine wpAnyH_take (i := 12) (oi := ⟨_, _, _, _, _, _⟩) (v := .int .i64 (64 * (k : Int))) rfl (by kernel_rfl) (by kernel_rfl) (by kernel_rfl) (fun _ _ _ h => h) (Or.inl ⟨by rfl, fun wS hSw => ?_⟩) (by assumption) ?_
        · go_simp; rw [W1.out]
        (try simp only [Act.put])
        (try simp only [List.setIfInBounds_toArray])
        (try simp only [List.set_cons_succ])
        (try simp only [List.set_cons_zero])
        refine wpAnyH_take (i := 13) (oi := ⟨_, _, _, _, _, _⟩) (v := ?_) rfl (by kernel_rfl) (by kernel_rfl) (by kernel_rfl) (fun _ _ _ h => h) (Or.inl ⟨by rfl, ?_⟩) (by assumption) ?_
        rotate_left
        · intro wS hSw
          go_simp; (try with_reducible rfl)
        (try simp only [Act.put])
        (try simp only [List.setIfInBounds_toArray])
        (try simp only [List.set_cons_succ])
        (try simp only [List.set_cons_zero])
        refine wpAnyH_take (i := 14) (oi := ⟨_, _, _, _, _, _⟩) (v := .int .i64 (64 * (k : Int))) rfl (by kernel_rfl) (by kernel_rfl) (by kernel_rfl) (fun _ _ _ h => h) (Or.inl ⟨by rfl, fun wS hSw => ?_⟩) (by assumption) ?_
        · go_simp; rw [W1.out]
        (try simp only [Act.put])
        (try simp only [List.setIfInBounds_toArray])
        (try simp only [List.set_cons_succ])
        (try simp only [List.set_cons_zero])
        refine wpAnyH_take (i := 15) (oi := ⟨_, _, _, _, _, _⟩) (v := .int .i64 (64 * (k : Int) + 64)) rfl (by kernel_rfl) (by kernel_rfl) (by kernel_rfl) (fun _ _ _ h => h) (Or.inl ⟨by rfl, fun wS hSw => ?_⟩) (by assumption) ?_
        · go_simp; rw [W2.out]
        (try simp only [Act.put])
        (try simp only [List.setIfInBounds_toArray])
        (try simp only [List.set_cons_succ])
        (try simp only [List.set_cons_zero])
        refine wpAnyH_take (i := 16) (oi := ⟨_, _, _, _, _, _⟩) (v := .slice (some ⟨G, 64 * k, none⟩) 64 (C - 64 * k)) rfl (by kernel_rfl) (by kernel_rfl) (by kernel_rfl) (fun _ _ _ h => h) (Or.inl ⟨by rfl, fun wS hSw => ?_⟩) (by assumption) ?_
        · go_simp; rw [if_pos ⟨by omega, by have := HL.out; omega⟩, if_pos ⟨by omega, by omega⟩, T1.out, T2.out, if_neg (by have := HL.out; omega), show 64 * k + 64 - 64 * k = 64 by omega]
        (try simp only [Act.put])
        (try simp only [List.setIfInBounds_toArray])
        (try simp only [List.set_cons_succ])
        (try simp only [List.set_cons_zero])
        refine wpAnyH_ready (rs := [7]) (by kernel_rfl) (by simp) ?_
        refine AllReadyH.cons (o := ⟨_, _, _, _, _, _⟩) rfl (fun K' hK' => ?_) AllReadyH.nil
        refine (if_pos (by rfl)).mpr ?_
        go_simp
        refine (first_any x.tg.reg x.tg.pla _).mono ?_
        rintro e w10 ⟨rfl, hb10⟩
        rw [HF.out]
        have D10 := D9.below hb10
        have k10 := k9.trans (Kt.of hb10 hB9)
        have B10 := tr_bl hb10 B9
        have F10 := F9.below hb10
        have hB10 := Nat.le_trans hB9 hb10.size
        refine hK'.out _ _ B10 (fun _ => ?_)
        clear hK' D9 k9 B9 F9 hB9 hb10 hS0
        (try simp only [Act.put])
        (try simp only [List.setIfInBounds_toArray])
        (try simp only [List.set_cons_succ])
        (try simp only [List.set_cons_zero])
        refine wpAnyH_take (i := 9) (oi := ⟨_, _, _, _, _, _⟩) (v := .int .i64 ((f : Int) + (k : Int))) rfl (by kernel_rfl) (by kernel_rfl) (by kernel_rfl) (fun _ _ _ h => h) (Or.inl ⟨by rfl, fun wS hSw => ?_⟩) (by assumption) ?_
        · go_simp; rw [W3.out]
        (try simp only [Act.put])
        (try simp only [List.setIfInBounds_toArray])
        (try simp only [List.set_cons_succ])
        (try simp only [List.set_cons_zero])
        refine wpAnyH_ready (rs := [17]) (by kernel_rfl) (by simp) ?_
        refine AllReadyH.cons (o := ⟨_, _, _, _, _, _⟩) rfl (fun K' hK' => ?_) AllReadyH.nil
        refine (if_pos (by rfl)).mpr ?_
        go_simp
        have hwr := write_any D10 hB10 ((f : Int) + (k : Int)) (some ⟨G, 64 * k, none⟩) (C - 64 * k) (pcD b k) (fun w' hk => (F10.kt hk).piece (by have := HL.out; omega)) (by have := hpw k; omega)
        rw [pcD_len (by have := HL.out; omega)] at hwr
        refine hwr.mono ?_
        rintro e w11 ⟨rfl, ⟨wv11, D11⟩, hk11⟩
        have B11 := hk11.ty _ _ _ B10 (by decide) (by decide) (by decide)
        have F11 := F10.kt hk11
        have k11 := k10.trans hk11
        refine hK'.out _ _ B11 (fun _ => ?_)
        clear hK' hwr D10 k10 B10 F10 hB10 hk11
        refine wpAnyH_done (by kernel_rfl) ?_ _
        (try simp only [Exit.inBlock, Exit.then])
        refine HK2.out _ _ ?_
        clear HK2
        go_wp2
        go_roundw
        case rel => exact ⟨k + 1, by omega, by go_num, ⟨_, D11⟩, k11, B11, F11⟩
        case measure => simp [intOf]; omega
theorem ldo_any (h : DiskB B g gp wv d w) (hb : B ≤ w.heap.size) (x : A6) (hi : ∀ w', Kt B w w' → A6in w' x) (hl : x.body.length ≤ 100 ∧ x.dk.bytes.length ≤ 200 ∧ x.dk.keep.length ≤ 100) (hw : d.waits.length ≤ 1000) :
    Calls Tryd.prog 21 #[.pointer (some ⟨g, 0, none⟩), a6V x] w fun e w' => (∃ v, e = .returned v) ∧ Does B g gp w (do6 d x) w' := by
  cases hx : x.sl
  · exact ldo_no h hb x hx hi hl.2.1 hw
  · exact ldo_yes h hb x hx hi (by omega) hw
end
end Go.Proofs.YtejjneamngkmoaaDoor

namespace Go.Proofs.YtejjneamngkmoaaDoor

structure Ex6 (d : Dk) : Prop where
  f : flipD (newDk 156) 30 1 = (d, 0)
  h : hurtsL d 0 156 = [30]
  a : placeG d 0 4 1 = (true, true, 0)
  b : (placeG d 0 4 0).1 = false ∧ (placeG d 0 4 0).2.2 = 0
  c : (placeG d 0 4 48).2.2 = 2
  l : d.pl.length = 156
set_option maxRecDepth 100000 in
theorem ex6 : ∃ d, Ex6 d := by
  refine ⟨(flipD (newDk 156) 30 1).1, ⟨?_, ?_, ?_, ?_, ?_, ?_⟩⟩
  · exact Prod.ext rfl (show (flipD (newDk 156) 30 1).2 = 0 by decide +kernel)
  · decide +kernel
  · decide +kernel
  · decide +kernel
  · decide +kernel
  · decide +kernel
end Go.Proofs.YtejjneamngkmoaaDoor

namespace Go.Proofs.YtejjneamngkmoaaDoor
open Go.RowKit

theorem new156b {B : Nat} {w : World} (hB : B ≤ w.heap.size) : Calls Tryd.prog 14 #[.int .i64 156] w fun e w' => (∃ g gp, e = .returned (.tuple #[.pointer (some ⟨g, 0, none⟩), .int .i64 0]) ∧ DiskB B g gp (.slice none 0 0) (newDk 156) w') ∧ Below w.heap.size w w' := new_any 156 (by decide) (by decide) hB
theorem hurt_is {B g gp : Nat} {wv : Value} {d : Dk} {w : World} {l : List Int} {n : Nat} (h : DiskB B g gp wv d w) (hl : d.pl.length = n) (hh : hurtsL d 0 n = l) : Calls Tryd.prog 18 #[.pointer (some ⟨g, 0, none⟩)] w fun e w' => (∃ a c, e = .returned (.slice a l.length c) ∧ Row w' a (l.map (Value.int .i64))) ∧ Below w.heap.size w w' := by
  have := hurt_any h
  rw [hl, hh] at this
  exact this
set_option maxRecDepth 100000 in
set_option maxHeartbeats 2000000 in
theorem gawake_any (w : World) : Calls Tryd.prog 19 #[] w fun e w' => e = .returned (.bool true) ∧ Below w.heap.size w w' := by
  obtain ⟨d1, E⟩ := ex6
  have HE := Lib.hid E
  clear E
  go_enter Tryd.func19, Tryd.ntmps19
  go_wp2_with fail
  refine (new156b (B := w.heap.size) (Nat.le_refl _)).mono ?_
  rintro e w1 ⟨⟨g, gp, rfl, D1⟩, hb1⟩
  have k1 := Kt.of hb1 (Nat.le_refl _)
  have hh := hurt_is D1 List.length_replicate (clean_nil (new_clean 156) 0 156)
  go_wp2_with fail
  refine hh.mono ?_
  rintro e w2 ⟨⟨a2, c2, rfl, _⟩, hb2⟩
  have D2 := D1.below hb2
  have k2 := k1.trans (Kt.of hb2 k1.bl.size)
  clear hh D1 k1 hb2 hb1
  have hf := flip_any D2 k2.bl.size 30 1
  rw [HE.out.f] at hf
  go_wp2_with fail
  refine hf.mono ?_
  rintro e w3 ⟨rfl, D3, hk3⟩
  (try simp only at D3)
  have k3 := k2.trans hk3
  clear hf D2 k2 hk3
  have hh := hurt_is D3 HE.out.l HE.out.h
  go_wp2_with fail
  refine hh.mono ?_
  rintro e w4 ⟨⟨a4, c4, rfl, r4⟩, hb4⟩
  have D4 := D3.below hb4
  have k4 := k3.trans (Kt.of hb4 k3.bl.size)
  clear hh D3 k3 hb4
  have hp := place_any D4 0 4 1
  rw [HE.out.a] at hp
  go_wp2_with fail
  refine hp.mono ?_
  rintro e w5 ⟨rfl, hb5⟩
  have D5 := D4.below hb5
  have k5 := k4.trans (Kt.of hb5 k4.bl.size)
  replace r4 := r4.below0 hb5
  clear hp D4 k4 hb5
  have hp := place_any D5 0 4 0
  rw [HE.out.b.1, HE.out.b.2] at hp
  go_wp2_with fail
  refine hp.mono ?_
  rintro e w6 ⟨rfl, hb6⟩
  have D6 := D5.below hb6
  have k6 := k5.trans (Kt.of hb6 k5.bl.size)
  replace r4 := r4.below0 hb6
  clear hp D5 k5 hb6
  have hp := place_any D6 0 4 48
  rw [HE.out.c] at hp
  go_wp2_with fail
  refine hp.mono ?_
  rintro e w7 ⟨rfl, hb7⟩
  have k7 := k6.trans (Kt.of hb7 k6.bl.size)
  replace r4 := r4.below0 hb7
  clear hp D6 k6 hb7
  obtain ⟨b, off, rfl, hc⟩ := r4.at (k := 0) (by simp)
  have c0 := hc 0 _ rfl
  rw [Nat.add_zero] at c0
  clear hc r4
  go_wp2
  go_ret
  exact ⟨rfl, k7.bl⟩
end Go.Proofs.YtejjneamngkmoaaDoor

namespace Go.Proofs.YtejjneamngkmoaaDoor
open Go.RowKit

theorem mod_seven (x : Int) : ∃ r : Int, 0 ≤ r ∧ r ≤ 6 ∧ wrap64 ((IntKind.u64.wrap x).tmod 7) = r := by
  have h0 := wrap_u64_nonneg x
  generalize IntKind.u64.wrap x = y at *
  have h1 : y.tmod 7 = y % 7 := Int.tmod_eq_emod_of_nonneg h0
  rw [h1]
  unfold wrap64
  exact ⟨y % 7, by omega, by omega, by omega⟩
set_option maxRecDepth 100000 in
set_option maxHeartbeats 4000000 in
theorem nothing_law (a : Option Addr) (cap : Nat) (l : List A6) (rep : Int) (w : World) (hp : Acts w a l) :
    Calls Tryd.prog 4 #[.slice a l.length cap, .int .i64 rep] w fun e w' => e = .returned (.bool true) ∧ Below w.heap.size w w' := by
  cases hg : gr6 l
  case true =>
    have HG := Lib.hid hg
    clear hg
    go_enter Tryd.func4, Tryd.ntmps4
    go_wp2_with fail
    refine (gawake_any w).mono ?_
    rintro e w1 ⟨rfl, hb1⟩
    go_wp2_with fail
    refine (lgreat_any a cap l _ (hp.below hb1)).mono ?_
    rintro e w2 ⟨rfl, hb2⟩
    rw [HG.out]
    go_wp2
    go_ret
    exact ⟨rfl, hb1.trans (hb2.mono hb1.size)⟩
  case false =>
  obtain ⟨hl60, hl6⟩ := gr6_no hg
  have HG := Lib.hid hg
  have HL6 := Lib.hid hl6
  clear hg hl6
  go_enter Tryd.func4, Tryd.ntmps4
  go_wp2_with fail
  refine (gawake_any w).mono ?_
  rintro e w1 ⟨rfl, hb1⟩
  go_wp2_with fail
  refine (lgreat_any a cap l _ (hp.below hb1)).mono ?_
  rintro e w2 ⟨rfl, hb2⟩
  rw [HG.out]
  have hb3 := hb1.trans (hb2.mono hb1.size)
  go_wp2_with fail
  refine (new156b (B := w.heap.size) hb3.size).mono ?_
  rintro e w3 ⟨⟨g, gp, rfl, D3⟩, hb4⟩
  have k3 := (Kt.of hb3 (Nat.le_refl w.heap.size)).trans (Kt.of hb4 hb3.size)
  clear hb1 hb2 hb3 hb4
  go_wp2_with fail
  go_loopw [7, 8] (fun i _ wr => ∃ (j : Nat) (d : Dk), j ≤ l.length ∧ i = .int .i64 (j : Nat) ∧ (∃ wv, DiskB w.heap.size g gp wv d wr) ∧ Kt w.heap.size w wr ∧ Wk d (2 * j) ∧ CleanL d.pl) (fun i _ _ => l.length - (intOf i).toNat)
  case atStart => exact ⟨0, _, by omega, rfl, ⟨_, D3⟩, k3, new_wk 0, new_clean 156⟩
  case round =>
    clear D3 k3
    obtain ⟨j, d, hj, rfl, ⟨wv4, D4⟩, k4, hwk, hcl⟩ := hrel
    by_cases hlt : j < l.length
    case neg =>
      obtain rfl : j = l.length := by omega
      obtain ⟨r, hr0, hr6, hr⟩ := mod_seven rep
      have hse := fun w' (h : DiskB w.heap.size g gp wv4 d w') => seen_any h r
      rw [clean_seen hcl (by rw [hwk.len]; omega) ⟨hr0, hr6⟩] at hse
      have hhu := fun w' (h : DiskB w.heap.size g gp wv4 d w') => hurt_is h hwk.len (clean_nil hcl 0 156)
      have HR := Lib.hid hr
      clear hr hcl hwk
      go_wp2_with fail
      rw [HR.out]
      refine (hse _ D4).mono ?_
      rintro e w5 ⟨rfl, hb5⟩
      have D5 := D4.below hb5
      have k5 := k4.trans (Kt.of hb5 k4.bl.size)
      go_wp2_with fail
      refine (hhu _ D5).mono ?_
      rintro e w6 ⟨⟨a6, c6, rfl, _⟩, hb6⟩
      have k6 := k5.trans (Kt.of hb6 k5.bl.size)
      go_wp2
      go_ret
      exact ⟨rfl, k6.bl⟩
    case pos =>
      obtain ⟨b, off, rfl, hc, hi⟩ := (hp.below k4.bl).each j hlt
      have hx := HL6.out _ (List.getElem_mem hlt)
      have HI : ∀ w', Kt w.heap.size wr w' → A6in w' l[j] := fun w' hk => by
        obtain ⟨_, _, _, _, h⟩ := (hp.below (k4.trans hk).bl).each j hlt
        exact h
      generalize l[j] = x at *
      have c0 := hc 0 _ rfl
      have c7 := hc 7 _ rfl
      rw [Nat.add_zero] at c0
      have hcA : ∀ r u, (a6A x)[r]? = some u → wr.cell? ⟨b, off + j * 12 + r, none⟩ = some u := fun r u hu => hc r u (by simpa [a6A] using hu)
      have hdo := ldo_any D4 k4.bl.size x HI hx (by have := hwk.wt; omega)
      have W5 := do6_wk hwk x
      obtain ⟨m, hm, hm9⟩ : ∃ m, x.dk.kind % 9 = m ∧ m < 9 := ⟨_, rfl, Nat.mod_lt _ (by decide)⟩
      have e1 : (x.dk.kind : Int) % 9 = (m : Int) := by omega
      have e2 : (x.dk.kind : Int).tmod 9 = (m : Int) := by rw [Int.tmod_eq_emod_of_nonneg (by omega)]; exact e1
      have HM := Lib.hid hm
      obtain ⟨sl, hsl⟩ : ∃ sl, x.sl = sl := ⟨_, rfl⟩
      rw [hsl] at c0
      have HSL := Lib.hid hsl
      clear hm hsl hc hi hx
      cases sl
      case true =>
        go_wp2_with (first
          | ((with_reducible refine wpList_ldC 51 _ ?_); refine ⟨rfl, _, ⟨_, _, _, Tryd.isAgg51, Tryd.sizeOf51, rfl, (show (a6A x).size = 12 from rfl), hcA⟩, ?_⟩)
          | (go_at_call 21; refine hdo.mono ?_; rintro e w5 ⟨⟨v5, rfl⟩, ⟨wv5, D5⟩, hk5⟩))
        go_roundw
        case rel => exact ⟨j + 1, _, by omega, by go_num, ⟨_, D5⟩, k4.trans hk5, W5, do6_clean hcl (.inl HSL.out)⟩
        case measure => simp [intOf]; omega
      case false =>
        by_cases h3 : m < 3
        · have i3 : (m : Int) < 3 := by omega
          go_wp2_with (first
            | ((with_reducible refine wpList_ldC 51 _ ?_); refine ⟨rfl, _, ⟨_, _, _, Tryd.isAgg51, Tryd.sizeOf51, rfl, (show (a6A x).size = 12 from rfl), hcA⟩, ?_⟩)
            | (go_at_call 21; refine hdo.mono ?_; rintro e w5 ⟨⟨v5, rfl⟩, ⟨wv5, D5⟩, hk5⟩))
          go_roundw
          case rel => exact ⟨j + 1, _, by omega, by go_num, ⟨_, D5⟩, k4.trans hk5, W5, do6_clean hcl (.inr (.inl (by rw [HM.out]; exact h3)))⟩
          case measure => simp [intOf]; omega
        · have i3 : ¬ (m : Int) < 3 := by omega
          by_cases h5 : 5 < m
          · have i5 : (5 : Int) < (m : Int) := by omega
            go_wp2_with (first
              | ((with_reducible refine wpList_ldC 51 _ ?_); refine ⟨rfl, _, ⟨_, _, _, Tryd.isAgg51, Tryd.sizeOf51, rfl, (show (a6A x).size = 12 from rfl), hcA⟩, ?_⟩)
              | (go_at_call 21; refine hdo.mono ?_; rintro e w5 ⟨⟨v5, rfl⟩, ⟨wv5, D5⟩, hk5⟩))
            go_roundw
            case rel => exact ⟨j + 1, _, by omega, by go_num, ⟨_, D5⟩, k4.trans hk5, W5, do6_clean hcl (.inr (.inr (by rw [HM.out]; exact h5)))⟩
            case measure => simp [intOf]; omega
          · have i5 : ¬ (5 : Int) < (m : Int) := by omega
            go_wp2
            go_roundw
            case rel => exact ⟨j + 1, _, by omega, by go_num, ⟨_, D4⟩, k4, ⟨hwk.len, by have := hwk.wt; omega⟩, hcl⟩
            case measure => simp [intOf]; omega
end Go.Proofs.YtejjneamngkmoaaDoor

namespace Go.Proofs.YtejjneamngkmoaaDoor
open Go.ChangeShapes Go.WideShapes Go.ChangeAt Go.RowKit

section
variable {H : Type} {enc : TypeId × Value → H} {P : Program} {w : World} {base : Nat} {spare : Nat → Bool} {held : Bool}
theorem trod_struct_5 {t : TypeId} {f0 f1 f2 f3 f4 : Field} {fuel : Nat} {cs : List Value} {x : DataW H × List MemPlace} (ht : P.underlying t = some (.struct #[f0, f1, f2, f3, f4])) (h : DataW.trod enc P w base spare held fuel t cs = some x) :
    ∃ y0 y1 y2 y3 y4 n, cs.length = P.cellsOf t ∧ DataW.trod enc P w base spare held n f0.type ((cs.drop f0.offset).take (P.cellsOf f0.type)) = some y0 ∧
      DataW.trod enc P w base spare held n f1.type ((cs.drop f1.offset).take (P.cellsOf f1.type)) = some y1 ∧ DataW.trod enc P w base spare held n f2.type ((cs.drop f2.offset).take (P.cellsOf f2.type)) = some y2 ∧
      DataW.trod enc P w base spare held n f3.type ((cs.drop f3.offset).take (P.cellsOf f3.type)) = some y3 ∧ DataW.trod enc P w base spare held n f4.type ((cs.drop f4.offset).take (P.cellsOf f4.type)) = some y4 := by
  obtain ⟨xs, n, _, rfl, hl, hlen, hf⟩ := DataW.trod_struct ht h
  match xs, hlen with
  | [y0, y1, y2, y3, y4], _ => exact ⟨y0, y1, y2, y3, y4, n, hl, by simpa using hf 0 f0 rfl, by simpa using hf 1 f1 rfl, by simpa using hf 2 f2 rfl, by simpa using hf 3 f3 rfl, by simpa using hf 4 f4 rfl⟩
end
theorem cellsBl6 : Tryd.prog.cellsOf 4 = 1 := by kernel_rfl
theorem cellsIn6 : Tryd.prog.cellsOf 3 = 1 := by kernel_rfl
theorem cellsBls6 : Tryd.prog.cellsOf 47 = 1 := by kernel_rfl
theorem cellsTag : Tryd.prog.cellsOf 37 = 5 := by kernel_rfl
theorem cellsA5 : Tryd.prog.cellsOf 49 = 5 := by kernel_rfl
theorem cellsA6 : Tryd.prog.cellsOf 51 = 12 := by kernel_rfl
section
variable {H : Type} {enc : TypeId × Value → H} {W : World} {sp : Nat → Bool} {hd : Bool} {b0 fuel : Nat}
theorem bool6_of {v : Value} {x : DataW H × List MemPlace} (h : DataW.trod enc Tryd.prog W b0 sp hd fuel 4 [v] = some x) : ∃ z, v = .bool z := by
  obtain ⟨z, q, _⟩ := DataW.trod_bool Tryd.underlying4 h
  simp only [List.cons.injEq, and_true] at q
  exact ⟨z, q⟩
theorem u8_of6 {v : Value} {x : DataW H × List MemPlace} (h : DataW.trod enc Tryd.prog W b0 sp hd fuel 5 [v] = some x) : ∃ n : Nat, v = .int .u8 (n : Int) ∧ n < 256 := by
  obtain ⟨y, q, _, h2⟩ := DataW.trod_int Tryd.underlying5 h
  simp at q
  subst q
  have m0 : IntKind.u8.min = 0 := by decide
  have m1 : IntKind.u8.max = 255 := by decide
  replace h2 : (decide (IntKind.u8.min ≤ y) && decide (y ≤ IntKind.u8.max)) = true := h2
  rw [m0, m1, Bool.and_eq_true, decide_eq_true_eq, decide_eq_true_eq] at h2
  exact ⟨y.toNat, by rw [show ((y.toNat : Nat) : Int) = y by omega], by omega⟩
theorem int_of6 {v : Value} {x : DataW H × List MemPlace} (h : DataW.trod enc Tryd.prog W b0 sp hd fuel 3 [v] = some x) : ∃ n : Int, v = .int .i64 n ∧ n ≤ 9223372036854775807 := by
  obtain ⟨y, q, _, h2⟩ := DataW.trod_int Tryd.underlying3 h
  simp at q
  subst q
  have m1 : IntKind.i64.max = 9223372036854775807 := by decide
  replace h2 : (decide (IntKind.i64.min ≤ y) && decide (y ≤ IntKind.i64.max)) = true := h2
  rw [m1, Bool.and_eq_true, decide_eq_true_eq, decide_eq_true_eq] at h2
  exact ⟨y, rfl, h2.2⟩
set_option maxRecDepth 100000 in
theorem bools6_of {v : Value} {x : DataW H × List MemPlace} (h : DataW.trod enc Tryd.prog W b0 sp hd fuel 47 [v] = some x) : ∃ (a : Option Addr) (l : List Bool) (cap : Nat), v = .slice a l.length cap ∧ Row W a (l.map Value.bool) := by
  rcases Go.Deep.open_slice1 Tryd.underlying47 cellsBl6 h with ⟨hcs, hx⟩ | ⟨a, len', cap', m, n, V, D, Pl, hcs, _, hl, hm, hmm, hx, hel⟩
  · simp only [List.cons.injEq, and_true] at hcs
    subst hcs
    exact ⟨none, [], 0, rfl, .inl rfl⟩
  · simp only [List.cons.injEq, and_true] at hcs
    subst hcs
    have hlm : len' ≤ m := by rw [hmm]; split <;> omega
    have hex : ∀ i, i < len' → ∃ y : Bool, W.cell? (a.add i) = some (.bool y) := by
      intro i hi
      obtain ⟨hc, ht⟩ := hel i (by omega)
      obtain ⟨y, e⟩ := bool6_of ht
      exact ⟨y, by rw [hc, e]⟩
    obtain ⟨f, hf2⟩ := Go.Deep.choose_lt hex
    refine ⟨some a, (List.range len').map f, cap', by simp, ?_⟩
    by_cases h0 : len' = 0
    · left
      subst h0
      rfl
    · right
      obtain ⟨b, off, spot⟩ := a
      have hspot : spot = none := by
        have := World.cell?_spot (hf2 0 (by omega))
        simpa [Addr.add] using this
      subst hspot
      refine ⟨b, off, rfl, fun i u hu => ?_⟩
      have hi := (List.getElem?_eq_some_iff.1 hu).1
      simp only [List.length_map, List.length_range] at hi
      have := hf2 i hi
      rw [addr_add] at this
      rw [this]
      simp only [List.map_map, List.getElem?_map, List.getElem?_range hi, Option.map_some, Function.comp] at hu
      exact hu
theorem tag_of {c0 c1 c2 c3 c4 : Value} {x : DataW H × List MemPlace} (h : DataW.trod enc Tryd.prog W b0 sp hd fuel 37 [c0, c1, c2, c3, c4] = some x) : ∃ t : Tg, [c0, c1, c2, c3, c4] = [.int .i64 t.rep, .int .i64 t.reg, .int .i64 t.pla, .int .i64 t.idx, .int .i64 t.inc] := by
  obtain ⟨y0, y1, y2, y3, y4, n, _, h0, h1, h2, h3, h4⟩ := trod_struct_5 Tryd.underlying37 h
  simp [cellsIn6] at h0 h1 h2 h3 h4
  obtain ⟨n0, rfl, _⟩ := int_of6 h0
  obtain ⟨n1, rfl, _⟩ := int_of6 h1
  obtain ⟨n2, rfl, _⟩ := int_of6 h2
  obtain ⟨n3, rfl, _⟩ := int_of6 h3
  obtain ⟨n4, rfl, _⟩ := int_of6 h4
  exact ⟨⟨n0, n1, n2, n3, n4⟩, rfl⟩
theorem a5_of {c0 c1 c2 c3 c4 : Value} {x : DataW H × List MemPlace} (h : DataW.trod enc Tryd.prog W b0 sp hd fuel 49 [c0, c1, c2, c3, c4] = some x) : ∃ a : A5, [c0, c1, c2, c3, c4] = a5L a ∧ A5in W a ∧ a.kind < 256 ∧ a.n ≤ 9223372036854775807 := by
  obtain ⟨y0, y1, y2, y3, y4, n, _, h0, h1, h2, h3, h4⟩ := trod_struct_5 Tryd.underlying49 h
  simp [cellsIn6, cellsU8, cellsSl, cellsBls6] at h0 h1 h2 h3 h4
  obtain ⟨k, rfl, hk⟩ := u8_of6 h0
  obtain ⟨n1, rfl, _⟩ := int_of6 h1
  obtain ⟨n2, rfl, hn⟩ := int_of6 h2
  obtain ⟨ba, bc, bl, rfl, hb⟩ := bytes_of h3
  obtain ⟨ka, kl, kc, rfl, hkl⟩ := bools6_of h4
  exact ⟨⟨k, n1, n2, ba, bl, bc, ka, kl, kc⟩, rfl, ⟨hb, hkl⟩, hk, hn⟩
theorem list12 {α : Type} {l : List α} (h : l.length = 12) : ∃ a b c d e f g i j k m n, l = [a, b, c, d, e, f, g, i, j, k, m, n] := by
  match l, h with
  | [a, b, c, d, e, f, g, i, j, k, m, n], _ => exact ⟨a, b, c, d, e, f, g, i, j, k, m, n, rfl⟩
set_option maxRecDepth 100000 in
theorem a6_of {cs : List Value} {x : DataW H × List MemPlace} (h : DataW.trod enc Tryd.prog W b0 sp hd fuel 51 cs = some x) : ∃ a : A6, cs = a6L a ∧ A6in W a := by
  obtain ⟨y0, y1, y2, y3, n, _, hl, h0, h1, h2, h3⟩ := Go.Joins.trod_struct4 Tryd.underlying51 h
  rw [cellsA6] at hl
  obtain ⟨a0, a1, a2, a3, a4, a5, a6, a7, a8, a9, a10, a11, rfl⟩ := list12 hl
  simp [cellsBl6, cellsTag, cellsSl, cellsA5] at h0 h1 h2 h3
  obtain ⟨z, rfl⟩ := bool6_of h0
  obtain ⟨t, e1⟩ := tag_of h1
  obtain ⟨oa, oc, ol, rfl, hb⟩ := bytes_of h2
  obtain ⟨d, e3, hd1, hk, hn⟩ := a5_of h3
  refine ⟨⟨z, t, oa, ol, oc, d⟩, ?_, ⟨hb, hd1, hk, hn⟩⟩
  unfold a5L at e3
  simp only [List.cons.injEq, and_true] at e1 e3
  obtain ⟨rfl, rfl, rfl, rfl, rfl⟩ := e1
  obtain ⟨rfl, rfl, rfl, rfl, rfl⟩ := e3
  rfl
end
set_option maxRecDepth 100000 in
theorem open_acts {H : Type} {enc : TypeId × Value → H} {W : World} {base : Nat} {sp : Nat → Bool} {hd : Bool} {b0 : Nat} {v : Value} {d : DataW H} {p : List MemPlace}
    (hv : Value.okWide Tryd.prog W .any base 44 v) (h : DataW.Trod enc Tryd.prog W b0 sp hd 44 v d p) : ∃ (a : Option Addr) (l : List A6) (cap : Nat), v = .slice a l.length cap ∧ Acts W a l := by
  obtain ⟨a0, len, cap, rfl⟩ := okWide_slice Tryd.underlying44 hv
  obtain ⟨fuel, hf⟩ := h
  rcases Go.Deep.open_slice Tryd.underlying44 hf with ⟨hcs, hx⟩ | ⟨a, len', cap', m, n, D, Pl, hcs, _, hl, hm, hmm, hx, hel⟩
  · simp [Value.cells] at hcs
    obtain ⟨rfl, rfl, rfl⟩ := hcs
    exact ⟨none, [], 0, rfl, ⟨fun j hj => by simp at hj⟩⟩
  · simp [Value.cells] at hcs
    obtain ⟨rfl, rfl, rfl⟩ := hcs
    have hlm : len ≤ m := by rw [hmm]; split <;> omega
    have hex : ∀ i, i < len → ∃ s : A6, (∀ r u, (a6L s)[r]? = some u → W.cell? (a.add (i * 12 + r)) = some u) ∧ A6in W s := by
      intro i hi
      obtain ⟨cs', hc, ht⟩ := hel i (by omega)
      rw [cellsA6] at hc
      obtain ⟨_, hlen2, hat⟩ := World.cells?_some hc
      obtain ⟨s, rfl, h2⟩ := a6_of ht
      refine ⟨s, fun r u hr => ?_, h2⟩
      have hlt := (List.getElem?_eq_some_iff.1 hr).1
      have := hat r (by simpa [a6L] using hlt)
      rw [Go.Deep.add_add] at this
      rw [this, ← hr, List.getElem?_eq_getElem hlt]
    have : Inhabited A6 := ⟨⟨false, zeroTg, none, [], 0, ⟨0, 0, 0, none, [], 0, none, [], 0⟩⟩⟩
    obtain ⟨f, hf2⟩ := Go.Deep.choose_lt hex
    refine ⟨some a, (List.range len).map f, cap, by simp, ⟨fun j hj => ?_⟩⟩
    simp only [List.length_map, List.length_range] at hj
    obtain ⟨b, off, spot⟩ := a
    have hspot : spot = none := by
      have := World.cell?_spot ((hf2 0 (by omega)).1 0 _ rfl)
      simpa [Addr.add] using this
    subst hspot
    obtain ⟨h1, h2⟩ := hf2 j hj
    simp only [addr_add] at h1
    simp only [List.getElem_map, List.getElem_range]
    refine ⟨b, off, rfl, fun r u hu => ?_, h2⟩
    have := h1 r u hu
    rw [← Nat.add_assoc] at this
    exact this
set_option maxRecDepth 100000 in
theorem open_tg6 {H : Type} {enc : TypeId × Value → H} {W : World} {base : Nat} {sp : Nat → Bool} {hd : Bool} {b0 : Nat} {v : Value} {d : DataW H} {p : List MemPlace}
    (hv : Value.okWide Tryd.prog W .any base 37 v) (h : DataW.Trod enc Tryd.prog W b0 sp hd 37 v d p) : ∃ t : Tg, v = tgV t := by
  obtain ⟨cs, rfl, hsz⟩ := okWide_struct Tryd.underlying37 hv
  rw [cellsTag] at hsz
  obtain ⟨l, rfl⟩ : ∃ l : List Value, cs = l.toArray := ⟨cs.toList, by simp⟩
  obtain ⟨fuel, hf⟩ := h
  simp only [Value.cells] at hf
  match l, hsz with
  | [c0, c1, c2, c3, c4], _ =>
    obtain ⟨t, e⟩ := tag_of hf
    exact ⟨t, by rw [e]⟩
end Go.Proofs.YtejjneamngkmoaaDoor

