/- ac, told. -/
import Derived.Test.YtmnjmjbmnhppfaaK20
import Derived.Test.YtmnjmjbmnhppfaaRows
import Derived.WalkKit
import Derived.WalkSpells
import Derived.WalkLawsBesides
import Derived.Handy
import Derived.Deep.QuietTactic
import Derived.BigQuiet
import Derived.Deep.DeepCutAuto
import Derived.Lib.Hide
import Derived.RegionTactic
import Derived.ChangeAlike
import Derived.Deep.RegionHeld3
import Derived.Laws.ResultCell
import Derived.Outline
namespace Go.Proofs.Ytmnjmjbmnhppfaa
open Go.RowKit

def acL : List Pr := [(⟨#[97]⟩, ⟨#[49]⟩), (⟨#[99]⟩, ⟨#[51]⟩)]
def toldB (o : Opn) (err : Int) (f : Bool) (v : Tx) (n : Int) : Bool :=
  let r := doP acL o
  (r.2.err == err) && (r.2.found == f) && (r.2.val.toList == v.toList) && decide ((r.1.length : Int) = n) && mayS r.1

theorem slP_block {w : World} {g : Nat} {l : List Pr} {t : TypeId} (h : w.heap[g]? = some (.cells (prs l).toArray t (0, 0))) (hl : l.length ≤ 1000) : SlP w (some ⟨g, 0, none⟩) l.length l := by
  refine ⟨.inr ⟨g, 0, rfl, fun i u hu => ?_⟩, Nat.le_refl _, by unfold maxLen; omega, fun h => by cases h⟩
  simp only [World.cell?, h, Nat.zero_add, List.getElem?_toArray]
  exact hu

theorem bcell {W w1 : World} (hb : Below W.heap.size W w1) : (∀ b o, b < W.heap.size → w1.cell? ⟨b, o, none⟩ = W.cell? ⟨b, o, none⟩) ∧ (∀ b o, b < W.heap.size → w1.frozen? ⟨b, o, none⟩ = W.frozen? ⟨b, o, none⟩) :=
  ⟨fun b o h => hb.cell (p := ⟨b, o, none⟩) h, fun b o h => hb.frozen (p := ⟨b, o, none⟩) h⟩
theorem new_d (w : World) (cs : Array Value) (e : TypeId) : (w.alloc (.cells cs e)).drew.heap[w.heap.size]? = some (.cells cs e (0, 0)) := heap_alloc_new w _
theorem below1 (w : World) (o : Obj) : Below w.heap.size w (w.alloc o) := (Below.refl _ _).alloc (Nat.le_refl _) _

set_option maxRecDepth 100000 in
theorem ac_any (w : World) : Calls Try.prog 97 #[] w fun e w' => (∃ a cap, e = .returned (.slice a 2 cap) ∧ SlP w' a cap acL) ∧ Below w.heap.size w w' := by
  go_enter Try.func97, Try.ntmps97
  go_wp2
  go_ret
  refine ⟨⟨_, _, rfl, ?_⟩, ?_⟩
  · exact slP_block (l := acL) (heap_alloc_new w _) (by decide)
  · (repeat' (first | (with_reducible exact Below.refl _ _) | (with_reducible assumption) | (with_reducible refine Below.alloc ?_ ?_ _) | (with_reducible refine Below.drew ?_) | (with_reducible refine below_drewN ?_ _) | (with_reducible refine Below.setCell ?_ ?_ _) | (with_reducible refine Below.trans ?_ (by assumption)) | go_size))

def ToldRel (w : World) (l' : List Pr) (err' : Int) (f' : Bool) (v' : Tx) (s p : Value) (wx : World) : Prop :=
  ∃ g, wx.ownsRow w.heap.size 74 2 s l'.length (prs l') ∧ p = .pointer (some ⟨g, 0, none⟩) ∧ wx.cell? ⟨g, 0, none⟩ = some (.int .i64 err') ∧ wx.cell? ⟨g, 1, none⟩ = some (.bool f') ∧ wx.cell? ⟨g, 2, none⟩ = some (.string v') ∧ Below w.heap.size w wx
theorem told_new {w w2 : World} {l' : List Pr} {err' : Int} {f' : Bool} {v' : Tx} {v2 : Value} (ho : w2.ownsRow w.heap.size 74 2 v2 l'.length (prs l')) (hx : Below w.heap.size w w2) :
    ToldRel w l' err' f' v' v2 (.pointer (some ⟨w2.heap.size, 0, none⟩)) (w2.alloc (Obj.cells #[.int .i64 err', .bool f', .string v'] 43)) := by
  obtain ⟨c0, c1, c2, _⟩ := trio (heap_alloc_new w2 (Obj.cells #[.int .i64 err', .bool f', .string v'] 43))
  exact ⟨_, ho.alloc _, rfl, c0, c1, c2, hx.alloc hx.size _⟩
theorem told_old {w w2 : World} {l' : List Pr} {err' : Int} {f' : Bool} {v' : Tx} {v2 : Value} {g : Nat} {x y z : Value} (ho : w2.ownsRow w.heap.size 74 2 v2 l'.length (prs l')) (hx : Below w.heap.size w w2) (hne : v2.ownBlock ≠ some g) (hg : w.heap.size ≤ g)
    (hB : w2.heap[g]? = some (.cells #[x, y, z] 43 (0, 0))) :
    ToldRel w l' err' f' v' v2 (.pointer (some ⟨g, 0, none⟩)) (((w2.setCell ⟨g, 0, none⟩ (.int .i64 err')).setCell ⟨g, 1, none⟩ (.bool f')).setCell ⟨g, 2, none⟩ (.string v')) := by
  have h1 := heap_setCell_same w2 g 0 _ _ (.int .i64 err') hB
  have h2 := heap_setCell_same _ g 1 _ _ (.bool f') h1
  have h3 := heap_setCell_same _ g 2 _ _ (.string v') h2
  obtain ⟨c0, c1, c2, _⟩ := trio (x := .int .i64 err') (y := .bool f') (z := .string v') h3
  exact ⟨g, owns_far (owns_far (owns_far ho hne _) hne _) hne _, rfl, c0, c1, c2, ((hx.setCell hg _).setCell hg _).setCell hg _⟩

theorem do_ac (a : Option Addr) (cap : Nat) (k : Int) (key old val : Tx) (w : World) (hs : SlP w a cap acL) (lr : List Pr × Rp) (hlr : doP acL ⟨k, key, old, val⟩ = lr) :
    Calls Try.prog 36 #[.slice a 2 cap, .agg #[.int .u8 k, .string key, .string old, .string val]] w fun e w' => StRes w.heap.size lr.1 lr.2 e w' ∧ Below w.heap.size w w' :=
  do_any a cap acL ⟨k, key, old, val⟩ w hs (by decide) lr hlr

set_option maxRecDepth 100000 in
set_option maxHeartbeats 4000000 in
theorem told_any (k : Int) (key old val : Tx) (err : Int) (f : Bool) (v : Tx) (n : Int) (w : World) (h : toldB ⟨k, key, old, val⟩ err f v n = true) :
    Calls Try.prog 73 #[.agg #[.int .u8 k, .string key, .string old, .string val], .int .i64 err, .bool f, .string v, .int .i64 n] w fun e w' => e = .returned (.bool true) ∧ Below w.heap.size w w' := by
  obtain ⟨l', ⟨err', f', v'⟩, hd⟩ : ∃ (l' : List Pr) (r : Rp), doP acL ⟨k, key, old, val⟩ = (l', r) := ⟨_, _, rfl⟩
  unfold toldB at h
  rw [hd] at h
  simp only [Bool.and_eq_true, decide_eq_true_eq] at h
  obtain ⟨⟨⟨⟨h1, h2⟩, h3⟩, h4⟩, h5⟩ := h
  have hl8 := (may_spec h5).1
  have h4' : ((l'.length : Int) == n) = true := by rw [beq_iff_eq]; exact h4
  have HD := Lib.hid hd
  have HM := Lib.hid h5
  clear hd h5 h4
  have hb0 : Below w.heap.size w (w.alloc (Obj.cells #[.int .u8 k, .string key, .string old, .string val] 61)) := (Below.refl _ _).alloc (Nat.le_refl _) _
  obtain ⟨d0, d1, d2, d3⟩ := four (heap_alloc_new w (Obj.cells #[.int .u8 k, .string key, .string old, .string val] 61))
  go_enter Try.func73, Try.ntmps73
  refine wp_seq_k (fun K hK => ?_)
  have HK := Lib.hid hK
  clear hK
  go_wp2
  refine HK.out _ _ ?_
  clear HK
  generalize w.alloc (Obj.cells #[.int .u8 k, .string key, .string old, .string val] 61) = w0 at *
  have hsz0 : w.heap.size < w0.heap.size := World.block_lt_of_cell? w0 _ d0
  have hsz1 : w.heap.size < w0.heap.size + 1 := by omega
  have hn0 : ¬ w.heap.size = w0.heap.size := by omega
  have nn0 := World.new_ne w0 _ d0
  have hlt0' : w.heap.size ≤ ((w0.alloc (Obj.cells #[.int .i64 0, .bool false, .string ⟨#[]⟩] 43)).drew).heap.size := by simp; omega
  refine wp_seq_k (fun K hK => ?_)
  go_cut [11, 12] (fun s p wx => ToldRel w l' err' f' v' s p wx)
  case first =>
    go_region_with (first
      | (go_at_call 97; (with_reducible refine (ac_any ((w0.alloc (Obj.cells #[.int .i64 0, .bool false, .string ⟨#[]⟩] 43)).drew)).mono ?_); rintro e w1 ⟨⟨a1, cap1, rfl, hs1⟩, hb1⟩; have e0 := keep_b hb1 (al_keepd d0); have e1 := keep_b hb1 (al_keepd d1); have e2 := keep_b hb1 (al_keepd d2); have e3 := keep_b hb1 (al_keepd d3); have hB1 := (hb1.block w0.heap.size (by simp)).trans (new_d w0 _ _); obtain ⟨z0, z1, z2, y0, y1, y2⟩ := trio hB1; have hz1 : w0.heap.size + 1 ≤ w1.heap.size := Nat.le_trans (Nat.le_of_eq (by simp)) hb1.size; have hq1 : w.heap.size < w1.heap.size := World.block_lt_of_cell? w1 _ e0; have hn1 : ¬ w.heap.size = w1.heap.size := Nat.ne_of_lt hq1; have hx1 : Below w.heap.size w w1 := ((hb0.alloc (Nat.le_of_lt hsz0) _).drew).trans (hb1.mono hlt0'); have hq3 : w0.heap.size < w1.heap.size := hz1; have hn3 : ¬ w0.heap.size = w1.heap.size := Nat.ne_of_lt hq3)
      | (go_at_call 97; (with_reducible refine (ac_any w0.drew).mono ?_); rintro e w1 ⟨⟨a1, cap1, rfl, hs1⟩, hb1⟩; have e0 := keep_b hb1 (x := w0.drew) (id d0); have e1 := keep_b hb1 (x := w0.drew) (id d1); have e2 := keep_b hb1 (x := w0.drew) (id d2); have e3 := keep_b hb1 (x := w0.drew) (id d3); have hz1 : w0.heap.size ≤ w1.heap.size := hb1.size; have hx1 : Below w.heap.size w w1 := (hb0.drew).trans (hb1.mono (Nat.le_of_lt hsz0)); have hq1 : w.heap.size < w1.heap.size := World.block_lt_of_cell? w1 _ e0; have hn1 : ¬ w.heap.size = w1.heap.size := Nat.ne_of_lt hq1)
      | (go_at_call 36; (with_reducible refine (do_ac a1 cap1 k key old val w1 hs1 _ HD.out).mono ?_); rintro e w2 ⟨⟨v2, rfl, hown2⟩, hb2⟩; have hB2 := (hb2.block w0.heap.size hq3).trans hB1; obtain ⟨g0, g1, g2, g3, g4, g5⟩ := trio hB2; have hg2 := Nat.le_of_lt hsz0; have hz2 : w1.heap.size ≤ w2.heap.size := hb2.size; have hx2 : Below w.heap.size w w2 := hx1.trans (hb2.mono (Nat.le_of_lt hq1)); have ho2 : w2.ownsRow w.heap.size 74 2 v2 l'.length (prs l') := owns_mono hown2 (Nat.le_of_lt hq1); have hne2 : v2.ownBlock ≠ some w0.heap.size := (fun e => absurd (hown2.lt _ e).1 (by omega)); unfold rpV)
      | (go_at_call 36; (with_reducible refine (do_ac a1 cap1 k key old val w1 hs1 _ HD.out).mono ?_); rintro e w2 ⟨⟨v2, rfl, hown2⟩, hb2⟩; have hz2 : w1.heap.size ≤ w2.heap.size := hb2.size; have hx2 : Below w.heap.size w w2 := hx1.trans (hb2.mono (Nat.le_of_lt hq1)); have ho2 : w2.ownsRow w.heap.size 74 2 v2 l'.length (prs l') := owns_mono hown2 (Nat.le_of_lt hq1); unfold rpV)
      | (go_at_call 36; (with_reducible refine (do_ac a1 cap1 k key old val (w1.alloc (Obj.cells #[.int .i64 0, .bool false, .string ⟨#[]⟩] 43)) (hs1.below (below1 w1 _)) _ HD.out).mono ?_); rintro e w2 ⟨⟨v2, rfl, hown2⟩, hb2⟩; have hB2 := (hb2.block w1.heap.size (by simp)).trans (heap_alloc_new w1 _); obtain ⟨g0, g1, g2, g3, g4, g5⟩ := trio hB2; have hg2 := Nat.le_of_lt hq1; have hz2 : w1.heap.size + 1 ≤ w2.heap.size := Nat.le_trans (Nat.le_of_eq (by simp)) hb2.size; have hx2 : Below w.heap.size w w2 := (hx1.alloc (Nat.le_of_lt hq1) _).trans (hb2.mono (Nat.le_trans (Nat.le_of_lt hq1) (by simp))); have ho2 : w2.ownsRow w.heap.size 74 2 v2 l'.length (prs l') := owns_mono hown2 (Nat.le_trans (Nat.le_of_lt hq1) (by simp)); have hne2 : v2.ownBlock ≠ some w1.heap.size := (fun e => absurd (hown2.lt _ e).1 (by simp)); unfold rpV))
    all_goals
      go_wp2_with fail
      go_meet
      first | exact told_new ho2 hx2 | exact told_old ho2 hx2 hne2 hg2 hB2
  obtain ⟨g, hown, rfl, c0, c1, c2, hbx⟩ := hcut
  obtain ⟨a', cap', rfl, hsx⟩ := SlP.of_owns hown
  refine hK _ _ ?_; clear hK
  clear hown
  have HX := Lib.hid hsx
  clear hsx
  go_wp2_with (go_at_call 33; refine (may_any _ _ _ _ HX.out.row (by omega)).mono ?_; rintro e w9 ⟨rfl, hb9⟩; rw [HM.out])
  go_ret
  exact ⟨rfl, hbx.trans (hb9.mono hbx.size)⟩
end Go.Proofs.Ytmnjmjbmnhppfaa
