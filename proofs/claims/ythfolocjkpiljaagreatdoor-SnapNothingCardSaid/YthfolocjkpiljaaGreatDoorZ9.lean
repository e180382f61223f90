/- Texts that the claim leans on, part 9: D35, S1, S2, S3, Rng, Rng2, S4, Rng3. -/
import Derived.Test.YthfolocjkpiljaaGreatDoorZ1
import Derived.Test.YthfolocjkpiljaaGreatDoorZ2
import Derived.Test.YthfolocjkpiljaaGreatDoorZ3
import Derived.Test.YthfolocjkpiljaaGreatDoorZ4
import Derived.Test.YthfolocjkpiljaaGreatDoorZ5
import Derived.Test.YthfolocjkpiljaaGreatDoorZ6
import Derived.Test.YthfolocjkpiljaaGreatDoorZ7
import Derived.Test.YthfolocjkpiljaaGreatDoorZ8
import Derived.Test.YthfolocjkpiljaaGreatDoorRows
import Derived.WalkKit
import Derived.WalkSpells
import Derived.WalkLawsBesides
import Derived.Handy
import Derived.Deep.QuietTactic
import Derived.BigQuiet
import Derived.Deep.DeepCutAuto
import Derived.Lib.Hide
import Derived.RegionTactic
import Derived.ChangeAlike
import Derived.Laws.ResultCell
import Derived.Outline
import Derived.Lib.SliceRun
import Derived.IntWalk
import Derived.Carry
import Derived.Maps.Own
import Derived.Maps.Keyed
import Derived.RangeFuncNested
import Derived.RangeFuncBound
import Derived.RangeFuncCalls
import Derived.RangeFuncLeaves
import Derived.RangeFuncBox
import Derived.RangeFuncRecord
import Derived.Shelf.Abstract
import Derived.Shelf.RegionOpen
import Derived.OwnWalkIn
import Derived.TacticsInMore
import Derived.LoopNIn
import Derived.LoopIn
import Derived.OrdersIn
import Derived.OrdersHeld
import Derived.Laws.MakeOwn
import Derived.Laws.BitsAllLaws
import Derived.Great.BuildSlice
import Derived.Great.FillDense
import Derived.Laws.Rows
import Derived.Deep.Quiet
import Derived.Deep.RegionHeld3
import Derived.ProofKit
import Derived.OpenShut
import Derived.Laws.CopyOwn
import Derived.Laws.CopyRow
import Derived.Laws.NewBlocks
import Derived.Deep.RegionLaw
namespace Go.Proofs.YthfolocjkpiljaaGreatDoor
open Go.RowKit

/-- Bytes that lie ahead in a block of their own, or none. -/
def OwnB (w : World) (base : Nat) (a : Option Addr) (c : Nat) (l : List UInt8) : Prop :=
  (a = none ∧ c = 0 ∧ l = []) ∨ ∃ g ys, a = some ⟨g, 0, none⟩ ∧ base ≤ g ∧ l.length ≤ c ∧ c ≤ maxLen ∧ w.heap[g]? = some (.cells (bys l ++ ys).toArray 5 (0, 0))
section
variable {w w' : World} {base c : Nat} {a : Option Addr} {l : List UInt8}
theorem OwnB.none (w : World) (base : Nat) : OwnB w base none 0 [] := .inl ⟨rfl, rfl, rfl⟩
theorem OwnB.below (h : OwnB w base a c l) (hb : Below w.heap.size w w') : OwnB w' base a c l := by
  rcases h with h | ⟨g, ys, h1, h2, h3, h4, h5⟩
  · exact .inl h
  · exact .inr ⟨g, ys, h1, h2, h3, h4, tr_bl hb h5⟩
theorem OwnB.kt {B : Nat} (h : OwnB w base a c l) (hk : Kt B w w') : OwnB w' base a c l := by
  rcases h with h | ⟨g, ys, h1, h2, h3, h4, h5⟩
  · exact .inl h
  · exact .inr ⟨g, ys, h1, h2, h3, h4, hk.ty _ _ _ h5 (by decide) (by decide) (by decide)⟩
theorem OwnB.st {j : Nat} {cs : Array Value} {T : TypeId} (h : OwnB w base a c l) (hg : w.grownBy w' (some j)) (hc : w.heap[j]? = some (.cells cs T (0, 0))) (hT : T ≠ 5) : OwnB w' base a c l := by
  rcases h with h | ⟨g, ys, h1, h2, h3, h4, h5⟩
  · exact .inl h
  · refine .inr ⟨g, ys, h1, h2, h3, h4, tr_st hg h5 ?_⟩
    rintro rfl
    rw [hc] at h5
    injection h5 with h5
    injection h5 with _ e
    exact hT e
theorem OwnB.mono {base' : Nat} (h : OwnB w base a c l) (hb : base' ≤ base) : OwnB w base' a c l := by
  rcases h with h | ⟨g, ys, h1, h2, h⟩
  · exact .inl h
  · exact .inr ⟨g, ys, h1, Nat.le_trans hb h2, h⟩
theorem OwnB.slb (h : OwnB w base a c l) : SlB w a c l := by
  rcases h with ⟨rfl, rfl, rfl⟩ | ⟨g, ys, rfl, h2, h3, h4, h5⟩
  · exact ⟨.inl rfl, Nat.le_refl _, by simp, fun _ => rfl⟩
  · refine ⟨Row.of_block h5 0 (fun i u hu => ?_), h3, h4, fun e => by cases e⟩
    rw [Nat.zero_add, List.getElem?_append_left (List.getElem?_eq_some_iff.1 hu).1]
    exact hu
/-- A row of one's own, its room cut off. -/
theorem OwnB.of_owns {v : Value} (h : w.ownsRow base 5 1 v l.length (bys l)) (hv : v ≠ .slice .none 0 0) : ∃ g cap, v = .slice (some ⟨g, 0, .none⟩) l.length cap ∧ l.length ≤ cap ∧ cap ≤ maxLen ∧ OwnB w base (some ⟨g, 0, .none⟩) l.length l := by
  rcases h.2 with ⟨h1, h2⟩ | ⟨g, cap, cur, h1, h2, h3, h4, h5, h6, h7⟩
  · exact absurd (by rw [h1]) hv
  · refine ⟨g, cap, h1, h4, h5, .inr ⟨g, cur.toList.drop (bys l).length, rfl, h2, Nat.le_refl _, Nat.le_trans h4 h5, ?_⟩⟩
    rw [Nat.mul_one] at h7
    have e : bys l ++ cur.toList.drop (bys l).length = cur.toList := by
      rw [bys_len, ← h7, List.take_append_drop]
    rw [e, Array.toArray_toList]
    exact h3
end
theorem drop_take_getN (l : List UInt8) (k n p q : Nat) (h : p + q ≤ n) : getN ((l.drop k).take n) p q = getN l (k + p) q := by
  unfold getN
  rw [List.drop_take, List.take_take, List.drop_drop, Nat.min_eq_left (by omega)]
theorem tagAt_sub (l : List UInt8) (k : Nat) : tagAt ((l.drop k).take 15) 0 = tagAt l k := by
  unfold tagAt
  rw [drop_take_getN l k 15 0 1 (by omega), drop_take_getN l k 15 (0 + 1) 1 (by omega), drop_take_getN l k 15 (0 + 2) 1 (by omega), drop_take_getN l k 15 (0 + 3) 6 (by omega), drop_take_getN l k 15 (0 + 9) 6 (by omega)]
  simp only [Nat.zero_add, Nat.add_zero]
/-- A part of a slice. -/
theorem SlB.sub {w : World} {b off cap : Nat} {l : List UInt8} (h : SlB w (some ⟨b, off, none⟩) cap l) (k n : Nat) (hk : k ≤ l.length) : SlB w (some ⟨b, off + k, none⟩) (cap - k) ((l.drop k).take n) := by
  have h1 := h.le
  have h2 := h.max
  refine ⟨?_, by rw [List.length_take, List.length_drop]; omega, by omega, fun e => by cases e⟩
  rcases h.row with h0 | ⟨b', off', e, hc⟩
  · have : l = [] := by cases l with | nil => rfl | cons x l => simp [bys] at h0
    subst this
    exact .inl (by simp [bys])
  · cases e
    refine .inr ⟨b, off + k, rfl, fun i u hu => ?_⟩
    rw [Nat.add_assoc]
    refine hc (k + i) u ?_
    have hi := (List.getElem?_eq_some_iff.1 hu).1
    rw [bys_len, List.length_take] at hi
    have e : bys ((l.drop k).take n) = ((bys l).drop k).take n := by simp [bys, List.map_take, List.map_drop]
    rw [e, List.getElem?_take_of_lt (by omega), List.getElem?_drop] at hu
    exact hu
theorem SlB.some_of {w : World} {a : Option Addr} {cap : Nat} {l : List UInt8} (h : SlB w a cap l) (hl : 0 < l.length) : ∃ b off, a = some ⟨b, off, none⟩ := by
  obtain ⟨b, off, e, _⟩ := h.row.at (k := 0) (by rw [bys_len]; exact hl)
  exact ⟨b, off, e⟩
set_option maxRecDepth 100000 in
theorem clone_any (ad : Addr) (cap : Nat) (l : List UInt8) (w : World) (hs : SlB w (some ad) cap l) (hl : l.length ≤ 1000) : Calls Tryz.prog 244 #[.slice (some ad) l.length cap] w fun e w' => (∃ g c, e = .returned (.slice (some ⟨g, 0, none⟩) l.length c) ∧ l.length ≤ c ∧ c ≤ maxLen ∧ OwnB w' w.heap.size (some ⟨g, 0, none⟩) l.length l) ∧ Below w.heap.size w w' := by
  have hq : (binOp .eql 34 (.slice (some ad) l.length cap) (.slice none 0 0)).run Tryz.prog w = .ok (.bool false) w := by
    have := Lib.run_eql_slice_nil (P := Tryz.prog) w 34 5 (some ad) l.length cap 0 0 Tryz.underlying34
    exact this
  go_enter Tryz.func244, Tryz.ntmps244
  refine wp_seq_k (fun K hK => ?_)
  have HK := Lib.hid hK
  clear hK
  go_wp2
  refine HK.out _ _ ?_
  clear HK
  refine wp_seq_k (fun K hK => ?_)
  have HK := Lib.hid hK
  clear hK
  go_wp2
  refine HK.out _ _ ?_
  clear HK
  clear hq
  have hbe := blw w (Obj.cells #[] 5)
  have ho := owns_empty w 5 1
  have hse := hs.below hbe
  cases l with
  | nil =>
    go_wp2_with (at_builtin; refine wpList_run rfl (exec_append _ _ _ _ rfl _ _ rfl rfl (run_append_nothing (P := Tryz.prog) _ 34 _ 5 elByte (some ⟨w.heap.size, 0, none⟩) 0 0 (Nat.le_refl _) (some ad) cap)) ?_)
    go_ret
    exact ⟨⟨w.heap.size, 0, rfl, Nat.le_refl _, by simp, .inr ⟨w.heap.size, [], rfl, Nat.le_refl _, Nat.le_refl _, by simp, heap_alloc_new w _⟩⟩, hbe⟩
  | cons x r =>
    have hpos : 0 < (x :: r).length := by simp
    generalize x :: r = l at *
    go_wp2_with (at_builtin; refine wpList_append_row rfl _ _ 34 5 elByte rfl w.heap.size _ 0 [] rfl ho (some ad) l.length cap (bys l) rfl (by rw [bys_len]; omega) hse.row bys_one (by omega) (by decide) hbe.size ?_; intro v4 w4 ho4 hb4)
    rw [Nat.zero_add, List.nil_append] at ho4
    obtain ⟨g, c, rfl, h1, h2, h3⟩ := OwnB.of_owns ho4 (by
      rintro rfl
      obtain ⟨g, cap, e, _⟩ := owns_some ho4 hpos
      cases e)
    go_ret
    exact ⟨⟨g, c, rfl, h1, h2, h3⟩, hbe.trans hb4⟩
end Go.Proofs.YthfolocjkpiljaaGreatDoor

namespace Go.Proofs.YthfolocjkpiljaaGreatDoor
open Go.RowKit

set_option maxRecDepth 100000 in
set_option maxHeartbeats 1000000 in
theorem kfits_any (k cnt : Int) (n : Nat) (hc : -1000 ≤ cnt ∧ cnt ≤ 1000) (w : World) : Calls Tryz.prog 264 #[.int .i64 k, .int .i64 cnt, .int .i64 (n : Int)] w fun e w' => e = .returned (.bool (fitsC k cnt n)) ∧ Below w.heap.size w w' := by
  unfold fitsC
  by_cases h1 : cnt < 1
  · rw [if_pos (by omega)]
    go_enter Tryz.func264, Tryz.ntmps264
    go_wp2
    go_ret
    exact ⟨rfl, by (repeat' (first | (with_reducible exact Below.refl _ _) | (with_reducible assumption) | (with_reducible refine Below.alloc ?_ ?_ _) | (with_reducible refine Below.drew ?_) | (with_reducible refine below_drewN ?_ _) | (with_reducible refine Below.setCell ?_ ?_ _) | (with_reducible refine Below.trans ?_ (by assumption)) | go_size))⟩
  by_cases h2 : 8 < cnt
  · rw [if_pos (by omega)]
    go_enter Tryz.func264, Tryz.ntmps264
    go_wp2
    go_ret
    exact ⟨rfl, by (repeat' (first | (with_reducible exact Below.refl _ _) | (with_reducible assumption) | (with_reducible refine Below.alloc ?_ ?_ _) | (with_reducible refine Below.drew ?_) | (with_reducible refine below_drewN ?_ _) | (with_reducible refine Below.setCell ?_ ?_ _) | (with_reducible refine Below.trans ?_ (by assumption)) | go_size))⟩
  by_cases h3 : k < 0
  · rw [if_pos (by omega)]
    go_enter Tryz.func264, Tryz.ntmps264
    go_wp2
    go_ret
    exact ⟨rfl, by (repeat' (first | (with_reducible exact Below.refl _ _) | (with_reducible assumption) | (with_reducible refine Below.alloc ?_ ?_ _) | (with_reducible refine Below.drew ?_) | (with_reducible refine below_drewN ?_ _) | (with_reducible refine Below.setCell ?_ ?_ _) | (with_reducible refine Below.trans ?_ (by assumption)) | go_size))⟩
  by_cases h4 : cnt ≤ k
  · rw [if_pos (by omega)]
    go_enter Tryz.func264, Tryz.ntmps264
    go_wp2
    go_ret
    exact ⟨rfl, by (repeat' (first | (with_reducible exact Below.refl _ _) | (with_reducible assumption) | (with_reducible refine Below.alloc ?_ ?_ _) | (with_reducible refine Below.drew ?_) | (with_reducible refine below_drewN ?_ _) | (with_reducible refine Below.setCell ?_ ?_ _) | (with_reducible refine Below.trans ?_ (by assumption)) | go_size))⟩
  by_cases h5 : 80 < n
  · rw [if_pos (by omega)]
    have h5' : (80 : Int) < n := by omega
    go_enter Tryz.func264, Tryz.ntmps264
    go_wp2
    go_ret
    exact ⟨rfl, by (repeat' (first | (with_reducible exact Below.refl _ _) | (with_reducible assumption) | (with_reducible refine Below.alloc ?_ ?_ _) | (with_reducible refine Below.drew ?_) | (with_reducible refine below_drewN ?_ _) | (with_reducible refine Below.setCell ?_ ?_ _) | (with_reducible refine Below.trans ?_ (by assumption)) | go_size))⟩
  rw [if_neg (by omega)]
  have h5' : ¬ (80 : Int) < n := by omega
  by_cases h6 : k = cnt - 1
  · rw [if_neg (by simpa using h6)]
    have h6' : (k == cnt - 1) = true := by simpa using h6
    clear h6
    by_cases h7 : 0 < n
    · have h7' : (0 : Int) < n := by omega
      go_enter Tryz.func264, Tryz.ntmps264
      go_wp2
      go_ret
      exact ⟨ret_bool (by simp), by (repeat' (first | (with_reducible exact Below.refl _ _) | (with_reducible assumption) | (with_reducible refine Below.alloc ?_ ?_ _) | (with_reducible refine Below.drew ?_) | (with_reducible refine below_drewN ?_ _) | (with_reducible refine Below.setCell ?_ ?_ _) | (with_reducible refine Below.trans ?_ (by assumption)) | go_size))⟩
    · have h7' : ¬ (0 : Int) < n := by omega
      go_enter Tryz.func264, Tryz.ntmps264
      go_wp2
      go_ret
      exact ⟨ret_bool (by rw [Bool.eq_iff_iff]; simp), by (repeat' (first | (with_reducible exact Below.refl _ _) | (with_reducible assumption) | (with_reducible refine Below.alloc ?_ ?_ _) | (with_reducible refine Below.drew ?_) | (with_reducible refine below_drewN ?_ _) | (with_reducible refine Below.setCell ?_ ?_ _) | (with_reducible refine Below.trans ?_ (by assumption)) | go_size))⟩
  · rw [if_pos h6]
    have h6' : (k == cnt - 1) = false := by simpa using h6
    have h8 : ((n : Int) == 80) = decide (n = 80) := by rw [Bool.eq_iff_iff]; simp; omega
    clear h6
    go_enter Tryz.func264, Tryz.ntmps264
    go_wp2
    go_ret
    exact ⟨ret_bool rfl, by (repeat' (first | (with_reducible exact Below.refl _ _) | (with_reducible assumption) | (with_reducible refine Below.alloc ?_ ?_ _) | (with_reducible refine Below.drew ?_) | (with_reducible refine below_drewN ?_ _) | (with_reducible refine Below.setCell ?_ ?_ _) | (with_reducible refine Below.trans ?_ (by assumption)) | go_size))⟩

/-- A number that is a byte. -/
theorem u8_nat (n : Int) (h1 : 0 ≤ n) (h2 : n ≤ 255) : ((UInt8.ofNat n.toNat).toNat : Int) = n := by
  have e : (UInt8.ofNat n.toNat).toNat = n.toNat := by simp; omega
  rw [e]; omega
set_option maxRecDepth 100000 in
set_option maxHeartbeats 1000000 in
theorem kprint_any (cnt : Int) (h1 : 1 ≤ cnt) (h2 : cnt ≤ 8) (a : Option Addr) (cap : Nat) (c : List UInt8) (hc : c.length ≤ 80) (w : World) (hs : SlB w a cap c) : Calls Tryz.prog 219 #[.int .i64 cnt, .slice a c.length cap] w fun e w' =>
    (∃ v, e = .returned (.tuple #[v, .int .i64 0]) ∧ w'.ownsRow w.heap.size 5 1 v (ckB cnt c).length (bys (ckB cnt c))) ∧ Below w.heap.size w w' := by
  have i1 : ¬ cnt < 1 := by omega
  have i2 : ¬ 8 < cnt := by omega
  have i3 : ¬ (80 : Int) < c.length := by omega
  have hlen : (ckB cnt c).length = 1 + c.length := by unfold ckB; rw [List.length_cons]; omega
  have hby : bys (ckB cnt c) = [Value.int .u8 cnt] ++ bys c := by
    have e := u8_nat cnt (by omega) (by omega)
    unfold ckB bys
    rw [List.map_cons]
    unfold byv
    rw [e]
    rfl
  rw [hlen, hby]
  clear hlen hby
  have W1 : IntKind.u8.wrap cnt = cnt := IntWalk.u8_in _ (by omega)
  have ho := owns_of_cur (w := w.alloc (.cells #[Value.int .u8 cnt] 5)) (base := w.heap.size) (n := 1) (cap := 1) (size := 1) (cur := [Value.int .u8 cnt]) (ys := [Value.int .u8 cnt]) (heap_alloc_new w _) (Nat.le_refl _) (Nat.le_refl _) (by decide) rfl rfl
  have hbe := blw w (Obj.cells #[Value.int .u8 cnt] 5)
  have hse := hs.below hbe
  go_enter Tryz.func219, Tryz.ntmps219
  refine wp_seq_k (fun K hK => ?_)
  have HK := Lib.hid hK
  clear hK
  go_wp2
  refine HK.out _ _ ?_
  clear HK
  refine wp_seq_k (fun K hK => ?_)
  have HK := Lib.hid hK
  clear hK
  go_wp2
  refine HK.out _ _ ?_
  clear HK
  go_wp2_with (at_builtin; refine wpList_append_row rfl _ _ 34 5 elByte rfl w.heap.size _ 1 [Value.int .u8 cnt] rfl ho a c.length cap (bys c) rfl (by rw [bys_len]; omega) hse.row bys_one (by omega) (by decide) hbe.size ?_; intro v4 w4 ho4 hb4)
  go_ret2
  exact ⟨⟨_, rfl, ho4⟩, hbe.trans hb4⟩
end Go.Proofs.YthfolocjkpiljaaGreatDoor

namespace Go.Proofs.YthfolocjkpiljaaGreatDoor
open Go.RowKit

/-- Bytes of one's own in a slice that may have more room than is told of. -/
def OwnS (w : World) (base : Nat) (a : Option Addr) (c : Nat) (l : List UInt8) : Prop := OwnB w base a l.length l ∧ l.length ≤ c ∧ c ≤ maxLen ∧ (a = none → c = 0)
section
variable {w w' : World} {base c : Nat} {a : Option Addr} {l : List UInt8}
theorem OwnS.slb (h : OwnS w base a c l) : SlB w a c l := ⟨h.1.slb.row, h.2.1, h.2.2.1, h.2.2.2⟩
theorem OwnS.below (h : OwnS w base a c l) (hb : Below w.heap.size w w') : OwnS w' base a c l := ⟨h.1.below hb, h.2⟩
theorem OwnS.kt {B : Nat} (h : OwnS w base a c l) (hk : Kt B w w') : OwnS w' base a c l := ⟨h.1.kt hk, h.2⟩
theorem OwnS.mono {base' : Nat} (h : OwnS w base a c l) (hb : base' ≤ base) : OwnS w base' a c l := ⟨h.1.mono hb, h.2⟩
end
/-- What Parse hands back. -/
def CkRes (base : Nat) (b : List UInt8) (e : Ending) (w' : World) : Prop :=
  ∃ a c, e = .returned (.tuple #[.int .i64 ((parseCk b).1 : Nat), .slice a (parseCk b).2.1.length c, .int .i64 (parseCk b).2.2]) ∧ OwnS w' base a c (parseCk b).2.1
theorem CkRes.err {base : Nat} {b : List UInt8} {w' : World} (h : parseCk b = (0, [], 120)) : CkRes base b (.returned (.tuple #[.int .i64 0, .slice none 0 0, .int .i64 120])) w' := by
  unfold CkRes
  rw [h]
  exact ⟨none, 0, rfl, OwnB.none _ _, Nat.le_refl _, by decide, fun _ => rfl⟩
set_option maxRecDepth 100000 in
set_option maxHeartbeats 1000000 in
theorem kparse_any (a : Option Addr) (cap : Nat) (b : List UInt8) (w : World) (hs : SlB w a cap b) (hl : b.length ≤ 1000) : Calls Tryz.prog 265 #[.slice a b.length cap] w fun e w' => CkRes w.heap.size b e w' ∧ Below w.heap.size w w' := by
  cases b with
  | nil =>
    have HP := Lib.hid (show parseCk [] = (0, [], 120) from rfl)
    have hz : (([] : List UInt8).length : Int) = 0 := rfl
    go_enter Tryz.func265, Tryz.ntmps265
    refine wp_seq_k (fun K hK => ?_)
    have HK := Lib.hid hK
    clear hK
    go_wp2
    refine HK.out _ _ ?_
    clear HK
    go_wp2_with fail
    go_ret3
    exact ⟨CkRes.err HP.out, by (repeat' (first | (with_reducible exact Below.refl _ _) | (with_reducible assumption) | (with_reducible refine Below.alloc ?_ ?_ _) | (with_reducible refine Below.drew ?_) | (with_reducible refine below_drewN ?_ _) | (with_reducible refine Below.setCell ?_ ?_ _) | (with_reducible refine Below.trans ?_ (by assumption)) | go_size))⟩
  | cons x c =>
    obtain ⟨bk, off, rfl, hcs⟩ := hs.row.at (k := 0) (by simp [bys])
    have hcl : (x :: c).length = c.length + 1 := List.length_cons
    have hx := hcs 0 (byv x) rfl
    rw [Nat.add_zero] at hx
    have hxv : byv x = .int .u8 (x.toNat : Int) := rfl
    rw [hxv] at hx
    clear hxv hcs
    have e0 : (((x :: c).length : Int) == 0) = false := by rw [beq_eq_false_iff_ne]; omega
    have hg1 : 1 ≤ (x :: c).length := by omega
    have hx255 : x.toNat < 256 := x.toNat_lt
    have W0 : IntKind.i64.wrap (x.toNat : Int) = x.toNat := IntWalk.i64_in _ (by omega)
    by_cases h1 : 80 < c.length
    · have HP := Lib.hid (show parseCk (x :: c) = (0, [], 120) by unfold parseCk; simp only; rw [if_pos (.inl h1)])
      have e1 : (81 : Int) < ((x :: c).length : Int) := by omega
      clear hcl h1
      generalize x :: c = l at *
      go_enter Tryz.func265, Tryz.ntmps265
      refine wp_seq_k (fun K hK => ?_)
      have HK := Lib.hid hK
      clear hK
      go_wp2
      refine HK.out _ _ ?_
      clear HK
      go_wp2_with fail
      go_ret3
      exact ⟨CkRes.err HP.out, by (repeat' (first | (with_reducible exact Below.refl _ _) | (with_reducible assumption) | (with_reducible refine Below.alloc ?_ ?_ _) | (with_reducible refine Below.drew ?_) | (with_reducible refine below_drewN ?_ _) | (with_reducible refine Below.setCell ?_ ?_ _) | (with_reducible refine Below.trans ?_ (by assumption)) | go_size))⟩
    have e1 : ¬ (81 : Int) < ((x :: c).length : Int) := by omega
    by_cases h2 : x.toNat < 1
    · have HP := Lib.hid (show parseCk (x :: c) = (0, [], 120) by unfold parseCk; simp only; rw [if_pos (.inr (.inl h2))])
      have e2 : (x.toNat : Int) < 1 := by omega
      clear hcl h1
      generalize x :: c = l at *
      go_enter Tryz.func265, Tryz.ntmps265
      refine wp_seq_k (fun K hK => ?_)
      have HK := Lib.hid hK
      clear hK
      go_wp2
      refine HK.out _ _ ?_
      clear HK
      go_wp2_with fail
      go_ret3
      exact ⟨CkRes.err HP.out, by (repeat' (first | (with_reducible exact Below.refl _ _) | (with_reducible assumption) | (with_reducible refine Below.alloc ?_ ?_ _) | (with_reducible refine Below.drew ?_) | (with_reducible refine below_drewN ?_ _) | (with_reducible refine Below.setCell ?_ ?_ _) | (with_reducible refine Below.trans ?_ (by assumption)) | go_size))⟩
    have e2 : ¬ (x.toNat : Int) < 1 := by omega
    by_cases h3 : 8 < x.toNat
    · have HP := Lib.hid (show parseCk (x :: c) = (0, [], 120) by unfold parseCk; simp only; rw [if_pos (.inr (.inr h3))])
      have e3 : (8 : Int) < (x.toNat : Int) := by omega
      clear hcl h1
      generalize x :: c = l at *
      go_enter Tryz.func265, Tryz.ntmps265
      refine wp_seq_k (fun K hK => ?_)
      have HK := Lib.hid hK
      clear hK
      go_wp2
      refine HK.out _ _ ?_
      clear HK
      go_wp2_with fail
      go_ret3
      exact ⟨CkRes.err HP.out, by (repeat' (first | (with_reducible exact Below.refl _ _) | (with_reducible assumption) | (with_reducible refine Below.alloc ?_ ?_ _) | (with_reducible refine Below.drew ?_) | (with_reducible refine below_drewN ?_ _) | (with_reducible refine Below.setCell ?_ ?_ _) | (with_reducible refine Below.trans ?_ (by assumption)) | go_size))⟩
    have e3 : ¬ (8 : Int) < (x.toNat : Int) := by omega
    have HP := Lib.hid (show parseCk (x :: c) = (x.toNat, c, 0) by unfold parseCk; simp only; rw [if_neg (by omega)])
    have hs1 := hs.sub 1 c.length (by omega)
    rw [List.drop_succ_cons, List.drop_zero, List.take_length] at hs1
    obtain ⟨ad, had, hs2⟩ : ∃ ad, (if cap = 1 then some (⟨bk, off, none⟩ : Addr) else some ⟨bk, off + 1, none⟩) = some ad ∧ SlB w (some ad) (cap - 1) c := by
      by_cases hc1 : cap = 1
      · refine ⟨_, if_pos hc1, ?_⟩
        have h0 : c.length = 0 := by have := hs.le; omega
        have h00 := List.eq_nil_of_length_eq_zero h0
        subst h00
        exact ⟨.inl rfl, by simp, hs1.max, fun e => by cases e⟩
      · exact ⟨_, if_neg hc1, hs1⟩
    have HA := Lib.hid had
    clear had hs1
    have HL := Lib.hid hcl
    have HB := Lib.hid hs.le
    have HM := Lib.hid h1
    clear hcl h1 h2 h3 hs
    generalize x :: c = l at *
    go_enter Tryz.func265, Tryz.ntmps265
    refine wp_seq_k (fun K hK => ?_)
    have HK := Lib.hid hK
    clear hK
    go_wp2
    refine HK.out _ _ ?_
    clear HK
    refine wp_seq_k (fun K hK => ?_)
    have HK := Lib.hid hK
    clear hK
    go_wp2
    refine HK.out _ _ ?_
    clear HK
    refine wp_seq_k (fun K hK => ?_)
    have HK := Lib.hid hK
    clear hK
    go_wp2_with fail
    have hbd := (Below.refl w.heap.size w).drew
    have s1 := hs2.below hbd
    have x1 := cell_later hbd hx
    refine wp_region_held_drew (S := fun w' => w'.cell? ⟨bk, off, none⟩ = some (.int .u8 (x.toNat : Int))) (by kernel_rfl) x1 (fun hS0 => ?_)
    generalize w.drew = x0 at *
    refine wpAnyH_take (i := 0) (oi := ⟨_, _, _, _, _, _⟩) (v := ?_) rfl (by kernel_rfl) (by kernel_rfl) (by kernel_rfl) (fun _ _ _ h => h) (Or.inl ⟨by rfl, ?_⟩) (by assumption) ?_
    rotate_left
    · intro wS hSw
      go_simp; (try with_reducible rfl)
    (try simp only [Act.put])
    (try simp only [List.setIfInBounds_toArray])
    (try simp only [List.set_cons_succ])
    (try simp only [List.set_cons_zero])
    refine wpAnyH_take (i := 1) (oi := ⟨_, _, _, _, _, _⟩) (v := ?_) rfl (by kernel_rfl) (by kernel_rfl) (by kernel_rfl) (fun _ _ _ h => h) (Or.inl ⟨by rfl, ?_⟩) (by assumption) ?_
    rotate_left
    · intro wS hSw
      go_simp; (try with_reducible rfl)
    (try simp only [Act.put])
    (try simp only [List.setIfInBounds_toArray])
    (try simp only [List.set_cons_succ])
    (try simp only [List.set_cons_zero])
    refine wpAnyH_take (i := 2) (oi := ⟨_, _, _, _, _, _⟩) (v := ?_) rfl (by kernel_rfl) (by kernel_rfl) (by kernel_rfl) (fun _ _ _ h => h) (Or.inl ⟨by rfl, ?_⟩) (by assumption) ?_
    rotate_left
    · intro wS hSw
      have c := hSw; go_simp; (try with_reducible rfl)
    (try simp only [Act.put])
    (try simp only [List.setIfInBounds_toArray])
    (try simp only [List.set_cons_succ])
    (try simp only [List.set_cons_zero])
    refine wpAnyH_take (i := 3) (oi := ⟨_, _, _, _, _, _⟩) (v := .int .i64 (x.toNat : Int)) rfl (by kernel_rfl) (by kernel_rfl) (by kernel_rfl) (fun _ _ _ h => h) (Or.inl ⟨by rfl, fun wS hSw => ?_⟩) (by assumption) ?_
    · go_simp
    (try simp only [Act.put])
    (try simp only [List.setIfInBounds_toArray])
    (try simp only [List.set_cons_succ])
    (try simp only [List.set_cons_zero])
    refine wpAnyH_take (i := 4) (oi := ⟨_, _, _, _, _, _⟩) (v := ?_) rfl (by kernel_rfl) (by kernel_rfl) (by kernel_rfl) (fun _ _ _ h => h) (Or.inl ⟨by rfl, ?_⟩) (by assumption) ?_
    rotate_left
    · intro wS hSw
      go_simp; (try with_reducible rfl)
    (try simp only [Act.put])
    (try simp only [List.setIfInBounds_toArray])
    (try simp only [List.set_cons_succ])
    (try simp only [List.set_cons_zero])
    refine wpAnyH_take (i := 5) (oi := ⟨_, _, _, _, _, _⟩) (v := .slice (some ad) c.length (cap - 1)) rfl (by kernel_rfl) (by kernel_rfl) (by kernel_rfl) (fun _ _ _ h => h) (Or.inl ⟨by rfl, fun wS hSw => ?_⟩) (by assumption) ?_
    · have hl0 := HL.out; go_simp; rw [if_pos (by omega), HA.out]
    (try simp only [Act.put])
    (try simp only [List.setIfInBounds_toArray])
    (try simp only [List.set_cons_succ])
    (try simp only [List.set_cons_zero])
    refine wpAnyH_ready (rs := [6]) (by kernel_rfl) (by simp) ?_
    refine AllReadyH.cons (o := ⟨_, _, _, _, _, _⟩) rfl (fun K' hK' => ?_) AllReadyH.nil
    refine (if_pos (by rfl)).mpr ?_
    go_simp
    refine (clone_any _ _ c _ s1 (by have := HM.out; omega)).mono ?_
    rintro e w2 ⟨⟨G, C, rfl, h1, h2, O2⟩, hb2⟩
    refine hK'.out _ _ (cell_later hb2 x1) (fun _ => ?_)
    clear hK'
    (try simp only [Act.put])
    (try simp only [List.setIfInBounds_toArray])
    (try simp only [List.set_cons_succ])
    (try simp only [List.set_cons_zero])
    refine wpAnyH_take (i := 7) (oi := ⟨_, _, _, _, _, _⟩) (v := ?_) rfl (by kernel_rfl) (by kernel_rfl) (by kernel_rfl) (fun _ _ _ h => h) (Or.inl ⟨by rfl, ?_⟩) (by assumption) ?_
    rotate_left
    · intro wS hSw
      go_simp; (try with_reducible rfl)
    (try simp only [Act.put])
    (try simp only [List.setIfInBounds_toArray])
    (try simp only [List.set_cons_succ])
    (try simp only [List.set_cons_zero])
    refine wpAnyH_take (i := 8) (oi := ⟨_, _, _, _, _, _⟩) (v := ?_) rfl (by kernel_rfl) (by kernel_rfl) (by kernel_rfl) (fun _ _ _ h => h) (Or.inl ⟨by rfl, ?_⟩) (by assumption) ?_
    rotate_left
    · intro wS hSw
      go_simp; (try with_reducible rfl)
    (try simp only [Act.put])
    (try simp only [List.setIfInBounds_toArray])
    (try simp only [List.set_cons_succ])
    (try simp only [List.set_cons_zero])
    refine wpAnyH_take (i := 9) (oi := ⟨_, _, _, _, _, _⟩) (v := ?_) rfl (by kernel_rfl) (by kernel_rfl) (by kernel_rfl) (fun _ _ _ h => h) (Or.inl ⟨by rfl, ?_⟩) (by assumption) ?_
    rotate_left
    · intro wS hSw
      go_simp; (try with_reducible rfl)
    (try simp only [Act.put])
    (try simp only [List.setIfInBounds_toArray])
    (try simp only [List.set_cons_succ])
    (try simp only [List.set_cons_zero])
    refine wpAnyH_done (by kernel_rfl) ?_ _
    refine HK.out _ _ ?_
    clear HK
    go_wp2
    go_ret3
    refine ⟨?_, hbd.trans (hb2.mono hbd.size)⟩
    unfold CkRes
    rw [HP.out]
    exact ⟨_, _, rfl, O2.mono hbd.size, h1, h2, fun e => by cases e⟩
end Go.Proofs.YthfolocjkpiljaaGreatDoor

namespace Go.Proofs.YthfolocjkpiljaaGreatDoor
open Go.RowKit Go.Maps

theorem wp_append_row {P : Program} {w : World} {o : Oper} {a : Act} {K : Act → World → Prop} {Q : Exit → Act → World → Prop} (s x : Operand) (t e : TypeId) {size bytes : Nat} (hT : ElemT P t e size bytes)
    (ho : o.op = .call { callee := .builtin .append, args := #[s, x], argTypes := #[t, t] })
    (base : Nat) (v : Value) (n : Nat) (xs : List Value) (hs : a.eval s = v) (hown : w.ownsRow base e size v n xs)
    (ad : Option Addr) (m c : Nat) (news : List Value) (hx : a.eval x = .slice ad m c) (hl : news.length = m * size) (hrow : Row w ad news) (h1 : ∀ u ∈ news, u.oneCell' = true)
    (hn : n + m ≤ 4294967296) (hby : bytes ≤ 4096) (hbase : base ≤ w.heap.size)
    (h : ∀ v' w', w'.ownsRow base e size v' (n + m) (xs ++ news) → Below base w w' → w.grownBy w' v.ownBlock → K (a.put o.dst v') w') : o.wp P a w K Q := by
  by_cases hm : m = 0
  · subst hm
    have hnil : news = [] := List.eq_nil_of_length_eq_zero (by simpa using hl)
    subst hnil
    obtain ⟨ba, cap, hv, _, hnc, _⟩ := Row.of_owns hown
    subst hv
    refine wp_run (exec_append s x t t ho _ _ hs hx (run_append_nothing (P := P) w t o.type e hT ba n cap hnc ad c)) (h _ _ ?_ (Below.refl _ _) (World.grownBy.refl _ _))
    simpa using hown
  · obtain ⟨i, z, ht, hi, hz, hsize, hbytes, hzs, hsz⟩ := hT.ex
    have hpos : 0 < news.length := by rw [hl]; exact Nat.mul_pos (by omega) hsz
    obtain ⟨b, off, rfl, hc⟩ := hrow.at hpos
    refine wp_appN s x t t e e hT ht ho base v n xs hs hown ⟨b, off, none⟩ m c news hx hl (fun j u hj => ?_) h1 hn hby hbase (fun v' w' h2 h3 => h v' w' h2 (gb_to_below h3 hbase fun k e => ?_) h3)
    · rw [addr_add]
      exact hc j u hj
    · rcases hown.2 with ⟨e2, _⟩ | ⟨g, cap, cur, e2, h5, _⟩
      · rw [e2] at e; cases e
      · rw [e2] at e; simp [Value.ownBlock] at e; omega
theorem wp_mapUpdate_own {H : Type} {P : Program} {w : World} {o : Oper} {a : Act} {K : Act → World → Prop} {Q : Exit → Act → World → Prop}
    (m x v : Operand) (t : TypeId) (hop : o.op = Op.mapUpdate t m x v)
    (k e : TypeId) (Kd : Keyed P k) (ht : P.underlying t = some (.map k e)) (R : Value → Option (DataW H × List MemPlace)) (b n : Nat) (D : DataW H)
    (hm : a.eval m = .map (some b)) (hown : w.ownsMap P k R b n D) (hn : n < maxLen) (key val : Value) (kl : Lit) (hx : a.eval x = key) (hv : a.eval v = val) (hkey : keyOf P k key = some kl)
    (d : DataW H) (ps : List MemPlace) (hval : R val = some (d, ps))
    (hK : ∀ w', w'.ownsMap P k R b (n + 1) (D.put kl d) → w.grownBy w' (some b) → K (a.put o.dst undef) w') : o.wp P a w K Q := by
  obtain ⟨w', hrun, r1, r2⟩ := hown.update Kd ht hn hkey hval
  unfold Oper.wp
  simp [execOp, hop, hm, hx, hv, hrun, Result.andThen]
  exact hK w' r1 r2
/-- How a heap's chunks read: not at all. -/
def mute (_ : Value) : Option (DataW Unit × List MemPlace) := some (.lit (.bool true), [])
/-- A heap of chunks in memory. -/
structure HpB (w : World) (q m : Nat) (cnt : Int) (D : DataW Unit) (n : Nat) : Prop where
  box : w.heap[q]? = some (.cells #[.int .i64 cnt, .map (some m)] 359 (0, 0))
  map : w.ownsMap Tryz.prog 3 mute m n D
theorem HpB.below {w w' : World} {q m n : Nat} {cnt : Int} {D : DataW Unit} (h : HpB w q m cnt D n) (hb : Below w.heap.size w w') : HpB w' q m cnt D n :=
  ⟨tr_bl hb h.box, h.map.kept (gb_of_below hb none) (by simp)⟩
set_option maxRecDepth 100000 in
theorem hnone_any {w : World} {q m n : Nat} {cnt : Int} {D : DataW Unit} (h : HpB w q m cnt D n) (hc : 1 ≤ cnt) : Calls Tryz.prog 263 #[.pointer (some ⟨q, 0, none⟩)] w fun e w' => e = .returned (.bool false) ∧ w = w' := by
  have c0 := blk_cell h.box 0 _ rfl
  have e0 : (cnt == 0) = false := by rw [beq_eq_false_iff_ne]; omega
  go_enter Tryz.func263, Tryz.ntmps263
  go_wp2
  go_ret
  exact ⟨ret_bool rfl, rfl⟩
set_option maxRecDepth 100000 in
theorem knew_bad (cnt : Int) (w : World) (h : cnt < 1 ∨ 8 < cnt) : Calls Tryz.prog 226 #[.int .i64 cnt] w fun e w' => e = .returned (.tuple #[.pointer none, .int .i64 2]) ∧ w = w' := by
  by_cases h1 : cnt < 1
  · go_enter Tryz.func226, Tryz.ntmps226
    go_wp2
    go_ret2
    exact ⟨rfl, rfl⟩
  · have h2 : 8 < cnt := by omega
    go_enter Tryz.func226, Tryz.ntmps226
    go_wp2
    go_ret2
    exact ⟨rfl, rfl⟩
set_option maxRecDepth 100000 in
theorem knew_ok (cnt : Int) (w : World) (h1 : 1 ≤ cnt) (h2 : cnt ≤ 8) : Calls Tryz.prog 226 #[.int .i64 cnt] w fun e w' => (∃ q m, e = .returned (.tuple #[.pointer (some ⟨q, 0, none⟩), .int .i64 0]) ∧ w.heap.size ≤ q ∧ w.heap.size ≤ m ∧ HpB w' q m cnt (.map []) 0) ∧ Below w.heap.size w w' := by
  have i1 : ¬ cnt < 1 := by omega
  have i2 : ¬ 8 < cnt := by omega
  have hmm := @run_makeMap Tryz.prog
  have hm0 := World.ownsMap_made (H := Unit) w Tryz.prog 3 mute
  go_enter Tryz.func226, Tryz.ntmps226
  refine wp_seq_k (fun K hK => ?_)
  have HK := Lib.hid hK
  clear hK
  go_wp2
  refine HK.out _ _ ?_
  clear HK
  refine wp_seq_k (fun K hK => ?_)
  have HK := Lib.hid hK
  clear hK
  go_wp2
  refine HK.out _ _ ?_
  clear HK
  go_wp2
  go_ret2
  have hbx := heap_alloc_new (w.alloc (.map #[] 0)) (.cells #[.int .i64 cnt, .map (some w.heap.size)] 359)
  rw [show (w.alloc (.map #[] 0)).heap.size = w.heap.size + 1 by simp] at hbx
  exact ⟨⟨w.heap.size + 1, w.heap.size, rfl, Nat.le_succ _, Nat.le_refl _, ⟨hbx, hm0.alloc _⟩⟩, by (repeat' (first | (with_reducible exact Below.refl _ _) | (with_reducible assumption) | (with_reducible refine Below.alloc ?_ ?_ _) | (with_reducible refine Below.drew ?_) | (with_reducible refine below_drewN ?_ _) | (with_reducible refine Below.setCell ?_ ?_ _) | (with_reducible refine Below.trans ?_ (by assumption)) | go_size))⟩
set_option maxRecDepth 100000 in
theorem kput_any {w : World} {q m n : Nat} {cnt : Int} {D : DataW Unit} (h : HpB w q m cnt D n) (h1 : 1 ≤ cnt) (h2 : cnt ≤ 8) (hn : n < 1000) (b : Nat) (hbm : b ≤ m) (hbw : b ≤ w.heap.size) (k : Int) (a : Option Addr) (cap : Nat) (c : List UInt8) (hs : SlB w a cap c) :
    Calls Tryz.prog 227 #[.pointer (some ⟨q, 0, none⟩), .int .i64 k, .slice a c.length cap] w fun e w' => e = .returned (.int .i64 (if fitsC k cnt c.length = true then 0 else 2)) ∧ Below b w w' := by
  have c0 := blk_cell h.box 0 _ rfl
  have hno := fun w (h : HpB w q m cnt D n) => hnone_any h h1
  have hfi := fun w => kfits_any k cnt c.length (by omega) w
  cases hf : fitsC k cnt c.length
  case false =>
    rw [if_neg (by simp)]
    rw [hf] at hfi
    clear hf
    go_enter Tryz.func227, Tryz.ntmps227
    go_wp2_with (first
      | (go_at_call 263; refine (hno _ h).mono ?_; rintro e w1 ⟨rfl, rfl⟩)
      | (go_at_call 264; refine (hfi _).mono ?_; rintro e w2 ⟨rfl, hb2⟩))
    go_ret
    exact ⟨rfl, hb2.mono hbw⟩
  case true =>
    rw [if_pos rfl]
    have hc80 : c.length ≤ 80 ∧ 0 ≤ k ∧ k ≤ 8 := by
      unfold fitsC at hf
      split at hf
      · cases hf
      · omega
    rw [hf] at hfi
    clear hf
    go_enter Tryz.func227, Tryz.ntmps227
    refine wp_seq_k (fun K hK => ?_)
    have HK := Lib.hid hK
    clear hK
    go_wp2
    refine HK.out _ _ ?_
    clear HK
    refine wp_seq_k (fun K hK => ?_)
    have HK := Lib.hid hK
    clear hK
    go_wp2_with (first
          | (go_at_call 263; refine (hno _ h).mono ?_; rintro e w1 ⟨rfl, rfl⟩)
          | (go_at_call 264; refine (hfi _).mono ?_; rintro e w2 ⟨rfl, hb2⟩))
    refine HK.out _ _ ?_
    clear HK
    have h3 := h.below hb2
    have s3 := hs.below hb2
    have hbb := hb2.mono hbw
    clear hno hfi hs c0
    refine wp_seq_k (fun K hK => ?_)
    have HK := Lib.hid hK
    clear hK
    go_wp2_with fail
    have hbd := (Below.refl w2.heap.size w2).drew
    have h4 := h3.below hbd
    have s4 := s3.below hbd
    have hB2 : b ≤ w2.heap.size := Nat.le_trans hbw hbb.size
    have hb4 := hbb.trans (hbd.mono hB2)
    have c1 := blk_cell h4.box 1 _ rfl
    refine wp_region_held_drew (S := fun w' => w'.cell? ⟨q, 1, none⟩ = some (.map (some m))) (by kernel_rfl) c1 (fun hS0 => ?_)
    generalize w2.drew = x0 at *
    refine wpAnyH_take (i := 0) (oi := ⟨_, _, _, _, _, _⟩) (v := ?_) rfl (by kernel_rfl) (by kernel_rfl) (by kernel_rfl) (fun _ _ _ h => h) (Or.inl ⟨by rfl, ?_⟩) (by assumption) ?_
    rotate_left
    · intro wS hSw
      go_simp; (try with_reducible rfl)
    (try simp only [Act.put])
    (try simp only [List.setIfInBounds_toArray])
    (try simp only [List.set_cons_succ])
    (try simp only [List.set_cons_zero])
    refine wpAnyH_take (i := 1) (oi := ⟨_, _, _, _, _, _⟩) (v := ?_) rfl (by kernel_rfl) (by kernel_rfl) (by kernel_rfl) (fun _ _ _ h => h) (Or.inl ⟨by rfl, ?_⟩) (by assumption) ?_
    rotate_left
    · intro wS hSw
      go_simp; (try with_reducible rfl)
    (try simp only [Act.put])
    (try simp only [List.setIfInBounds_toArray])
    (try simp only [List.set_cons_succ])
    (try simp only [List.set_cons_zero])
    refine wpAnyH_take (i := 2) (oi := ⟨_, _, _, _, _, _⟩) (v := ?_) rfl (by kernel_rfl) (by kernel_rfl) (by kernel_rfl) (fun _ _ _ h => h) (Or.inl ⟨by rfl, ?_⟩) (by assumption) ?_
    rotate_left
    · intro wS hSw
      go_simp; (try with_reducible rfl)
    (try simp only [Act.put])
    (try simp only [List.setIfInBounds_toArray])
    (try simp only [List.set_cons_succ])
    (try simp only [List.set_cons_zero])
    refine wpAnyH_take (i := 3) (oi := ⟨_, _, _, _, _, _⟩) (v := ?_) rfl (by kernel_rfl) (by kernel_rfl) (by kernel_rfl) (fun _ _ _ h => h) (Or.inl ⟨by rfl, ?_⟩) (by assumption) ?_
    rotate_left
    · intro wS hSw
      have c := hSw; go_simp; (try with_reducible rfl)
    (try simp only [Act.put])
    (try simp only [List.setIfInBounds_toArray])
    (try simp only [List.set_cons_succ])
    (try simp only [List.set_cons_zero])
    refine wpAnyH_take (i := 4) (oi := ⟨_, _, _, _, _, _⟩) (v := ?_) rfl (by kernel_rfl) (by kernel_rfl) (by kernel_rfl) (fun _ _ _ h => h) (Or.inl ⟨by rfl, ?_⟩) (by assumption) ?_
    rotate_left
    · intro wS hSw
      go_simp; (try with_reducible rfl)
    (try simp only [Act.put])
    (try simp only [List.setIfInBounds_toArray])
    (try simp only [List.set_cons_succ])
    (try simp only [List.set_cons_zero])
    refine wpAnyH_take (i := 6) (oi := ⟨_, _, _, _, _, _⟩) (v := ?_) rfl (by kernel_rfl) (by kernel_rfl) (by kernel_rfl) (fun _ _ _ h => h) (Or.inl ⟨by rfl, ?_⟩) (by assumption) ?_
    rotate_left
    · intro wS hSw
      go_simp; (try with_reducible rfl)
    (try simp only [Act.put])
    (try simp only [List.setIfInBounds_toArray])
    (try simp only [List.set_cons_succ])
    (try simp only [List.set_cons_zero])
    refine wpAnyH_ready (rs := [5]) (by kernel_rfl) (by simp) ?_
    refine AllReadyH.cons (o := ⟨_, _, _, _, _, _⟩) rfl (fun K' hK' => ?_) AllReadyH.nil
    refine (if_pos (by rfl)).mpr ?_
    go_simp
    have ho := owns_empty x0 5 1
    have hba := blw x0 (Obj.cells #[] 5)
    have s5 := s4.below hba
    refine hK'.out _ _ (cell_later hba c1) (fun _ => ?_)
    clear hK'
    (try simp only [Act.put])
    (try simp only [List.setIfInBounds_toArray])
    (try simp only [List.set_cons_succ])
    (try simp only [List.set_cons_zero])
    refine wpAnyH_ready (rs := [7]) (by kernel_rfl) (by simp) ?_
    refine AllReadyH.cons (o := ⟨_, _, _, _, _, _⟩) rfl (fun K' hK' => ?_) AllReadyH.nil
    refine (if_pos (by rfl)).mpr ?_
    refine wp_append_row _ _ 34 5 elByte rfl x0.heap.size _ 0 [] rfl ho a c.length cap (bys c) rfl (by rw [bys_len]; omega) s5.row bys_one (by omega) (by decide) hba.size ?_
    intro v6 w6 ho6 hb6 hg6
    have hb7 := hba.trans hb6
    have h6 := h4.below hb7
    refine hK'.out _ _ (cell_later hb7 c1) (fun _ => ?_)
    clear hK'
    (try simp only [Act.put])
    (try simp only [List.setIfInBounds_toArray])
    (try simp only [List.set_cons_succ])
    (try simp only [List.set_cons_zero])
    refine wpAnyH_ready (rs := [8]) (by kernel_rfl) (by simp) ?_
    refine AllReadyH.cons (o := ⟨_, _, _, _, _, _⟩) rfl (fun K' hK' => ?_) AllReadyH.nil
    refine (if_pos (by rfl)).mpr ?_
    refine wp_mapUpdate_own _ _ _ 357 rfl 3 34 (int_keyed Tryz.underlying3) Tryz.underlying357 mute m n D rfl h6.map (by unfold maxLen; omega) (.int .i64 k) v6 (.int .i64 k) rfl rfl (keyOf_int_mk Tryz.underlying3 (by simp only [Lit.wf, IntKind.min, IntKind.max, IntKind.signed, IntKind.bits, Bool.and_eq_true, decide_eq_true_eq, if_true]; omega)) (.lit (.bool true)) [] rfl ?_
    intro w7 hm7 hg7
    have h4b := blk_cell h6.box 1 _ rfl
    have hb8 := (hb4.trans (hb7.mono (Nat.le_trans hB2 hbd.size))).grown hg7 (Nat.le_trans hB2 (Nat.le_trans hbd.size hb7.size)) (fun j e => by cases e; exact hbm)
    refine hK'.out _ _ (blk_cell (tr_st hg7 h6.box ?_) 1 _ rfl) (fun _ => ?_)
    · rintro rfl
      obtain ⟨es, cl, hh, _⟩ := h6.map
      rw [h6.box] at hh
      cases hh
    clear hK'
    (try simp only [Act.put])
    (try simp only [List.setIfInBounds_toArray])
    (try simp only [List.set_cons_succ])
    (try simp only [List.set_cons_zero])
    refine wpAnyH_done (by kernel_rfl) ?_ _
    refine HK.out _ _ ?_
    clear HK
    go_wp2
    go_ret
    exact ⟨rfl, hb8⟩
set_option maxRecDepth 100000 in
theorem sfits_any (k cnt : Int) (a : Option Addr) (cap : Nat) (c : List UInt8) (w : World) (hs : SlB w a cap c) : Calls Tryz.prog 157 #[.int .i64 k, .int .i64 cnt, .slice a c.length cap] w fun e w' => e = .returned (.bool (fitsC k cnt c.length)) ∧ Below w.heap.size w w' := by
  by_cases hb : cnt < 1 ∨ 8 < cnt
  · have hf : fitsC k cnt c.length = false := by unfold fitsC; rw [if_pos (by omega)]
    rw [hf]
    clear hf
    go_enter Tryz.func157, Tryz.ntmps157
    go_wp2_with (go_at_call 226; refine (knew_bad cnt _ hb).mono ?_; rintro e w1 ⟨rfl, rfl⟩)
    go_ret
    exact ⟨rfl, Below.refl _ _⟩
  · have h1 : 1 ≤ cnt := by omega
    have h2 : cnt ≤ 8 := by omega
    have hp := fun w1 q m (hb1 : Below w.heap.size w w1) (hm : w.heap.size ≤ m) (h : HpB w1 q m cnt (.map []) 0) => kput_any h h1 h2 (by omega) w.heap.size hm hb1.size k a cap c (hs.below hb1)
    have hn := knew_ok cnt w h1 h2
    clear hb h1 h2
    cases hf : fitsC k cnt c.length
    case true =>
      simp only [hf, if_true] at hp
      clear hf
      go_enter Tryz.func157, Tryz.ntmps157
      go_wp2_with (first
        | (go_at_call 226; refine hn.mono ?_; rintro e w1 ⟨⟨q, m, rfl, hq, hm, hh⟩, hb1⟩)
        | (go_at_call 227; refine (hp _ q m hb1 hm hh).mono ?_; rintro e w2 ⟨rfl, hb2⟩))
      go_ret
      exact ⟨rfl, hb1.trans hb2⟩
    case false =>
      simp only [hf] at hp
      clear hf
      go_enter Tryz.func157, Tryz.ntmps157
      go_wp2_with (first
        | (go_at_call 226; refine hn.mono ?_; rintro e w1 ⟨⟨q, m, rfl, hq, hm, hh⟩, hb1⟩)
        | (go_at_call 227; refine (hp _ q m hb1 hm hh).mono ?_; rintro e w2 ⟨rfl, hb2⟩))
      go_ret
      exact ⟨rfl, hb1.trans hb2⟩
end Go.Proofs.YthfolocjkpiljaaGreatDoor

namespace Go.Proofs.YthfolocjkpiljaaGreatDoor
open Go.RowKit

theorem calls_marks {P : Program} {f : FuncId} {fn : Func} {c : Code} {args : Array Value} {w : World} {R : Ending → World → Prop} (hf : P.funcs[f]? = some fn) (hb : fn.body = some c)
    (h : c.wp P (bodyPostM Fence.wide 3 P fn R) { tmps := args ++ Array.replicate (fn.ntmps - args.size) undef, defers := [] } w) : Calls P f args w R :=
  callsIn_wide.1 (callsIn_of_wp_marks (F := Fence.wide) (n := 3) hf hb trivial (wpIn_wide.2 h))
theorem wp_range {α : Type} {P : Program} {g : Operand} {ps : Array Tmp} {assign body : Code} {Q : Exit → Act → World → Prop} {a : Act} {w : World}
    {gf : Nat} {lb : Array Value} (hg : a.eval g = .func (.func gf) #[] lb) (eg : ∀ args w, (callFunc gf args).run P w = .ok (.enter gf args) w)
    {encs : α → Array Value} {Kp : World → World → Prop} {S Sp : List α → Prop} {N : Nat} (hseq : SeqStopsK Fence.wide 2 P gf lb encs Kp S Sp N w)
    (hKt : ∀ {A B C : World}, Kp A B → Kp B C → Kp A C) (hKb : ∀ (W : World) (l : Nat) (o o' : Obj), w.heap.size ≤ l → W.heap[l]? = some o → o.isCells = false → o.isWalk = false → Kp W (W.putObj l o')) (hps : ∀ x, (encs x).size = ps.size)
    (I : List α → World → Prop) (Ix : Code → List α → World → Prop) (hI : OwnFrom w.heap.size I) (hIx : ∀ c, OwnFrom w.heap.size (Ix c)) (h0 : I [] w) (a₁ : α → Act)
    (hassign : ∀ (l : Nat) (x : α) (W : World) (K : Act → World → Prop), K (a₁ x) W →
      assign.wpIn (Fence.wide.inRound l) (3 - 1 - 1) P (Exit.then K (fun _ _ _ => False)) { tmps := (ps.zip (encs x)).foldl (fun t (p, v) => t.setIfInBounds p v) a.tmps, defers := [] } W)
    (hbody : ∀ (l : Nat) (pre : List α) (x : α) (W : World), I pre W → pre.length < N → body.wpIn (Fence.wide.inRound l) (3 - 1 - 1) P (ownPostG w.heap.size Kp I Ix (pre ++ [x]) W) (a₁ x) W)
    (hdone : ∀ (D : Nat) (xs : List α) (W : World), w.heap.size ≤ D → S xs → I xs W → W.heap[D]? = some (.deferred (some [])) → Q .normal { a with defers := { target := .collected D, args := #[] } :: a.defers } W)
    (hstop : ∀ (D : Nat) (c : Code) (pre : List α) (W : World), w.heap.size ≤ D → Sp pre → Ix c pre W → W.heap[D]? = some (.deferred (some [])) → c.wp P Q { a with defers := { target := .collected D, args := #[] } :: a.defers } W) :
    (Code.rangeFunc g ps assign body).wp P Q a w :=
  wpIn_wide.1 (wpIn_rangeFunc_ownG (F := Fence.wide) (n := 3) rfl (by decide) hg trivial eg hseq hKt hKb (Below.refl _ _) hps I Ix hI hIx h0 a₁ hassign hbody hdone (fun D c pre W h1 h2 h3 h4 => wpIn_wide.2 (hstop D c pre W h1 h2 h3 h4)))
/-- A range that hands its loop no variable. -/
theorem wp_range_skip {α : Type} {P : Program} {g : Operand} {ps : Array Tmp} {body : Code} {Q : Exit → Act → World → Prop} {a : Act} {w : World}
    {gf : Nat} {lb : Array Value} (hg : a.eval g = .func (.func gf) #[] lb) (eg : ∀ args w, (callFunc gf args).run P w = .ok (.enter gf args) w)
    {encs : α → Array Value} {Kp : World → World → Prop} {S Sp : List α → Prop} {N : Nat} (hseq : SeqStopsK Fence.wide 2 P gf lb encs Kp S Sp N w)
    (hKt : ∀ {A B C : World}, Kp A B → Kp B C → Kp A C) (hKb : ∀ (W : World) (l : Nat) (o o' : Obj), w.heap.size ≤ l → W.heap[l]? = some o → o.isCells = false → o.isWalk = false → Kp W (W.putObj l o')) (hps : ∀ x, (encs x).size = ps.size)
    (I : List α → World → Prop) (Ix : Code → List α → World → Prop) (hI : OwnFrom w.heap.size I) (hIx : ∀ c, OwnFrom w.heap.size (Ix c)) (h0 : I [] w)
    (hbody : ∀ (l : Nat) (pre : List α) (x : α) (W : World), I pre W → pre.length < N → body.wpIn (Fence.wide.inRound l) (3 - 1 - 1) P (ownPostG w.heap.size Kp I Ix (pre ++ [x]) W) { tmps := (ps.zip (encs x)).foldl (fun t (p, v) => t.setIfInBounds p v) a.tmps, defers := [] } W)
    (hdone : ∀ (D : Nat) (xs : List α) (W : World), w.heap.size ≤ D → S xs → I xs W → W.heap[D]? = some (.deferred (some [])) → Q .normal { a with defers := { target := .collected D, args := #[] } :: a.defers } W)
    (hstop : ∀ (D : Nat) (c : Code) (pre : List α) (W : World), w.heap.size ≤ D → Sp pre → Ix c pre W → W.heap[D]? = some (.deferred (some [])) → c.wp P Q { a with defers := { target := .collected D, args := #[] } :: a.defers } W) :
    (Code.rangeFunc g ps .skip body).wp P Q a w :=
  wp_range hg eg hseq hKt hKb hps I Ix hI hIx h0 (fun x => { tmps := (ps.zip (encs x)).foldl (fun t (p, v) => t.setIfInBounds p v) a.tmps, defers := [] }) (fun _ _ _ _ hK => wpIn_skip hK) hbody hdone hstop
/-- What a round keeps: whatever lay below n, and four boxes from m on. -/
structure KpH (n m : Nat) (W W' : World) : Prop where
  bl : Below n W W'
  bx : ∀ k, m ≤ k → k < m + 4 → W'.heap[k]? = W.heap[k]?
theorem KpH.trans {n m : Nat} {A B C : World} (h : KpH n m A B) (k : KpH n m B C) : KpH n m A C := ⟨h.bl.trans k.bl, fun i h1 h2 => (k.bx i h1 h2).trans (h.bx i h1 h2)⟩
theorem KpH.put {n m : Nat} {w : World} (hn : n ≤ w.heap.size) (hm : m + 4 ≤ w.heap.size) (W : World) (l : Nat) (o o' : Obj) (hl : w.heap.size ≤ l) (h : W.heap[l]? = some o) (h1 : o.isCells = false) (h2 : o.isWalk = false) : KpH n m W (W.putObj l o') :=
  ⟨belowK_b hn W l o o' hl h h1 h2, fun k _ hk => (grownBy_putObj' W l o').block k (by have := (Array.getElem?_eq_some_iff.1 h).1; omega) (fun e => by cases e; omega)⟩
theorem KpH.below {n m : Nat} {W W' : World} (h : Below W.heap.size W W') (hn : n ≤ W.heap.size) (hm : m + 4 ≤ W.heap.size) : KpH n m W W' := ⟨h.mono hn, fun k _ hk => h.block k (by omega)⟩
theorem gb_none {w w' : World} (h : Below w.heap.size w w') : w.grownBy w' none := ⟨h.os, h.tape, h.output, h.size, fun i hi _ => h.block i hi⟩
theorem abides_bl {β : Type} {B : Nat} {J : β → World → Prop} (hJ : AbidesFrom B J) {s : β} {w w' : World} (hs : J s w) (h : Below w.heap.size w w') : J s w' := hJ s w w' none hs (gb_none h) (fun r e => by cases e)
theorem marks_ret {P : Program} {fn : Func} {R : Ending → World → Prop} {tmps : Array Value} {D : Nat} {v : Value} {w : World} (hK : w.heap[D]? = some (.deferred (some []))) (hres : (results fn tmps).run P (w.putObj D (.deferred none)) = .ok v (w.putObj D (.deferred none)))
    (hR : R (.returned v) (w.putObj D (.deferred none))) : bodyPostM Fence.wide 3 P fn R .ret { tmps := tmps, defers := [{ target := .collected D, args := #[] }] } w :=
  ⟨by simp, .inl ⟨_, _, rfl, run_takeDeferred hK, v, hres, hR⟩⟩
theorem marks_end {P : Program} {fn : Func} {R : Ending → World → Prop} {tmps : Array Value} {v : Value} {w : World} (hres : (results fn tmps).run P w = .ok v w) (hR : R (.returned v) w) : bodyPostM Fence.wide 3 P fn R .ret { tmps := tmps, defers := [] } w := ⟨v, hres, hR⟩
theorem below_mark {n D : Nat} {w W : World} (h : Below n w W) (hD : n ≤ D) : Below n w (W.putObj D (.deferred none)) :=
  h.trans ⟨rfl, rfl, rfl, by simp [World.putObj], fun k hk => World.putObj_heap_other (by omega)⟩
end Go.Proofs.YthfolocjkpiljaaGreatDoor

namespace Go.Proofs.YthfolocjkpiljaaGreatDoor
open Go.RowKit

/-- What a round keeps: whatever lay below n, and the iterator's own box. -/
structure KpB (n m : Nat) (A B : World) : Prop where
  bl : Below n A B
  bx : B.heap[m]? = A.heap[m]?
theorem KpB.trans {n m : Nat} {A B C : World} (h : KpB n m A B) (k : KpB n m B C) : KpB n m A C := ⟨h.bl.trans k.bl, k.bx.trans h.bx⟩
theorem KpB.put {n m : Nat} {W : World} {l : Nat} {o : Obj} (o' : Obj) (hn : n ≤ l) (hm : m < l) (h : W.heap[l]? = some o) : KpB n m W (W.putObj l o') := by
  have hl := (Array.getElem?_eq_some_iff.1 h).1
  exact ⟨(Below.refl n W).grown (grownBy_putObj' W l o') (by omega) (fun k e => by cases e; exact hn), (grownBy_putObj' W l o').block m (by omega) (fun e => by cases e; omega)⟩
/-- What a loop carries abides what the iterator does, and the book-keeping. -/
def Carry {α : Type} (B m : Nat) (I : List α → World → Prop) : Prop :=
  ∀ s A B' row, I s A → A.grownBy B' row → (∀ r, row = some r → r = m ∨ (B ≤ r ∧ ∃ o : Obj, A.heap[r]? = some o ∧ o.isCells = false)) → I s B'
theorem Carry.put {α : Type} {B m l : Nat} {I : List α → World → Prop} (h : Carry B m I) {s : List α} {W : World} {o : Obj} (o' : Obj) (hs : I s W) (hB : B ≤ l) (hl : W.heap[l]? = some o) (ho : o.isCells = false) : I s (W.putObj l o') :=
  h s W _ (some l) hs (grownBy_putObj' W l o') (fun r e => by cases e; exact .inr ⟨hB, o, hl, ho⟩)
theorem Carry.al {α : Type} {B m : Nat} {I : List α → World → Prop} (h : Carry B m I) {s : List α} {W : World} (o : Obj) (hs : I s W) : I s (W.alloc o) :=
  h s W _ none hs (World.grownBy_alloc W o none) (fun r e => by cases e)
theorem grown_at {A B : World} {row : Option Nat} {m k : Nat} {o : Obj} (hg : A.grownBy B row) (hr : ∀ r, row = some r → r = m) (hk : A.heap[k]? = some o) (hne : k ≠ m) : B.heap[k]? = some o :=
  (hg.block k (Array.getElem?_eq_some_iff.1 hk).1 (fun e => hne (hr k e.symm))).trans hk
theorem wp_range_box {α : Type} {P : Program} {g : Operand} {ps : Array Tmp} {assign body : Code} {Q : Exit → Act → World → Prop} {a : Act} {w : World}
    {gf : Nat} {lb : Array Value} (hg : a.eval g = .func (.func gf) #[] lb) (eg : ∀ args w, (callFunc gf args).run P w = .ok (.enter gf args) w)
    {encs : α → Array Value} {n m N : Nat} {S : List α → Prop} (hm : m < w.heap.size) (hn : n ≤ w.heap.size)
    (hseq : ∀ (l : Nat) (J : List α → World → Prop) (W : World), Below w.heap.size w W → (∀ s A B row, J s A → A.grownBy B row → (∀ r, row = some r → r = m) → J s B) →
      (∀ pre x W1, J pre W1 → pre.length < N → YieldAt Fence.wide 1 P l (encs x) W1 fun e W' => e = .returned (.bool true) ∧ J (pre ++ [x]) W' ∧ KpB n m W1 W') → J [] W →
      CallsIn Fence.wide 2 P gf (#[.func (.yield l) #[] #[]] ++ lb) W fun e W' => (∃ v, e = .returned v) ∧ ∃ xs, S xs ∧ J xs W')
    (hps : ∀ x, (encs x).size = ps.size) (I : List α → World → Prop) (hI : Carry w.heap.size m I) (h0 : I [] w) (a₁ : α → Act)
    (hassign : ∀ (l : Nat) (x : α) (W : World) (K : Act → World → Prop), K (a₁ x) W →
      assign.wpIn (Fence.wide.inRound l) 1 P (Exit.then K (fun _ _ _ => False)) { tmps := (ps.zip (encs x)).foldl (fun t (p, v) => t.setIfInBounds p v) a.tmps, defers := [] } W)
    (hbody : ∀ (l : Nat) (pre : List α) (x : α) (W : World), I pre W → pre.length < N → body.wpIn (Fence.wide.inRound l) 1 P (fun e _ W' => e = .normal ∧ KeepsFrom w.heap.size W W' ∧ KpB n m W W' ∧ I (pre ++ [x]) W') (a₁ x) W)
    (hdone : ∀ (D : Nat) (xs : List α) (W : World), w.heap.size ≤ D → S xs → I xs W → W.heap[D]? = some (.deferred (some [])) → Q .normal { a with defers := { target := .collected D, args := #[] } :: a.defers } W) :
    (Code.rangeFunc g ps assign body).wp P Q a w := by
  refine wpIn_wide.1 (wpIn_rangeFunc (F := Fence.wide) (n := 3) (fun fn hfn => ?_))
  obtain ⟨rec, hrec⟩ : ∃ rec : LoopState → Loop, rec = fun st => { state := st, pending := none, fn, tmps := a.tmps, params := ps, assign, body, defers := w.heap.size } := ⟨_, rfl⟩
  obtain ⟨D, hD⟩ : ∃ D, w.heap.size = D := ⟨_, rfl⟩
  have he := run_enterLoop_outer (P := P) (w := w) fn a.tmps ps assign body
  obtain ⟨W1, hW1⟩ : ∃ W1, (w.alloc (.deferred (some []))).alloc (.loop { state := .ready, pending := none, fn, tmps := a.tmps, params := ps, assign, body, defers := w.heap.size }) = W1 := ⟨_, rfl⟩
  rw [hW1] at he
  have hL1 : W1.heap[D + 1]? = some (.loop (rec .ready)) := by
    rw [← hW1, hrec]
    have := World.alloc_heap_new (w.alloc (.deferred (some []))) (.loop { state := .ready, pending := none, fn, tmps := a.tmps, params := ps, assign, body, defers := w.heap.size })
    rw [World.size_alloc, hD] at this
    rw [hD]
    exact this
  have hK1 : W1.heap[D]? = some (.deferred (some [])) := by
    rw [← hW1, ← hD]
    exact (Below.heap_alloc _ _ _ (by simp)).trans (World.alloc_heap_new w _)
  have hI1 : I [] W1 := by rw [← hW1]; exact hI.al _ (hI.al _ h0)
  have hb1 : Below w.heap.size w W1 := by
    rw [← hW1]
    exact ((Below.refl _ w).alloc (Nat.le_refl _) _).alloc (by simp) _
  rw [hD] at he
  refine ⟨D + 1, [{ target := .collected D, args := #[] }], W1, { target := .fn (.func gf) lb, args := #[.func (.yield (D + 1)) #[] #[]] }, W1, gf, #[.func (.yield (D + 1)) #[] #[]] ++ lb, W1, he, ?_, fun _ _ => trivial, ?_, fun _ => by decide, ?_⟩
  · simp only [resolve, hg]
    simp [go_sem]
  · simp [invoke, go_sem, eg]
  · refine (hseq (D + 1) (fun pre W => I pre W ∧ W.heap[D + 1]? = some (.loop (rec .ready)) ∧ W.heap[D]? = some (.deferred (some []))) W1 hb1 ?_ ?_ ⟨hI1, hL1, hK1⟩).mono ?_
    · rintro s A B row ⟨h1, h2, h3⟩ hgr hr
      exact ⟨hI s A B row h1 hgr (fun r e => .inl (hr r e)), grown_at hgr hr h2 (by omega), grown_at hgr hr h3 (by omega)⟩
    · rintro pre x W ⟨hi, hl, hk⟩ hlen
      have hy := run_yield (P := P) (args := encs x) hl (by rw [hrec]; exact hps x)
      rw [hrec] at hy
      refine ⟨fn, _, assign, body, hy, roundIn_of_wpIn hfn (hassign _ x W _ ?_)⟩
      refine ⟨_, run_beginRound hl (by rw [hrec]), ?_⟩
      have hlt := (Array.getElem?_eq_some_iff.1 hl).1
      have hl2 : (W.putObj (D + 1) (.loop { rec .ready with state := .busy })).heap[D + 1]? = some (.loop { rec .ready with state := .busy }) := World.putObj_heap_same hlt
      have hk2 : (W.putObj (D + 1) (.loop { rec .ready with state := .busy })).heap[D]? = some (.deferred (some [])) := (World.putObj_heap_other (by omega)).trans hk
      have hp2 : KpB n m W (W.putObj (D + 1) (.loop { rec .ready with state := .busy })) := KpB.put _ (by omega) (by omega) hl
      refine wpIn_mono (hbody _ pre x _ (hI.put _ hi (by omega) hl rfl) hlen) ?_
      rintro e a3 W3 ⟨rfl, hk3, hkp3, hi3⟩
      have hl3 := hk3.same _ _ (by omega) hl2 rfl
      have hd3 := hk3.same _ _ (by omega) hk2 rfl
      have hr := run_endRound (P := P) none hl3
      rw [hrec] at hr hl3
      refine ⟨_, _, hr, rfl, ⟨hI.put _ hi3 (by omega) hl3 rfl, ?_, (World.putObj_heap_other (by omega)).trans hd3⟩, (hp2.trans hkp3).trans (KpB.put _ (by omega) (by omega) hl3)⟩
      rw [hrec]
      exact World.putObj_heap_same (Array.getElem?_eq_some_iff.1 hl3).1
    · rintro e W2 ⟨⟨v, rfl⟩, xs, hS, hi, hl, hk⟩
      refine ⟨none, _, by have := run_endLoop (P := P) hl (by rw [hrec]; simp); rw [hrec] at this; exact this, ?_⟩
      exact hdone D xs _ (by omega) hS (hI.put _ hi (by omega) hl rfl) ((World.putObj_heap_other (by omega)).trans hk)
end Go.Proofs.YthfolocjkpiljaaGreatDoor

namespace Go.Proofs.YthfolocjkpiljaaGreatDoor
open Go.RowKit Go.Shelf

def adrC (a : Option Addr) (k : Nat) : Option Addr := a.map (·.add (80 * k))
def slC (a : Option Addr) (cap : Nat) (b : List UInt8) (k : Nat) : Value := .slice (adrC a k) (b.length - 80 * k) (cap - 80 * k)
/-- What the iterator hands over, of the chunk k. -/
def encC (a : Option Addr) (cap : Nat) (b : List UInt8) (k : Nat) : Array Value := #[.slice (adrC a k) (pcC b k).length (cap - 80 * k)]
theorem pcC_len (b : List UInt8) (k : Nat) : (pcC b k).length = min 80 (b.length - 80 * k) := by unfold pcC; rw [List.length_take, List.length_drop]
theorem adr_zero (a : Option Addr) : adrC a 0 = a := by
  cases a with
  | none => rfl
  | some x => simp [adrC, Addr.add]
theorem adr_some (bk off k : Nat) : adrC (some ⟨bk, off, none⟩) k = some ⟨bk, off + 80 * k, none⟩ := by simp [adrC, addr_add]
theorem piece_slb {w : World} {a : Option Addr} {cap : Nat} {b : List UInt8} (h : SlB w a cap b) (k : Nat) : SlB w (adrC a k) (cap - 80 * k) (pcC b k) := by
  by_cases hk : 80 * k < b.length
  · obtain ⟨bk, off, e⟩ := h.some_of (by omega)
    subst e
    rw [adr_some]
    exact h.sub (80 * k) 80 (by omega)
  · have h0 : pcC b k = [] := List.eq_nil_of_length_eq_zero (by rw [pcC_len]; omega)
    rw [h0]
    refine ⟨.inl rfl, Nat.zero_le _, by have := h.max; omega, fun e => ?_⟩
    cases a with
    | none => have := h.nil rfl; omega
    | some x => cases e
set_option maxRecDepth 100000 in
theorem pieces_any (a : Option Addr) (cap : Nat) (n : Nat) (w : World) : Calls Tryz.prog 217 #[.slice a n cap] w fun e w' =>
    e = .returned (.func (.func 261) #[] #[.pointer (some ⟨w.heap.size, 0, none⟩)]) ∧ Boxed w' w.heap.size 34 (.slice a n cap) ∧ Below w.heap.size w w' := by
  go_enter Tryz.func217, Tryz.ntmps217
  refine wp_seq_k (fun K hK => ?_)
  have HK := Lib.hid hK
  clear hK
  go_wp2
  refine HK.out _ _ ?_
  clear HK
  go_wp2
  go_ret
  exact ⟨rfl, Boxed.new _ _ _, by (repeat' (first | (with_reducible exact Below.refl _ _) | (with_reducible assumption) | (with_reducible refine Below.alloc ?_ ?_ _) | (with_reducible refine Below.drew ?_) | (with_reducible refine below_drewN ?_ _) | (with_reducible refine Below.setCell ?_ ?_ _) | (with_reducible refine Below.trans ?_ (by assumption)) | go_size))⟩
theorem boxed_kpb {n m : Nat} {A B : World} {t : TypeId} {v : Value} (h : Boxed A m t v) (hk : KpB n m A B) : Boxed B m t v := hk.bx.trans h
def lenOf (w : World) (m : Nat) : Nat := match w.cell? ⟨m, 0, none⟩ with | some (.slice _ n _) => n | _ => 0
theorem lenOf_eq {w : World} {m n c : Nat} {a : Option Addr} {t : TypeId} (h : Boxed w m t (.slice a n c)) : lenOf w m = n := by unfold lenOf; rw [h.cell]
set_option maxRecDepth 100000 in
set_option maxHeartbeats 1000000 in
theorem pieces_in (a : Option Addr) (cap : Nat) (b : List UInt8) (hle : b.length ≤ cap) (hmx : b.length ≤ 640) (ha : 0 < b.length → ∃ bk off, a = some ⟨bk, off, none⟩) (n m l N : Nat) (hN : numC b.length ≤ N) (J : List Nat → World → Prop) (W : World) (hbx : Boxed W m 34 (.slice a b.length cap))
    (hJ : ∀ s A B row, J s A → A.grownBy B row → (∀ r, row = some r → r = m) → J s B)
    (hY : ∀ pre x W1, J pre W1 → pre.length < N → YieldAt Fence.wide 1 Tryz.prog l (encC a cap b x) W1 fun e W' => e = .returned (.bool true) ∧ J (pre ++ [x]) W' ∧ KpB n m W1 W') (h0 : J [] W) :
    CallsIn Fence.wide 2 Tryz.prog 261 (#[.func (.yield l) #[] #[]] ++ #[.pointer (some ⟨m, 0, none⟩)]) W fun e W' => (∃ v, e = .returned v) ∧ ∃ xs, xs = List.range (numC b.length) ∧ J xs W' := by
  refine callsIn_of_wp Tryz.func261 rfl trivial ?_ rfl
  simp only [Tryz.ntmps261, List.size_toArray, List.length_cons, List.length_nil, Nat.reduceAdd, Nat.reduceSub, Array.replicate_succ, Array.replicate_zero, List.push_toArray, List.append_toArray, List.nil_append, List.cons_append]
  gi_wp2
  gi_loopw [] (fun wr => ∃ k : Nat, (k = 0 ∨ 80 * k < b.length) ∧ Boxed wr m 34 (slC a cap b k) ∧ J (List.range k) wr) (fun wr => lenOf wr m)
  case atStart => exact ⟨0, .inl rfl, by unfold slC; rw [adr_zero]; exact hbx, h0⟩
  case round =>
    obtain ⟨k, hk, hbr, hJs⟩ := hrel
    unfold slC at hbr
    have hlo := lenOf_eq hbr
    have hcell := hbr.cell
    have hfr := hbr.frozen
    have hmn : k + 1 ≤ numC b.length := by unfold numC; split <;> omega
    have hYk := hY (List.range k) k wr hJs (by rw [List.length_range]; omega)
    rw [← List.range_succ] at hYk
    obtain ⟨fn, tmps, assign, body, hy, hR⟩ := hYk
    by_cases hlt : 80 < b.length - 80 * k
    · have hk2 : k + 2 ≤ numC b.length := by unfold numC; split <;> omega
      obtain ⟨bk, off, rfl⟩ := ha (by omega)
      have he : encC (some ⟨bk, off, none⟩) cap b k = #[.slice (some ⟨bk, off + 80 * k, none⟩) 80 (cap - 80 * k)] := by
        unfold encC
        rw [adr_some, pcC_len, Nat.min_eq_left (by omega)]
      rw [he] at hy
      have hs2 : slC (some ⟨bk, off, none⟩) cap b (k + 1) = .slice (some ⟨bk, off + 80 * k + 80, none⟩) (b.length - 80 * k - 80) (cap - 80 * k - 80) := by
        unfold slC
        rw [adr_some, show off + 80 * (k + 1) = off + 80 * k + 80 by omega, show b.length - 80 * (k + 1) = b.length - 80 * k - 80 by omega, show cap - 80 * (k + 1) = cap - 80 * k - 80 by omega]
      rw [adr_some] at hbr hcell
      clear he
      have hc1 : 80 ≤ cap - 80 * k := by omega
      have hc2 : ¬ cap - 80 * k = 80 := by omega
      have hl2 : b.length - 80 * k ≤ cap - 80 * k := by omega
      generalize hr : b.length - 80 * k = r at *
      generalize hcc : cap - 80 * k = C at *
      have hI : (80 : Int) < (r : Int) := by omega
      gi_wp2
      refine hR.mono ?_
      rintro e W3 ⟨rfl, hJ3, hk3⟩
      have hb3 := boxed_kpb hbr hk3
      have hc3 := hb3.cell
      have hf3 := hb3.frozen
      clear hcell hfr hy hR
      gi_wp2
      go_roundw
      case rel => exact ⟨k + 1, .inr (by omega), by rw [hs2]; exact hb3.set _, hJ _ _ _ _ hJ3 (grownBy_setCell' _ _ _) (fun r e => by cases e; rfl)⟩
      case measure =>
        rw [hlo, lenOf_eq (hb3.set _)]
        omega
    · have hnk : numC b.length = k + 1 := by
        unfold numC
        split <;> omega
      have he : encC a cap b k = #[.slice (adrC a k) (b.length - 80 * k) (cap - 80 * k)] := by
        unfold encC
        rw [pcC_len, Nat.min_eq_right (by omega)]
      rw [he] at hy
      clear he
      generalize adrC a k = ad at *
      generalize hr : b.length - 80 * k = r at *
      generalize hcc : cap - 80 * k = C at *
      have hI : ¬ (80 : Int) < (r : Int) := by omega
      gi_wp2
      refine hR.mono ?_
      rintro e W3 ⟨rfl, hJ3, hk3⟩
      gi_wp2
      go_end0
      exact ⟨⟨_, rfl⟩, _, by rw [hnk], hJ3⟩
end Go.Proofs.YthfolocjkpiljaaGreatDoor

namespace Go.Proofs.YthfolocjkpiljaaGreatDoor
open Go.RowKit

section
variable {P : Program} {ops : Array Oper} {Q : Exit → Act → World → Prop} {md : Region.Mode}
theorem rows_in {n : Nat} {row : String} {args : Array Value} {w : World} {R : Value → World → Prop} (l : Nat) (h : Rows P row args w R) : RowsIn (Fence.wide.inRound l) n P row args w R :=
  fun c cs _ => let ⟨v, w', r, s⟩ := h c cs; ⟨v, w', r, stepsIn_wide.2 s⟩
theorem wp_in {o : Oper} {n l : Nat} {a : Act} {w : World} {K : Act → World → Prop} (hd : ∀ c, o.op ≠ .defer c) (h : o.wp P a w K Q) : o.wpIn (Fence.wide.inRound l) n P a w K Q := by
  refine ⟨fun _ _ => trivial, ?_⟩
  rw [Oper.semAt_plain _ _ _ hd]
  unfold Oper.wp at h
  generalize (execOp a.eval o).run P w = r at *
  cases r with
  | ok x w' =>
    cases x with
    | enter f args => exact ⟨fun hh => (by simp [Fence.wide] at hh), callsIn_wide.2 h⟩
    | row rw args => exact ⟨fun hh => (by simp [Fence.wide] at hh), rows_in l h⟩
    | _ => first | exact h | exact h.elim
  | halt x w' => cases x <;> first | exact h | exact h.elim
theorem any_in {n l : Nat} (hd : ∀ (i : Nat) (o : Oper), ops[i]? = some o → ∀ c, o.op ≠ .defer c) (hQ : ¬ LetsOut Q) : ∀ (fuel : Nat) (listed : Array Bool) (a : Act) (w : World), wpAny P md ops Q fuel listed a w → wpAnyIn (Fence.wide.inRound l) n P md ops Q fuel listed a w := by
  intro fuel
  induction fuel with
  | zero => intro listed a w h; exact h
  | succ fuel ih =>
    intro listed a w h
    refine ⟨h.1, fun i hi => ?_⟩
    have h1 := h.2 i hi
    unfold wpOp at h1
    unfold wpOpIn
    cases ho : ops[i]? with
    | none =>
      rw [ho] at h1
      exact ih _ _ _ h1
    | some o =>
      rw [ho] at h1
      simp only at h1 ⊢
      by_cases hw : Region.wanted o (yielded ops a.tmps) = true
      · rw [if_pos hw] at h1 ⊢
        rcases h1 with h1 | ⟨_, h2⟩
        · exact Oper.wpIn_mono (fun a w hh => ih _ a w hh) (wp_in (hd i o ho) h1)
        · exact (hQ h2).elim
      · rw [if_neg hw] at h1 ⊢
        exact ⟨fun _ _ => trivial, ih _ _ _ h1⟩
theorem wpIn_region_held_drew {S : World → Prop} {l n id : Nat} {a : Act} {w : World} (hd : ∀ o ∈ ops, ∀ c, o.op ≠ .defer c) (hQ : ¬ LetsOut Q) (hm : P.follows .mixedOrders = true) (hS : S w.drew) (h : S w.drew → wpAnyH P .any ops Q S ops.size (Array.replicate ops.size false) a w.drew) :
    (Code.region id ops true).wpIn (Fence.wide.inRound l) n P Q a w :=
  wpIn_region_any hm (any_in (fun _ o ho => hd o (Array.mem_of_getElem? ho)) hQ _ _ _ _ (wpAny_of_held _ _ _ _ (h hS)))
end
end Go.Proofs.YthfolocjkpiljaaGreatDoor

