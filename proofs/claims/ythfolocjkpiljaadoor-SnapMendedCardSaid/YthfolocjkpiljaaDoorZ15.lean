/- Texts that the claim leans on, part 15: X30, S24, S25. -/
import Derived.Test.YthfolocjkpiljaaDoorZ1
import Derived.Test.YthfolocjkpiljaaDoorZ2
import Derived.Test.YthfolocjkpiljaaDoorZ3
import Derived.Test.YthfolocjkpiljaaDoorZ4
import Derived.Test.YthfolocjkpiljaaDoorZ5
import Derived.Test.YthfolocjkpiljaaDoorZ6
import Derived.Test.YthfolocjkpiljaaDoorZ7
import Derived.Test.YthfolocjkpiljaaDoorZ8
import Derived.Test.YthfolocjkpiljaaDoorZ9
import Derived.Test.YthfolocjkpiljaaDoorZ10
import Derived.Test.YthfolocjkpiljaaDoorZ11
import Derived.Test.YthfolocjkpiljaaDoorZ12
import Derived.Test.YthfolocjkpiljaaDoorZ13
import Derived.Test.YthfolocjkpiljaaDoorZ14
import Derived.Laws.BitsAllLaws
import Derived.Laws.Shifts
import Derived.Test.YthfolocjkpiljaaDoorRows
import Derived.WalkKit
import Derived.WalkSpells
import Derived.WalkLawsBesides
import Derived.Handy
import Derived.Deep.QuietTactic
import Derived.BigQuiet
import Derived.Deep.DeepCutAuto
import Derived.Lib.Hide
import Derived.RegionTactic
import Derived.ChangeAlike
import Derived.Laws.ResultCell
import Derived.Outline
import Derived.IntWalk
import Derived.ChangeSlices
import Derived.ProofKit
import Derived.Lib.SmallJoins
import Derived.Deep.Slices
import Derived.Shelf.Abstract
import Derived.Shelf.RegionOpen
import Derived.OwnWalkIn
import Derived.TacticsInMore
import Derived.LoopNIn
import Derived.LoopIn
import Derived.Maps.AppendAt
import Derived.Lib.SliceRun
import Derived.Laws.IdiomStrings
import Derived.Laws.BytesArg
import Derived.Carry
import Derived.Maps.Own
import Derived.Maps.Keyed
import Derived.RangeFuncNested
import Derived.RangeFuncBound
import Derived.RangeFuncCalls
import Derived.RangeFuncLeaves
import Derived.RangeFuncBox
import Derived.RangeFuncRecord
import Derived.OrdersIn
import Derived.OrdersHeld
import Derived.Laws.MakeOwn
import Derived.Great.BuildSlice
import Derived.Great.FillDense
import Derived.Laws.Rows
import Derived.Deep.Quiet
import Derived.Deep.RegionHeld3
import Derived.OpenShut
import Derived.Laws.CopyOwn
import Derived.Laws.CopyRow
import Derived.Laws.NewBlocks
import Derived.Deep.RegionLaw
namespace Go.Proofs.YthfolocjkpiljaaDoor

theorem turn_app0 (a c : List UInt8) {bit : Nat} (h : bit / 8 < a.length) : turnBit a bit ++ c = turnBit (a ++ c) bit := by
  unfold turnBit
  rw [List.set_append, if_pos h, List.getD_eq_getElem?_getD, List.getD_eq_getElem?_getD, List.getElem?_append_left h]
theorem turn_app1 (a c : List UInt8) {bit : Nat} (h : a.length = 64) : a ++ turnBit c bit = turnBit (a ++ c) (512 + bit) := by
  unfold turnBit
  have e1 : (512 + bit) / 8 = 64 + bit / 8 := by omega
  have e2 : (512 + bit) % 8 = bit % 8 := by omega
  rw [e1, e2, List.set_append, if_neg (by omega), List.getD_eq_getElem?_getD, List.getD_eq_getElem?_getD, List.getElem?_append_right (by omega), h, Nat.add_sub_cancel_left]
theorem frm_turned {s : Sh} (hok : ShOk s) {k : Int} (hk : 0 ≤ k ∧ k < 8) {c : List UInt8} (hc : c.length ≤ 80) {bit : Nat} (hb : bit < 1024) : openF (turnBit (frmS s k c) bit) = (2, zeroTg, []) := by
  have hm := tagS_may hok hk
  have hl := frmS_len (s := s) (k := k) hc
  have hlt : bit / 8 < (frmS s k c).length := by rw [hl]; omega
  have hx : (frmS s k c)[bit / 8]? = some (frmS s k c)[bit / 8] := List.getElem?_eq_getElem hlt
  have hbad := turn_bad (t := tagS s k) (n := 128) (body := ckB s.cnt c) hm (by decide) (by unfold ckB roomN; simp; omega) hx (turn_ne _ (bit % 8) (by omega))
  unfold turnBit
  rw [show (frmS s k c).getD (bit / 8) 0 = (frmS s k c)[bit / 8] by rw [List.getD_eq_getElem?_getD, hx]; rfl]
  exact hbad
section
variable {d : Dk} {s : Sh} {b : List UInt8} {o : Vo} {g : Nat → Bool}
theorem Parted.flip (h : Parted d s b o g) {k e bit : Nat} (hk : k < numC b.length) (hg : g k = true) (he : e < 2) : ∃ d', flipD d ((secS s k + e : Nat) : Int) (bit : Int) = (d', 0) ∧ Parted d' s b o (fun i => if i = k then false else g i) := by
  have hn := numC_le h.ln
  obtain ⟨h4, h5⟩ := secS_eq h.ok (k := k) (by omega)
  obtain ⟨r0, r1⟩ := h.held k hk hg
  have hc : (pcC b k).length ≤ 80 := by unfold pcC; rw [List.length_take]; omega
  obtain ⟨p0, p1⟩ := frm_pc (s := s) (k := k) hc
  have hfl := frmS_len (s := s) (k := (k : Int)) hc
  have hall : pcD (frmS s (k : Int) (pcC b k)) 0 ++ pcD (frmS s (k : Int) (pcC b k)) 1 = frmS s (k : Int) (pcC b k) := by
    have := pcs_all (b := frmS s (k : Int) (pcC b k)) (n := 2) (by omega) (by omega) (by omega)
    simpa [List.range_succ] using this
  have hbad := frm_turned (s := s) h.ok (k := (k : Int)) ⟨by omega, by omega⟩ hc (bit := 512 * e + bit % 512) (by omega)
  have hre : readD d ((secS s k + e : Nat) : Int) = (pcD (frmS s (k : Int) (pcC b k)) e, 0) := by
    rcases (show e = 0 ∨ e = 1 by omega) with rfl | rfl
    · exact r0
    · exact r1
  obtain ⟨d', e1, e2, e3, e4, e5⟩ := flip_at h.live (k := secS s k + e) (by omega) (bit := bit) hre
  refine ⟨d', e1, h.gone hk e2 e3 (fun j hj h1 h2 => e5 j hj (by omega)) ?_⟩
  have hsec : secsS d' (plaS s (k : Int)) = (turnBit (frmS s (k : Int) (pcC b k)) (512 * e + bit % 512), true) := by
    unfold secsS
    rw [h4, show ((secS s k : Int) + 1) = ((secS s k + 1 : Nat) : Int) by omega]
    rcases (show e = 0 ∨ e = 1 by omega) with rfl | rfl
    · rw [show readD d' (secS s k : Int) = _ from e4, show readD d' ((secS s k + 1 : Nat) : Int) = _ from (e5 _ h5 (by omega)).trans r1]
      simp only
      rw [turn_app0 _ _ (by rw [p0]; omega), hall]
      simp
    · rw [show readD d' ((secS s k + 1 : Nat) : Int) = _ from e4, show readD d' (secS s k : Int) = _ from (e5 (secS s k) (by omega) (by omega)).trans r0]
      simp only
      rw [turn_app1 _ _ p0, hall]
      simp
  unfold readS
  rw [hsec]
  simp only
  rw [if_neg (by simp)]
  unfold mineF frameS
  rw [hbad]
  rfl
end
end Go.Proofs.YthfolocjkpiljaaDoor

namespace Go.Proofs.YthfolocjkpiljaaDoor
open Go.RowKit

/-- The array of chunks: so many are laid. -/
def laA (xs : List Part) : Array Value := (xs.map partV ++ List.replicate (8 - xs.length) (Value.slice none 0 0)).toArray
theorem laA_size {xs : List Part} (h : xs.length ≤ 8) : (laA xs).size = 8 := by simp [laA]; omega
theorem laA_at {xs : List Part} {k : Nat} (h : k < xs.length) : (laA xs)[k]? = some (partV xs[k]) := by
  unfold laA
  rw [List.getElem?_toArray, List.getElem?_append_left (by simpa using h)]
  simp [h]
theorem laA_st {xs : List Part} (x : Part) (h : xs.length < 8) : xs.length + 1 ≤ (laA xs).size ∧ (partV x).cells.size = 1 ∧ (∀ u ∈ (partV x).cells.toList, u.oneCell' = true) ∧ ((laA xs).toList.take xs.length ++ (partV x).cells.toList ++ (laA xs).toList.drop (xs.length + 1)).toArray = laA (xs ++ [x]) := by
  refine ⟨by rw [laA_size (by omega)]; omega, rfl, by simp [partV, Value.cells, Value.oneCell'], ?_⟩
  unfold laA
  have e : 8 - xs.length = (8 - (xs ++ [x]).length) + 1 := by simp; omega
  rw [e, List.replicate_succ]
  simp [partV, Value.cells, List.drop_append]
theorem bit8 (m k : Nat) (hm : m < 256) : bits .and .u8 ((m : Int) / 2 ^ k) 1 = if m.testBit k then 1 else 0 := by
  have e : ((m : Int) / 2 ^ k) = ((m / 2 ^ k : Nat) : Int) := by push_cast; rfl
  have hd : m / 2 ^ k ≤ m := Nat.div_le_self _ _
  rw [e]
  have := u8_and_nat (m / 2 ^ k) 1 (by omega) (by omega)
  rw [show ((1 : Nat) : Int) = 1 from rfl] at this
  rw [this, Nat.and_one_is_mod, Nat.testBit_eq_decide_div_mod_eq]
  rcases Nat.mod_two_eq_zero_or_one (m / 2 ^ k) with h | h <;> simp [h]
/-- Which chunks are good: ahead of the place, and behind it. -/
def gF (lost j : Nat) (i : Nat) : Bool := !(decide (i < j) && lost.testBit i)
def gM (lost j : Nat) (i : Nat) : Bool := decide (i < j) || !lost.testBit i
theorem gF_no {lost j : Nat} (h : lost.testBit j = false) : gF lost (j + 1) = gF lost j := by
  funext i
  unfold gF
  by_cases hi : i = j
  · subst hi; simp [h]
  · rw [show decide (i < j + 1) = decide (i < j) by rw [decide_eq_decide]; omega]
theorem gF_yes {lost j : Nat} (h : lost.testBit j = true) : gF lost (j + 1) = fun i => if i = j then false else gF lost j i := by
  funext i
  by_cases hi : i = j
  · subst hi; simp [gF, h]
  · rw [if_neg hi]
    unfold gF
    rw [show decide (i < j + 1) = decide (i < j) by rw [decide_eq_decide]; omega]
theorem gF_at (lost j : Nat) : gF lost j j = true := by simp [gF]
theorem gM_no {lost j : Nat} (h : lost.testBit j = false) : gM lost (j + 1) = gM lost j := by
  funext i
  unfold gM
  by_cases hi : i = j
  · subst hi; simp [h]
  · rw [show decide (i < j + 1) = decide (i < j) by rw [decide_eq_decide]; omega]
theorem gM_yes {lost j : Nat} (h : lost.testBit j = true) : gM lost (j + 1) = fun i => if i = j then true else gM lost j i := by
  funext i
  by_cases hi : i = j
  · subst hi; simp [gM]
  · rw [if_neg hi]
    unfold gM
    rw [show decide (i < j + 1) = decide (i < j) by rw [decide_eq_decide]; omega]
theorem gM_at (lost j : Nat) : gM lost j j = !lost.testBit j := by simp [gM]
section
variable {d : Dk} {s : Sh} {b : List UInt8} {o : Vo} {g : Nat → Bool}
theorem Parted.eqv {g' : Nat → Bool} (h : Parted d s b o g) (he : ∀ i, i < numC b.length → g i = g' i) : Parted d s b o g' :=
  ⟨h.live, h.left, h.ok, h.fr, h.i1, h.cn, h.ln, fun i hi hg => h.held i hi (by rw [he i hi]; exact hg), fun i hi hg => h.hurt i hi (by rw [he i hi]; exact hg), h.so, h.bo⟩
theorem Parted.asked (h : Parted d s b o g) {i : Nat} (hi : i < numC b.length) : askedS d s (i : Int) = 0 := by
  unfold askedS
  rw [if_neg (by rw [h.cn]; omega), if_neg (by simp [pow_up h.pow])]
theorem Parted.chunk (h : Parted d s b o g) {i : Nat} (hi : i < numC b.length) : chunkS d s (i : Int) = if g i = true then (pcC b i, 0) else ([], 130) := by
  unfold chunkS
  rw [if_neg (by simp [h.asked hi])]
  cases hg : g i
  · rw [if_pos (by rw [h.is hi, hg])]; simp
  · rw [h.read hi hg]; simp
end
/-- Chunks as they lie in memory. -/
structure Laid (B : Nat) (b : List UInt8) (xs : List Part) (w : World) : Prop where
  own : ∀ i (h : i < xs.length), OwnS w B xs[i].1 xs[i].2.1 xs[i].2.2 ∧ xs[i].2.2 = pcC b i
theorem Laid.kq {B : Nat} {b : List UInt8} {xs : List Part} {w w' : World} (h : Laid B b xs w) (hk : Kq B w w') : Laid B b xs w' := ⟨fun i hi => ⟨(h.own i hi).1.kq hk, (h.own i hi).2⟩⟩
theorem Laid.st {B j : Nat} {b : List UInt8} {xs : List Part} {w w' : World} {cs : Array Value} {T : TypeId} (h : Laid B b xs w) (hg : w.grownBy w' (some j)) (hc : w.heap[j]? = some (.cells cs T (0, 0))) (hT : T ≠ 5) : Laid B b xs w' := ⟨fun i hi => ⟨⟨(h.own i hi).1.1.st hg hc hT, (h.own i hi).1.2⟩, (h.own i hi).2⟩⟩
theorem Laid.snoc {B : Nat} {b : List UInt8} {xs : List Part} {w : World} (h : Laid B b xs w) (x : Part) (hx : OwnS w B x.1 x.2.1 x.2.2) (he : x.2.2 = pcC b xs.length) : Laid B b (xs ++ [x]) w := ⟨fun i hi => by
  rw [List.length_append, List.length_singleton] at hi
  by_cases hlt : i < xs.length
  · rw [List.getElem_append_left hlt]
    exact h.own i hlt
  · obtain rfl : i = xs.length := by omega
    rw [List.getElem_append_right (by omega)]
    simp only [Nat.sub_self, List.getElem_singleton]
    exact ⟨hx, he⟩⟩
end Go.Proofs.YthfolocjkpiljaaDoor

namespace Go.Proofs.YthfolocjkpiljaaDoor
open Go.RowKit

theorem one_part {w : World} {q : Nat} {ba : Option Addr} {bc : Nat} {b : List UInt8} (h : w.heap[q]? = some (.cells #[.slice ba b.length bc] 23 (0, 0))) (hs : SlB w ba bc b) : Parts w (some ⟨q, 0, none⟩) [(ba, bc, b)] :=
  ⟨Row.of_block (cs := [.slice ba b.length bc]) h 0 (fun i u hu => by rw [Nat.zero_add]; exact hu), fun x hx => by rw [List.mem_singleton] at hx; subst hx; exact hs⟩
set_option maxRecDepth 100000 in
set_option maxHeartbeats 2000000 in
theorem mended_law (ba : Option Addr) (bc : Nat) (b : List UInt8) (lost : UInt8) (w : World) (hs : SlB w ba bc b) : Calls Tryd.prog 4 #[.slice ba b.length bc, .int .u8 (lost.toNat : Int)] w fun e w' => e = .returned (.bool true) ∧ Below w.heap.size w w' := by
  have hlu := lost.toNat_lt
  by_cases hb6 : b.length ≤ 640
  case neg =>
    have hI : (640 : Int) < b.length := by omega
    go_enter Tryd.func4, Tryd.ntmps4
    go_wp2_with fail
    refine (sawake_any _).mono ?_
    rintro e w1 ⟨rfl, hb1⟩
    go_wp2
    go_ret
    exact ⟨rfl, hb1⟩
  case pos =>
  have hI : ¬ (640 : Int) < b.length := by omega
  go_enter Tryd.func4, Tryd.ntmps4
  refine wp_seq_k (fun K hK => ?_)
  have HK := Lib.hid hK
  clear hK
  go_wp2
  refine HK.out _ _ ?_
  clear HK
  refine wp_seq_k (fun K hK => ?_)
  have HK := Lib.hid hK
  clear hK
  go_wp2_with (go_at_call 5; refine (sawake_any _).mono ?_; rintro e w1 ⟨rfl, hb1⟩)
  refine HK.out _ _ ?_
  clear HK
  refine wp_seq_k (fun K hK => ?_)
  have HK := Lib.hid hK
  clear hK
  go_wp2
  refine HK.out _ _ ?_
  clear HK
  refine wp_seq_k (fun K hK => ?_)
  have HK := Lib.hid hK
  clear hK
  go_wp2_with (go_at_call 7; refine (new156 (B := w.heap.size) hb1.size).mono ?_; rintro e w3 ⟨⟨g, gp, rfl, D3⟩, hb3⟩)
  refine HK.out _ _ ?_
  clear HK
  have k3 := ((Kt.of hb1 (Nat.le_refl w.heap.size)).trans (Kt.of hb3 hb1.size)).kq
  clear hb1 hb3
  refine wp_seq_k (fun K hK => ?_)
  have HK := Lib.hid hK
  clear hK
  go_wp2
  refine HK.out _ _ ?_
  clear HK
  refine wp_seq_k (fun K hK => ?_)
  have HK := Lib.hid hK
  clear hK
  go_wp2_with fail
  have B4 := heap_alloc_new w3 (Obj.cells #[.slice ba b.length bc] 23)
  have D4 := D3.below (blw w3 (Obj.cells #[.slice ba b.length bc] 23))
  have k4 := k3.trans (Kt.of (blw w3 (Obj.cells #[.slice ba b.length bc] 23)) k3.bl.size).kq
  clear D3 k3
  generalize w3.alloc (Obj.cells #[.slice ba b.length bc] 23) = w4 at *
  generalize w3.heap.size = z at *
  have hin : Calls Tryd.prog 8 #[.pointer (some ⟨g, 0, none⟩), .slice (some ⟨z, 0, none⟩) 1 1] w4 _ := linst_any (ls := [(ba, bc, b)]) D4 k4.bl.size (some ⟨z, 0, none⟩) 1 (fun w' hk => one_part (hk.ty _ _ _ B4 (by decide) (by decide) (by decide) (by decide)) (hs.below (k4.trans hk).bl)) (by simp) (fun x hx => by rw [List.mem_singleton] at hx; subst hx; exact hb6)
  refine hin.mono ?_
  rintro e w5 ⟨⟨q, rfl, hq, d, s, o, ⟨wv5, D5⟩, S5, hh, hi, hv, hr, hc, har⟩, k5'⟩
  have hBq : w.heap.size ≤ q := Nat.le_trans k4.bl.size hq
  have k5 := k4.trans k5'
  clear hin D4 B4 k4 k5' hq
  replace hh : Holds d s b o := hh
  replace har : s.area = 0 := har
  replace hi : s.idx = 8 := hi
  have p5 : Parted d s b o (gF lost.toNat 0) := (hh.parted (by omega)).eqv (fun i _ => by simp [gF])
  have hsec : ∀ k : Nat, secS s k = 124 + 2 * k := fun k => by unfold secS; rw [har]; simp
  have HI8 := Lib.hid hi
  have HSEC := Lib.hid hsec
  have HCN := Lib.hid p5.cn
  have hnc := numC_le p5.ln
  have HOK := Lib.hid p5.ok
  clear hh hv hr hc har hi hsec
  go_wp2
  refine HK.out _ _ ?_
  clear HK
  refine wp_seq_k (fun K hK => ?_)
  have HK := Lib.hid hK
  clear hK
  go_wp2
  refine HK.out _ _ ?_
  clear HK
  refine wp_seq_k (fun K hK => ?_)
  have HK := Lib.hid hK
  clear hK
  go_wp2
  refine HK.out _ _ ?_
  clear HK
  have L6 := heap_alloc_new w5 (Obj.cells (laA []) 35)
  have D6 := D5.below (blw w5 (Obj.cells (laA []) 35))
  have S6 := S5.below (blw w5 (Obj.cells (laA []) 35))
  have k6 := k5.trans (Kt.of (blw w5 (Obj.cells (laA []) 35)) k5.bl.size).kq
  have hBl : w.heap.size ≤ w5.heap.size := k5.bl.size
  clear D5 S5 k5
  change Code.wp _ _ _ _ (w5.alloc (Obj.cells (laA []) 35))
  generalize w5.alloc (Obj.cells (laA []) 35) = w6 at *
  generalize w5.heap.size = l at *
  refine wp_seq_k (fun K hK => ?_)
  have HK := Lib.hid hK
  clear hK
  go_wp2_with fail
  go_loopw [9, 10, 11] (fun i _ _ wr => ∃ (j : Nat) (dj : Dk) (wvj : Value) (xs : List Part), j ≤ numC b.length ∧ i = .int .i64 (j : Nat) ∧ xs.length = j ∧ Laid w.heap.size b xs wr ∧ wr.heap[l]? = some (.cells (laA xs) 35 (0, 0)) ∧ DiskB w.heap.size g gp wvj dj wr ∧ ShB wr q g s ∧ Kq w.heap.size w wr ∧ Parted dj s b o (gF lost.toNat j)) (fun i _ _ _ => 8 - (intOf i).toNat)
  case atStart => exact ⟨0, d, wv5, [], by omega, rfl, rfl, ⟨fun i h => absurd h (by simp)⟩, L6, D6, S6, k6, p5⟩
  case round =>
    clear p5 D6 S6 k6 L6
    obtain ⟨j, dj, wvj, xs, hj, rfl, hxl, hld, hL, hD, hS, hk, hp⟩ := hrel
    have hct := scount_any hS
    rw [HCN.out] at hct
    by_cases hlt : j < numC b.length
    case neg =>
      obtain rfl : j = numC b.length := by omega
      have hI1 : ¬ ((numC b.length : Nat) : Int) < (numC b.length : Nat) := by omega
      have p0 : Parted dj s b o (gM lost.toNat 0) := hp.eqv (fun i hi => by unfold gF gM; simp [hi])
      have HXL := Lib.hid hxl
      have HBL := Lib.hid hBl
      clear hp hxl hBl
      go_wp2_with (go_at_call 11; refine hct.mono ?_; rintro e w7 ⟨rfl, rfl⟩)
      refine HK.out _ _ ?_
      clear HK hct
      refine wp_seq_k (fun K hK => ?_)
      have HK := Lib.hid hK
      clear hK
      go_wp2_with fail
      go_loopw [12, 13, 14, 15] (fun i _ _ _ wr => ∃ (j : Nat) (dj : Dk) (wvj : Value), j ≤ numC b.length ∧ i = .int .i64 (j : Nat) ∧ Laid w.heap.size b xs wr ∧ wr.heap[l]? = some (.cells (laA xs) 35 (0, 0)) ∧ DiskB w.heap.size g gp wvj dj wr ∧ ShB wr q g s ∧ Kq w.heap.size w wr ∧ Parted dj s b o (gM lost.toNat j)) (fun i _ _ _ _ => 8 - (intOf i).toNat)
      case atStart => exact ⟨0, dj, wvj, by omega, rfl, hld, hL, hD, hS, hk, p0⟩
      case round =>
        clear p0 hD hS hk hL hld
        obtain ⟨j, dj, wvj, hj, rfl, hld, hL, hD, hS, hk, hp⟩ := hrel
        have hct := scount_any hS
        rw [HCN.out] at hct
        by_cases hlt : j < numC b.length
        case neg =>
          obtain rfl : j = numC b.length := by omega
          have hh : Holds dj s b o := hp.holds (fun i hi => by unfold gM; simp [hi])
          clear hp
          go_wp2_with (go_at_call 11; refine hct.mono ?_; rintro e w7 ⟨rfl, rfl⟩)
          refine HK.out _ _ ?_
          clear HK hct
          have hho := lholds_any hS hD hh ba bc (hs.below hk.bl)
          rw [HI8.out] at hho
          have hwt := fun w' (hb : Below _ _ w') => waits_any (hD.below hb)
          rw [hh.live.w] at hwt
          go_wp2_with (first
            | (go_at_call 10; refine hho.mono ?_; rintro e w8 ⟨rfl, hb8⟩)
            | (go_at_call 16; refine (hwt _ hb8).mono ?_; rintro e w9 ⟨rfl, rfl⟩))
          go_ret
          exact ⟨rfl, hk.bl.trans (hb8.mono hk.bl.size)⟩
        case pos =>
          have hI3 : (j : Int) < (numC b.length : Nat) := by omega
          have hI4 : (j : Int) < 8 := by omega
          have hck := schunk_any hS hD HOK.out (j : Int)
          rw [hp.chunk hlt, gM_at] at hck
          have hb8 := bit8 lost.toNat j (by omega)
          have hjx : j < xs.length := by rw [HXL.out]; exact hlt
          have hat := laA_at hjx
          have hxo := fun (w' : World) (h : Laid w.heap.size b xs w') => h.own j hjx
          generalize xs[j] = x at *
          obtain ⟨xa, xc, xb⟩ := x
          simp only at hxo
          have hxb : xb = pcC b j := (hxo _ hld).2
          subst hxb
          replace hat : (laA xs)[j]? = some (.slice xa (pcC b j).length xc) := hat
          have HXO := Lib.hid hxo
          have HW := Lib.hid hp.live.w
          clear hjx hxo
          cases htb : lost.toNat.testBit j
          case true =>
            rw [htb] at hck
            simp only [Bool.not_true, Bool.false_eq_true, if_false] at hck
            rw [htb, if_pos rfl] at hb8
            obtain ⟨d', e', w', p'⟩ := hp.mend hlt (by rw [gM_at, htb]; rfl)
            have hp2 : Parted d' s b o (gM lost.toNat (j + 1)) := by rw [gM_yes htb]; exact p'
            have HE := Lib.hid e'
            have HE2 := Lib.hid (p'.refuse hlt (by simp) (pcC b j))
            have HW2 := Lib.hid w'
            clear e' p' hp htb w'
            go_wp2_with (first
              | (go_at_call 11; refine hct.mono ?_; rintro e w7 ⟨rfl, rfl⟩)
              | (go_at_call 12; refine hck.mono ?_; rintro e w8 ⟨⟨a8, c8, rfl, _⟩, hb8⟩; have L8 := tr_bl hb8 hL; have D8 := hD.below hb8; have S8 := hS.below hb8; have k8 := hk.trans (Kt.of hb8 hk.bl.size).kq; have A8 := hld.kq (Kt.of hb8 hk.bl.size).kq; have X8 := blk_cell L8 j _ hat; clear hct hck hL hD hS hk hld hb8))
            have hme := smend_any S8 D8 k8.bl.size HOK.out (j : Int) xa xc (pcC b j) (HXO.out _ A8).1.slb (by rw [HW.out]; simp)
            rw [HE.out] at hme
            refine hme.mono ?_
            rintro e w9 ⟨rfl, ⟨wv9, D9⟩, k9⟩
            (try simp only at D9)
            have L9 := k9.ty _ _ _ L8 (by decide) (by decide) (by decide)
            have X9 := blk_cell L9 j _ hat
            have S9 := S8.kt k9
            have A9 := A8.kq k9.kq
            have kq9 := k8.trans k9.kq
            clear hme L8 X8 D8 S8 A8 k8 k9
            have hme := smend_any S9 D9 kq9.bl.size HOK.out (j : Int) xa xc (pcC b j) (HXO.out _ A9).1.slb (by rw [HW2.out]; simp)
            rw [HE2.out] at hme
            go_wp2_with fail
            refine hme.mono ?_
            rintro e w10 ⟨rfl, ⟨wv10, D10⟩, k10⟩
            (try simp only at D10)
            have L10 := k10.ty _ _ _ L9 (by decide) (by decide) (by decide)
            have S10 := S9.kt k10
            have A10 := A9.kq k10.kq
            have kq10 := kq9.trans k10.kq
            clear hme L9 X9 D9 S9 A9 kq9 k10
            go_wp2
            go_roundw
            case rel => exact ⟨j + 1, d', _, by omega, by go_num, A10, L10, D10, S10, kq10, hp2⟩
            case measure => simp [intOf]; omega
          case false =>
            rw [htb] at hck
            simp only [Bool.not_false, if_true] at hck
            rw [htb] at hb8
            simp only [Bool.false_eq_true, if_false] at hb8
            have hp2 : Parted dj s b o (gM lost.toNat (j + 1)) := by rw [gM_no htb]; exact hp
            have HE2 := Lib.hid (hp.refuse hlt (by rw [gM_at, htb]; rfl) (pcC b j))
            clear hp htb
            go_wp2_with (first
              | (go_at_call 11; refine hct.mono ?_; rintro e w7 ⟨rfl, rfl⟩)
              | (go_at_call 12; refine hck.mono ?_; rintro e w8 ⟨⟨a8, c8, rfl, _⟩, hb8⟩; have L8 := tr_bl hb8 hL; have D8 := hD.below hb8; have S8 := hS.below hb8; have k8 := hk.trans (Kt.of hb8 hk.bl.size).kq; have A8 := hld.kq (Kt.of hb8 hk.bl.size).kq; have X8 := blk_cell L8 j _ hat; clear hct hck hL hD hS hk hld hb8))
            have hme := smend_any S8 D8 k8.bl.size HOK.out (j : Int) xa xc (pcC b j) (HXO.out _ A8).1.slb (by rw [HW.out]; simp)
            rw [HE2.out] at hme
            refine hme.mono ?_
            rintro e w10 ⟨rfl, ⟨wv10, D10⟩, k10⟩
            (try simp only at D10)
            have L10 := k10.ty _ _ _ L8 (by decide) (by decide) (by decide)
            have S10 := S8.kt k10
            have A10 := A8.kq k10.kq
            have kq10 := k8.trans k10.kq
            clear hme L8 X8 D8 S8 A8 k8 k10
            go_wp2
            go_roundw
            case rel => exact ⟨j + 1, dj, _, by omega, by go_num, A10, L10, D10, S10, kq10, hp2⟩
            case measure => simp [intOf]; omega
    case pos =>
      have hI1 : (j : Int) < (numC b.length : Nat) := by omega
      have hI2 : (j : Int) < 8 := by omega
      have hck := schunk_any hS hD HOK.out (j : Int)
      rw [hp.chunk hlt, gF_at, if_pos rfl] at hck
      have hpl : (pcC b j).length ≤ 80 := by rw [pcC_len]; omega
      have HXL := Lib.hid hxl
      have hx8 : xs.length < 8 := by omega
      have HST := fun a c => Lib.hid (laA_st (a, c, pcC b j) hx8)
      rw [hxl] at HST
      have HBL := Lib.hid hBl
      clear hx8 hxl
      have hb8 := bit8 lost.toNat j (by omega)
      cases htb : lost.toNat.testBit j
      case true =>
        rw [htb, if_pos rfl] at hb8
        obtain ⟨d', e', p'⟩ := hp.flip (e := j % 2) (bit := 77 * j) hlt (gF_at _ _) (by omega)
        have hp2 : Parted d' s b o (gF lost.toNat (j + 1)) := by rw [gF_yes htb]; exact p'
        have HE := Lib.hid (show flipD dj (firstN 5 (j : Int) + (j : Int) % 2) (77 * (j : Int)) = (d', 0) by
          have ef : firstN 5 (j : Int) + (j : Int) % 2 = ((secS s j + j % 2 : Nat) : Int) := by rw [first5 (by omega), HSEC.out]; omega
          rw [ef]
          exact e')
        clear e' p' hp htb
        go_wp2_with (first
          | (go_at_call 11; refine hct.mono ?_; rintro e w7 ⟨rfl, rfl⟩)
          | (go_at_call 12; refine hck.mono ?_; rintro e w8 ⟨⟨a8, c8, rfl, hO8⟩, hb8⟩; have L8 := tr_bl hb8 hL; have D8 := hD.below hb8; have S8 := hS.below hb8; have k8 := hk.trans (Kt.of hb8 hk.bl.size).kq; have A8 := (hld.kq (Kt.of hb8 hk.bl.size).kq).snoc (a8, c8, pcC b j) (hO8.mono hk.bl.size) (by rw [HXL.out]); clear hct hck hL hD hS hk hld hb8 hO8)
          | ((with_reducible refine wpList_stB 23 _ _ ?_); refine ⟨_, _, _, ⟨_, _, _, Tryd.sizeOf23, rfl, L8, (HST a8 c8).out⟩, ?_⟩; intro w9 L9 g9; have D9 := D8.ot g9 L8 (by decide) (by decide) (by decide); have S9 := S8.ot g9 L8 (by decide); have A9 := A8.st g9 L8 (by decide); have k9 : Kq w.heap.size w w9 := ⟨bl_st k8.bl g9 k8.bl.size HBL.out, fun j cs T a b c d e => tr_st g9 (k8.ty j cs T a b c d e) (fun hj => by have h1 := lt_blk a; have h2 := HBL.out; omega)⟩; clear L8 D8 S8 A8 k8 g9))
        refine (first_any 5 (j : Int) _).mono ?_
        rintro e w10 ⟨rfl, hb10⟩
        have L10 := tr_bl hb10 L9
        have D10 := D9.below hb10
        have S10 := S9.below hb10
        have A10 := A9.kq (Kt.of hb10 k9.bl.size).kq
        have k10 := k9.trans (Kt.of hb10 k9.bl.size).kq
        clear L9 D9 S9 A9 k9 hb10
        have hfl := flip_any D10 k10.bl.size (firstN 5 (j : Int) + (j : Int) % 2) (77 * (j : Int))
        rw [HE.out] at hfl
        have hF : Hid (0 ≤ firstN 5 (j : Int) ∧ firstN 5 (j : Int) ≤ 200) := Lib.hid (by rw [first5 (by omega)]; omega)
        have hF1 := hF.out
        generalize firstN 5 (j : Int) = fi at *
        go_wp2_with fail
        refine hfl.mono ?_
        rintro e w11 ⟨rfl, D11, k11⟩
        have L11 := k11.ty _ _ _ L10 (by decide) (by decide) (by decide)
        have S11 := S10.kt k11
        have A11 := A10.kq k11.kq
        have kq11 := k10.trans k11.kq
        clear hfl L10 D10 S10 A10 k10 k11
        go_wp2
        go_roundw
        case rel => exact ⟨j + 1, d', _, xs ++ [(a8, c8, pcC b j)], by omega, by go_num, by rw [List.length_append, HXL.out]; rfl, A11, L11, D11, S11, kq11, hp2⟩
        case measure => simp [intOf]; omega
      case false =>
        rw [htb] at hb8
        simp only [Bool.false_eq_true, if_false] at hb8
        have hp2 : Parted dj s b o (gF lost.toNat (j + 1)) := by rw [gF_no htb]; exact hp
        clear hp htb
        go_wp2_with (first
          | (go_at_call 11; refine hct.mono ?_; rintro e w7 ⟨rfl, rfl⟩)
          | (go_at_call 12; refine hck.mono ?_; rintro e w8 ⟨⟨a8, c8, rfl, hO8⟩, hb8⟩; have L8 := tr_bl hb8 hL; have D8 := hD.below hb8; have S8 := hS.below hb8; have k8 := hk.trans (Kt.of hb8 hk.bl.size).kq; have A8 := (hld.kq (Kt.of hb8 hk.bl.size).kq).snoc (a8, c8, pcC b j) (hO8.mono hk.bl.size) (by rw [HXL.out]); clear hct hck hL hD hS hk hld hb8 hO8)
          | ((with_reducible refine wpList_stB 23 _ _ ?_); refine ⟨_, _, _, ⟨_, _, _, Tryd.sizeOf23, rfl, L8, (HST a8 c8).out⟩, ?_⟩; intro w9 L9 g9; have D9 := D8.ot g9 L8 (by decide) (by decide) (by decide); have S9 := S8.ot g9 L8 (by decide); have A9 := A8.st g9 L8 (by decide); have k9 : Kq w.heap.size w w9 := ⟨bl_st k8.bl g9 k8.bl.size HBL.out, fun j cs T a b c d e => tr_st g9 (k8.ty j cs T a b c d e) (fun hj => by have h1 := lt_blk a; have h2 := HBL.out; omega)⟩; clear L8 D8 S8 A8 k8 g9))
        go_roundw
        case rel => exact ⟨j + 1, dj, _, xs ++ [(a8, c8, pcC b j)], by omega, by go_num, by rw [List.length_append, HXL.out]; rfl, A9, L9, D9, S9, k9, hp2⟩
        case measure => simp [intOf]; omega
end Go.Proofs.YthfolocjkpiljaaDoor

