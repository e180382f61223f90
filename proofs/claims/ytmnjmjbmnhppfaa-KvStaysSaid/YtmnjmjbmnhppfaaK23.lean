/- The law KvSwaps, walked. -/
import Derived.Test.YtmnjmjbmnhppfaaK22
import Derived.Test.YtmnjmjbmnhppfaaK7
import Derived.Test.YtmnjmjbmnhppfaaRows
import Derived.WalkKit
import Derived.WalkSpells
import Derived.WalkLawsBesides
import Derived.Handy
import Derived.Deep.QuietTactic
import Derived.BigQuiet
import Derived.Deep.DeepCutAuto
import Derived.Lib.Hide
import Derived.RegionTactic
import Derived.ChangeAlike
import Derived.Laws.ResultCell
import Derived.Outline
namespace Go.Proofs.Ytmnjmjbmnhppfaa
open Go.RowKit

theorem two_new (w : World) (A B : Obj) : ((w.alloc A).alloc B).heap[w.heap.size]? = (w.alloc A).heap[w.heap.size]? := heap_alloc_old _ _ (by simp)

set_option maxRecDepth 100000 in
set_option maxHeartbeats 4000000 in
theorem swaps_good (a : Option Addr) (cap : Nat) (l : List Pr) (key frm one two : Tx) (w : World) (hs : SlP w a cap l) (hg : greatB l = false) (hm : mayS l = true) (ha : mayO ⟨4, key, frm, one⟩ = true) (hb : mayO ⟨4, key, frm, two⟩ = true)
    (v : Tx) (is : Bool) (hv : valueP l key = (v, is)) (t u : List Pr) (xf yf : Bool) (xv yv : Tx) (hx : doP l ⟨4, key, frm, one⟩ = (t, ⟨0, xf, xv⟩)) (hy : doP t ⟨4, key, frm, two⟩ = (u, ⟨0, yf, yv⟩)) (htl : t.length ≤ 1000)
    (hR2 : (xv.toList == v.toList) = true) (hR4 : xf = false ∨ (yv.toList == one.toList) = true) (hl40 : l.length ≤ 40)
    (hcase : (is = false ∧ xf = false ∧ yf = false) ∨ (is = true ∧ xf = false ∧ yf = false ∧ (v.toList == frm.toList) = false) ∨ (is = true ∧ xf = true ∧ yf = true ∧ (v.toList == frm.toList) = true ∧ (one.toList == frm.toList) = true) ∨ (is = true ∧ xf = true ∧ yf = false ∧ (v.toList == frm.toList) = true ∧ (one.toList == frm.toList) = false)) :
    Calls Try.prog 5 #[.slice a l.length cap, .string key, .string frm, .string one, .string two] w fun e w' => e = .returned (.bool true) ∧ Below w.heap.size w w' := by
  have HG := Lib.hid hg
  have HM := Lib.hid hm
  have HA := Lib.hid ha
  have HB := Lib.hid hb
  have HV := Lib.hid hv
  have HX := Lib.hid hx
  have HY := Lib.hid hy
  clear hg hm ha hb hv hx hy
  have HC := Lib.hid hcase
  have H4 := Lib.hid hR4
  have H2 := Lib.hid hR2
  clear hcase hR4 hR2
  go_enter Try.func5, Try.ntmps5
  refine wp_seq_k (fun K hK => ?_)
  have HK := Lib.hid hK
  clear hK
  go_wp2
  refine HK.out _ _ ?_
  clear HK
  refine wp_seq_k (fun K hK => ?_)
  have HK := Lib.hid hK
  clear hK
  go_wp2_with (go_at_call 30; refine (awake_any _).mono ?_; rintro e w1 ⟨rfl, hb1⟩)
  refine HK.out _ _ ?_
  clear HK
  refine wp_seq_k (fun K hK => ?_)
  have HK := Lib.hid hK
  clear hK
  go_wp2_with (go_at_call 31; refine (op_any _ _ _ _ _).mono ?_; rintro e w2 ⟨rfl, hb2⟩; replace hb1 := hb1.trans (hb2.mono hb1.size); clear hb2)
  refine HK.out _ _ ?_
  clear HK
  have hs1 := hb1.size
  have hbN : Below w2.heap.size w2 ((w2.alloc (Obj.cells #[.int .u8 4, .string key, .string frm, .string one] 61)).alloc (Obj.cells #[.int .u8 4, .string key, .string frm, .string two] 61)) := ((Below.refl _ _).alloc (Nat.le_refl _) _).alloc (by simp) _
  have b11 := (two_new w2 (Obj.cells #[.int .u8 4, .string key, .string frm, .string one] 61) (Obj.cells #[.int .u8 4, .string key, .string frm, .string two] 61)).trans (heap_alloc_new w2 _)
  have b12 := heap_alloc2_new w2 (Obj.cells #[.int .u8 4, .string key, .string frm, .string one] 61) (Obj.cells #[.int .u8 4, .string key, .string frm, .string two] 61)
  have hb3 := hb1.trans (hbN.mono hs1)
  have hlt : w2.heap.size + 1 < ((w2.alloc (Obj.cells #[.int .u8 4, .string key, .string frm, .string one] 61)).alloc (Obj.cells #[.int .u8 4, .string key, .string frm, .string two] 61)).heap.size := by simp
  have hlt' : w2.heap.size < ((w2.alloc (Obj.cells #[.int .u8 4, .string key, .string frm, .string one] 61)).alloc (Obj.cells #[.int .u8 4, .string key, .string frm, .string two] 61)).heap.size := by omega
  generalize (w2.alloc (Obj.cells #[.int .u8 4, .string key, .string frm, .string one] 61)).alloc (Obj.cells #[.int .u8 4, .string key, .string frm, .string two] 61) = w3 at *
  have hs3 := hs.below hb3
  refine wp_seq_k (fun K hK => ?_)
  have HK := Lib.hid hK
  clear hK
  go_wp2_with (first
      | (go_at_call 32; refine (great_any _ _ _ _ hs3).mono ?_; rintro e w' ⟨rfl, rfl⟩; rw [HG.out])
      | (go_at_call 33; refine (may_any _ _ _ _ hs3.row (by omega)).mono ?_; rintro e w4 ⟨rfl, hb4⟩; rw [HM.out]; obtain ⟨c0, c1, c2, c3⟩ := four ((hb4.block w2.heap.size hlt').trans b11))
      | (go_at_call 34; (with_reducible refine (pmayO_any _ _ _ _ w4 _ HA.out).mono ?_); rintro e w5 ⟨rfl, hb5⟩; have hb35 := hb4.trans (hb5.mono hb4.size); obtain ⟨d0, d1, d2, d3⟩ := four ((hb35.block (w2.heap.size + 1) hlt).trans b12))
      | (go_at_call 34; (with_reducible refine (pmayO_any _ _ _ _ w5 _ HB.out).mono ?_); rintro e w6 ⟨rfl, hb6⟩))
  refine HK.out _ _ ?_
  clear HK
  have hb36 := hb35.trans (hb6.mono hb35.size)
  have hb6w := hb3.trans (hb36.mono hb3.size)
  have hs6 := hs.below hb6w
  refine wp_seq_k (fun K hK => ?_)
  have HK := Lib.hid hK
  clear hK
  go_wp2_with (go_at_call 35; refine (lvalue_any _ _ _ _ _ hs6 (by omega) v is HV.out).mono ?_; rintro e w7 ⟨rfl, hb7⟩)
  refine HK.out _ _ ?_
  clear HK
  have hb37 := hb36.trans (hb7.mono hb36.size)
  have hb7w := hb3.trans (hb37.mono hb3.size)
  have hs7 := hs.below hb7w
  obtain ⟨e0, e1, e2, e3⟩ := four ((hb37.block w2.heap.size hlt').trans b11)
  refine wp_seq_k (fun K hK => ?_)
  have HK := Lib.hid hK
  clear hK
  go_wp2_with (go_at_call 36; refine (do_open _ _ _ _ _ _ _ _ hs7 (by omega) _ _ _ _ HX.out).mono ?_; rintro e w8 ⟨⟨a8, cap8, rfl, hs8⟩, hb8⟩)
  refine HK.out _ _ ?_
  clear HK
  have hb38 := hb37.trans (hb8.mono hb37.size)
  have hb8' := below1 w8 (Obj.cells #[.int .i64 0, .bool xf, .string xv] 43)
  have hb39 := hb38.trans (hb8'.mono hb38.size)
  have hb9w := hb3.trans (hb39.mono hb3.size)
  have hs9 := hs8.below hb8'
  have b16 := heap_alloc_new w8 (Obj.cells #[.int .i64 0, .bool xf, .string xv] 43)
  have hlt8 : w8.heap.size < (w8.alloc (Obj.cells #[.int .i64 0, .bool xf, .string xv] 43)).heap.size := by simp
  generalize w8.alloc (Obj.cells #[.int .i64 0, .bool xf, .string xv] 43) = w9 at *
  obtain ⟨f0, f1, f2, f3⟩ := four ((hb39.block (w2.heap.size + 1) hlt).trans b12)
  refine wp_seq_k (fun K hK => ?_)
  have HK := Lib.hid hK
  clear hK
  go_wp2_with (go_at_call 36; refine (do_open _ _ _ _ _ _ _ _ hs9 htl _ _ _ _ HY.out).mono ?_; rintro e w10 ⟨⟨a10, cap10, rfl, hs10⟩, hb10⟩)
  refine HK.out _ _ ?_
  clear HK
  have hb10' := below1 w10 (Obj.cells #[.int .i64 0, .bool yf, .string yv] 43)
  have hb911 := hb10.trans (hb10'.mono hb10.size)
  have hb11w := hb9w.trans (hb911.mono hb9w.size)
  have b18 := heap_alloc_new w10 (Obj.cells #[.int .i64 0, .bool yf, .string yv] 43)
  have b16' := (hb911.block w8.heap.size hlt8).trans b16
  generalize w10.alloc (Obj.cells #[.int .i64 0, .bool yf, .string yv] 43) = w11 at *
  obtain ⟨g0, g1, g2, _⟩ := trio b16'
  obtain ⟨k0, k1, k2, _⟩ := trio b18
  have hq2 := H2.out
  clear c0 c1 c2 c3 d0 d1 d2 d3 e0 e1 e2 e3 f0 f1 f2 f3
  rcases HC.out with ⟨rfl, rfl, rfl⟩ | ⟨rfl, rfl, rfl, hq1⟩ | ⟨rfl, rfl, rfl, hq1, hq3⟩ | ⟨rfl, rfl, rfl, hq1, hq3⟩
  · go_wp2
    go_ret
    exact ⟨rfl, hb11w⟩
  · go_wp2
    go_ret
    exact ⟨rfl, hb11w⟩
  · have hq4 : (yv.toList == one.toList) = true := by
      rcases H4.out with h | h
      · cases h
      · exact h
    go_wp2
    go_ret
    exact ⟨rfl, hb11w⟩
  · have hq4 : (yv.toList == one.toList) = true := by
      rcases H4.out with h | h
      · cases h
      · exact h
    go_wp2
    go_ret
    exact ⟨rfl, hb11w⟩
end Go.Proofs.Ytmnjmjbmnhppfaa
