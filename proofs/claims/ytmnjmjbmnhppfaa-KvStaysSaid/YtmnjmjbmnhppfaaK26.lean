/- The law KvApart, walked. -/
import Derived.Test.YtmnjmjbmnhppfaaK24
import Derived.Test.YtmnjmjbmnhppfaaK7
import Derived.Test.YtmnjmjbmnhppfaaRows
import Derived.WalkKit
import Derived.WalkSpells
import Derived.WalkLawsBesides
import Derived.Handy
import Derived.Deep.QuietTactic
import Derived.BigQuiet
import Derived.Deep.DeepCutAuto
import Derived.Lib.Hide
import Derived.RegionTactic
import Derived.ChangeAlike
import Derived.Laws.ResultCell
import Derived.Outline
namespace Go.Proofs.Ytmnjmjbmnhppfaa
open Go.RowKit

set_option maxRecDepth 100000 in
set_option maxHeartbeats 4000000 in
theorem apart_bad (a : Option Addr) (cap : Nat) (l : List Pr) (ak : Int) (akey aold aval : Tx) (bk : Int) (bkey bold bval : Tx) (w : World) (hs : SlP w a cap l)
    (hbad : greatB l = true ∨ (greatB l = false ∧ mayS l = false) ∨ (greatB l = false ∧ mayS l = true ∧ mayO ⟨ak, akey, aold, aval⟩ = false) ∨ (greatB l = false ∧ mayS l = true ∧ mayO ⟨ak, akey, aold, aval⟩ = true ∧ mayO ⟨bk, bkey, bold, bval⟩ = false) ∨ (greatB l = false ∧ mayS l = true ∧ mayO ⟨ak, akey, aold, aval⟩ = true ∧ mayO ⟨bk, bkey, bold, bval⟩ = true ∧ akey = bkey)) :
    Calls Try.prog 6 #[.slice a l.length cap, .agg #[.int .u8 ak, .string akey, .string aold, .string aval], .agg #[.int .u8 bk, .string bkey, .string bold, .string bval]] w fun e w' => e = .returned (.bool true) ∧ Below w.heap.size w w' := by
  have HBAD := Lib.hid hbad
  clear hbad
  have hbN : Below w.heap.size w ((w.alloc (Obj.cells #[.int .u8 ak, .string akey, .string aold, .string aval] 61)).alloc (Obj.cells #[.int .u8 bk, .string bkey, .string bold, .string bval] 61)) := ((Below.refl _ _).alloc (Nat.le_refl _) _).alloc (by simp) _
  have b11 := (two_new w (Obj.cells #[.int .u8 ak, .string akey, .string aold, .string aval] 61) (Obj.cells #[.int .u8 bk, .string bkey, .string bold, .string bval] 61)).trans (heap_alloc_new w _)
  have b12 := heap_alloc2_new w (Obj.cells #[.int .u8 ak, .string akey, .string aold, .string aval] 61) (Obj.cells #[.int .u8 bk, .string bkey, .string bold, .string bval] 61)
  have hlt : w.heap.size + 1 < ((w.alloc (Obj.cells #[.int .u8 ak, .string akey, .string aold, .string aval] 61)).alloc (Obj.cells #[.int .u8 bk, .string bkey, .string bold, .string bval] 61)).heap.size := by simp
  have hlt' : w.heap.size < ((w.alloc (Obj.cells #[.int .u8 ak, .string akey, .string aold, .string aval] 61)).alloc (Obj.cells #[.int .u8 bk, .string bkey, .string bold, .string bval] 61)).heap.size := by omega
  go_enter Try.func6, Try.ntmps6
  refine wp_seq_k (fun K hK => ?_)
  have HK := Lib.hid hK
  clear hK
  go_wp2
  refine HK.out _ _ ?_
  clear HK
  generalize (w.alloc (Obj.cells #[.int .u8 ak, .string akey, .string aold, .string aval] 61)).alloc (Obj.cells #[.int .u8 bk, .string bkey, .string bold, .string bval] 61) = w0 at *
  refine wp_seq_k (fun K hK => ?_)
  have HK := Lib.hid hK
  clear hK
  go_wp2_with (go_at_call 30; refine (awake_any _).mono ?_; rintro e w3 ⟨rfl, hb1⟩)
  refine HK.out _ _ ?_
  clear HK
  have hb3 := hbN.trans (hb1.mono hbN.size)
  have b11 := (hb1.block w.heap.size hlt').trans b11
  have b12 := (hb1.block (w.heap.size + 1) hlt).trans b12
  have hs1 := hb1.size
  have hlt : w.heap.size + 1 < w3.heap.size := by omega
  have hlt' : w.heap.size < w3.heap.size := by omega
  have hs3 := hs.below hb3
  have hlen : greatB l = false → l.length ≤ 1000 := fun h => by have := (great_no h).1; omega
  have HL := Lib.hid hlen
  clear hlen
  rcases HBAD.out with h | ⟨h, h2⟩ | ⟨h, h2, h3⟩ | ⟨h, h2, h3, h4⟩ | ⟨h, h2, h3, h4, h5⟩
  · have HG := Lib.hid h
    clear h
    go_wp2_with (go_at_call 32; refine (great_any _ _ _ _ hs3).mono ?_; rintro e w' ⟨rfl, rfl⟩; rw [HG.out])
    go_ret
    exact ⟨rfl, hb3⟩
  · have hl := HL.out h
    have HG := Lib.hid h
    have HM := Lib.hid h2
    clear h h2
    go_wp2_with (first
      | (go_at_call 32; refine (great_any _ _ _ _ hs3).mono ?_; rintro e w' ⟨rfl, rfl⟩; rw [HG.out])
      | (go_at_call 33; refine (may_any _ _ _ _ hs3.row hl).mono ?_; rintro e w4 ⟨rfl, hb4⟩; rw [HM.out]; obtain ⟨c0, c1, c2, c3⟩ := four ((hb4.block w.heap.size hlt').trans b11)))
    go_ret
    exact ⟨rfl, hb3.trans (hb4.mono hb3.size)⟩
  · have hl := HL.out h
    have HG := Lib.hid h
    have HM := Lib.hid h2
    have HA := Lib.hid h3
    clear h h2 h3
    go_wp2_with (first
      | (go_at_call 32; refine (great_any _ _ _ _ hs3).mono ?_; rintro e w' ⟨rfl, rfl⟩; rw [HG.out])
      | (go_at_call 33; refine (may_any _ _ _ _ hs3.row hl).mono ?_; rintro e w4 ⟨rfl, hb4⟩; rw [HM.out]; obtain ⟨c0, c1, c2, c3⟩ := four ((hb4.block w.heap.size hlt').trans b11))
      | (go_at_call 34; (with_reducible refine (pmayO_any _ _ _ _ w4 _ HA.out).mono ?_); rintro e w5 ⟨rfl, hb5⟩; have hb35 := hb4.trans (hb5.mono hb4.size); obtain ⟨d0, d1, d2, d3⟩ := four ((hb35.block (w.heap.size + 1) hlt).trans b12)))
    go_ret
    exact ⟨rfl, hb3.trans (hb35.mono hb3.size)⟩
  · have hl := HL.out h
    have HG := Lib.hid h
    have HM := Lib.hid h2
    have HA := Lib.hid h3
    have HB := Lib.hid h4
    clear h h2 h3 h4
    go_wp2_with (first
      | (go_at_call 32; refine (great_any _ _ _ _ hs3).mono ?_; rintro e w' ⟨rfl, rfl⟩; rw [HG.out])
      | (go_at_call 33; refine (may_any _ _ _ _ hs3.row hl).mono ?_; rintro e w4 ⟨rfl, hb4⟩; rw [HM.out]; obtain ⟨c0, c1, c2, c3⟩ := four ((hb4.block w.heap.size hlt').trans b11))
      | (go_at_call 34; (with_reducible refine (pmayO_any _ _ _ _ w4 _ HA.out).mono ?_); rintro e w5 ⟨rfl, hb5⟩; have hb35 := hb4.trans (hb5.mono hb4.size); obtain ⟨d0, d1, d2, d3⟩ := four ((hb35.block (w.heap.size + 1) hlt).trans b12))
      | (go_at_call 34; (with_reducible refine (pmayO_any _ _ _ _ w5 _ HB.out).mono ?_); rintro e w6 ⟨rfl, hb6⟩; have hb36 := hb35.trans (hb6.mono hb35.size); obtain ⟨e0, e1, e2, e3⟩ := four ((hb36.block w.heap.size hlt').trans b11); obtain ⟨f0, f1, f2, f3⟩ := four ((hb36.block (w.heap.size + 1) hlt).trans b12)))
    go_ret
    exact ⟨rfl, hb3.trans (hb36.mono hb3.size)⟩
  · have hl := HL.out h
    have HG := Lib.hid h
    have HM := Lib.hid h2
    have HA := Lib.hid h3
    have HB := Lib.hid h4
    clear h h2 h3 h4
    subst h5
    go_wp2_with (first
      | (go_at_call 32; refine (great_any _ _ _ _ hs3).mono ?_; rintro e w' ⟨rfl, rfl⟩; rw [HG.out])
      | (go_at_call 33; refine (may_any _ _ _ _ hs3.row hl).mono ?_; rintro e w4 ⟨rfl, hb4⟩; rw [HM.out]; obtain ⟨c0, c1, c2, c3⟩ := four ((hb4.block w.heap.size hlt').trans b11))
      | (go_at_call 34; (with_reducible refine (pmayO_any _ _ _ _ w4 _ HA.out).mono ?_); rintro e w5 ⟨rfl, hb5⟩; have hb35 := hb4.trans (hb5.mono hb4.size); obtain ⟨d0, d1, d2, d3⟩ := four ((hb35.block (w.heap.size + 1) hlt).trans b12))
      | (go_at_call 34; (with_reducible refine (pmayO_any _ _ _ _ w5 _ HB.out).mono ?_); rintro e w6 ⟨rfl, hb6⟩; have hb36 := hb35.trans (hb6.mono hb35.size); obtain ⟨e0, e1, e2, e3⟩ := four ((hb36.block w.heap.size hlt').trans b11); obtain ⟨f0, f1, f2, f3⟩ := four ((hb36.block (w.heap.size + 1) hlt).trans b12)))
    go_ret
    exact ⟨rfl, hb3.trans (hb36.mono hb3.size)⟩

set_option maxRecDepth 100000 in
set_option maxHeartbeats 4000000 in
theorem apart_good (a : Option Addr) (cap : Nat) (l : List Pr) (ak : Int) (akey aold aval : Tx) (bk : Int) (bkey bold bval : Tx) (w : World) (hs : SlP w a cap l) (hg : greatB l = false) (hm : mayS l = true) (ha : mayO ⟨ak, akey, aold, aval⟩ = true) (hb : mayO ⟨bk, bkey, bold, bval⟩ = true) (hk : (akey.toList == bkey.toList) = false) (hl : l.length ≤ 1000)
    (t u v x : List Pr) (te ue ve xe : Int) (tf uf vf xf : Bool) (tv uv vv xv : Tx) (ht : doP l ⟨ak, akey, aold, aval⟩ = (t, ⟨te, tf, tv⟩)) (hu : doP t ⟨bk, bkey, bold, bval⟩ = (u, ⟨ue, uf, uv⟩)) (hv : doP l ⟨bk, bkey, bold, bval⟩ = (v, ⟨ve, vf, vv⟩)) (hx : doP v ⟨ak, akey, aold, aval⟩ = (x, ⟨xe, xf, xv⟩))
    (hlt0 : t.length ≤ 1000) (hlu0 : u.length ≤ 1000) (hlv0 : v.length ≤ 1000) (hlx0 : x.length ≤ 1000)
    (hcase : (te != 0) = true ∨ ((te != 0) = false ∧ (ue != 0) = true) ∨ ((te != 0) = false ∧ (ue != 0) = false ∧ (ve != 0) = true) ∨ ((te != 0) = false ∧ (ue != 0) = false ∧ (ve != 0) = false ∧ (xe != 0) = true) ∨ (te = 0 ∧ ue = 0 ∧ ve = 0 ∧ xe = 0 ∧ u = x ∧ tf = xf ∧ tv = xv ∧ uf = vf ∧ uv = vv)) :
    Calls Try.prog 6 #[.slice a l.length cap, .agg #[.int .u8 ak, .string akey, .string aold, .string aval], .agg #[.int .u8 bk, .string bkey, .string bold, .string bval]] w fun e w' => e = .returned (.bool true) ∧ Below w.heap.size w w' := by
  have HG := Lib.hid hg
  have HM := Lib.hid hm
  have HA := Lib.hid ha
  have HB := Lib.hid hb
  have HT := Lib.hid ht
  have HU := Lib.hid hu
  have HV := Lib.hid hv
  have HX := Lib.hid hx
  have HC := Lib.hid hcase
  clear hg hm ha hb ht hu hv hx hcase
  have hbN : Below w.heap.size w ((w.alloc (Obj.cells #[.int .u8 ak, .string akey, .string aold, .string aval] 61)).alloc (Obj.cells #[.int .u8 bk, .string bkey, .string bold, .string bval] 61)) := ((Below.refl _ _).alloc (Nat.le_refl _) _).alloc (by simp) _
  have b11 := (two_new w (Obj.cells #[.int .u8 ak, .string akey, .string aold, .string aval] 61) (Obj.cells #[.int .u8 bk, .string bkey, .string bold, .string bval] 61)).trans (heap_alloc_new w _)
  have b12 := heap_alloc2_new w (Obj.cells #[.int .u8 ak, .string akey, .string aold, .string aval] 61) (Obj.cells #[.int .u8 bk, .string bkey, .string bold, .string bval] 61)
  have hlt : w.heap.size + 1 < ((w.alloc (Obj.cells #[.int .u8 ak, .string akey, .string aold, .string aval] 61)).alloc (Obj.cells #[.int .u8 bk, .string bkey, .string bold, .string bval] 61)).heap.size := by simp
  have hlt' : w.heap.size < ((w.alloc (Obj.cells #[.int .u8 ak, .string akey, .string aold, .string aval] 61)).alloc (Obj.cells #[.int .u8 bk, .string bkey, .string bold, .string bval] 61)).heap.size := by omega
  go_enter Try.func6, Try.ntmps6
  refine wp_seq_k (fun K hK => ?_)
  have HK := Lib.hid hK
  clear hK
  go_wp2
  refine HK.out _ _ ?_
  clear HK
  generalize (w.alloc (Obj.cells #[.int .u8 ak, .string akey, .string aold, .string aval] 61)).alloc (Obj.cells #[.int .u8 bk, .string bkey, .string bold, .string bval] 61) = w0 at *
  refine wp_seq_k (fun K hK => ?_)
  have HK := Lib.hid hK
  clear hK
  go_wp2_with (go_at_call 30; refine (awake_any _).mono ?_; rintro e w3 ⟨rfl, hb1⟩)
  refine HK.out _ _ ?_
  clear HK
  have hb3 := hbN.trans (hb1.mono hbN.size)
  have b11 := (hb1.block w.heap.size hlt').trans b11
  have b12 := (hb1.block (w.heap.size + 1) hlt).trans b12
  have hs1 := hb1.size
  have hlt : w.heap.size + 1 < w3.heap.size := by omega
  have hlt' : w.heap.size < w3.heap.size := by omega
  have hs3 := hs.below hb3
  refine wp_seq_k (fun K hK => ?_)
  have HK := Lib.hid hK
  clear hK
  go_wp2_with (first
      | (go_at_call 32; refine (great_any _ _ _ _ hs3).mono ?_; rintro e w' ⟨rfl, rfl⟩; rw [HG.out])
      | (go_at_call 33; refine (may_any _ _ _ _ hs3.row hl).mono ?_; rintro e w4 ⟨rfl, hb4⟩; rw [HM.out]; obtain ⟨c0, c1, c2, c3⟩ := four ((hb4.block w.heap.size hlt').trans b11))
      | (go_at_call 34; (with_reducible refine (pmayO_any _ _ _ _ w4 _ HA.out).mono ?_); rintro e w5 ⟨rfl, hb5⟩; have hb35 := hb4.trans (hb5.mono hb4.size); obtain ⟨d0, d1, d2, d3⟩ := four ((hb35.block (w.heap.size + 1) hlt).trans b12))
      | (go_at_call 34; (with_reducible refine (pmayO_any _ _ _ _ w5 _ HB.out).mono ?_); rintro e w6 ⟨rfl, hb6⟩; have hb36 := hb35.trans (hb6.mono hb35.size); obtain ⟨e0, e1, e2, e3⟩ := four ((hb36.block w.heap.size hlt').trans b11); obtain ⟨f0, f1, f2, f3⟩ := four ((hb36.block (w.heap.size + 1) hlt).trans b12)))
  refine HK.out _ _ ?_
  clear HK
  have hc0 : Below w3.heap.size w3 w6 := hb36
  have hsz0 := hc0.size
  have hsl0 := hs3.below hc0
  refine wp_seq_k (fun K hK => ?_)
  have HK := Lib.hid hK
  clear hK
  go_wp2_with (go_at_call 36; refine (do_open _ _ _ _ _ _ _ _ hsl0 hl _ _ _ _ HT.out).mono ?_; rintro e y1 ⟨⟨a1, cap1, rfl, hy1⟩, hd1⟩)
  refine HK.out _ _ ?_
  clear HK
  have hp1 := below1 y1 (Obj.cells #[.int .i64 te, .bool tf, .string tv] 43)
  have hq1 := hd1.trans (hp1.mono hd1.size)
  have hc1 := hc0.trans (hq1.mono hsz0)
  have hsz1 := hc1.size
  have bq1 := heap_alloc_new y1 (Obj.cells #[.int .i64 te, .bool tf, .string tv] 43)
  have hlq1 : y1.heap.size < (y1.alloc (Obj.cells #[.int .i64 te, .bool tf, .string tv] 43)).heap.size := by simp
  have hr1 := hy1.below hp1
  have hsl1 := hs3.below hc1
  generalize y1.alloc (Obj.cells #[.int .i64 te, .bool tf, .string tv] 43) = q1 at *
  obtain ⟨e0, e1, e2, e3⟩ := four ((hc1.block w.heap.size hlt').trans b11)
  obtain ⟨f0, f1, f2, f3⟩ := four ((hc1.block (w.heap.size + 1) hlt).trans b12)
  refine wp_seq_k (fun K hK => ?_)
  have HK := Lib.hid hK
  clear hK
  go_wp2_with (go_at_call 36; refine (do_open _ _ _ _ _ _ _ _ hr1 hlt0 _ _ _ _ HU.out).mono ?_; rintro e y2 ⟨⟨a2, cap2, rfl, hy2⟩, hd2⟩)
  refine HK.out _ _ ?_
  clear HK
  have hp2 := below1 y2 (Obj.cells #[.int .i64 ue, .bool uf, .string uv] 43)
  have hq2 := hd2.trans (hp2.mono hd2.size)
  have hc2 := hc1.trans (hq2.mono hsz1)
  have hsz2 := hc2.size
  have bq2 := heap_alloc_new y2 (Obj.cells #[.int .i64 ue, .bool uf, .string uv] 43)
  have hlq2 : y2.heap.size < (y2.alloc (Obj.cells #[.int .i64 ue, .bool uf, .string uv] 43)).heap.size := by simp
  have hr2 := hy2.below hp2
  have hsl2 := hs3.below hc2
  generalize y2.alloc (Obj.cells #[.int .i64 ue, .bool uf, .string uv] 43) = q2 at *
  have bq1 := (hq2.block y1.heap.size hlq1).trans bq1
  have hlq1 : y1.heap.size < q2.heap.size := Nat.lt_of_lt_of_le hlq1 hq2.size
  have hu2 := hr2
  obtain ⟨e0, e1, e2, e3⟩ := four ((hc2.block w.heap.size hlt').trans b11)
  obtain ⟨f0, f1, f2, f3⟩ := four ((hc2.block (w.heap.size + 1) hlt).trans b12)
  refine wp_seq_k (fun K hK => ?_)
  have HK := Lib.hid hK
  clear hK
  go_wp2_with (go_at_call 36; refine (do_open _ _ _ _ _ _ _ _ hsl2 hl _ _ _ _ HV.out).mono ?_; rintro e y3 ⟨⟨a3, cap3, rfl, hy3⟩, hd3⟩)
  refine HK.out _ _ ?_
  clear HK
  have hp3 := below1 y3 (Obj.cells #[.int .i64 ve, .bool vf, .string vv] 43)
  have hq3 := hd3.trans (hp3.mono hd3.size)
  have hc3 := hc2.trans (hq3.mono hsz2)
  have hsz3 := hc3.size
  have bq3 := heap_alloc_new y3 (Obj.cells #[.int .i64 ve, .bool vf, .string vv] 43)
  have hlq3 : y3.heap.size < (y3.alloc (Obj.cells #[.int .i64 ve, .bool vf, .string vv] 43)).heap.size := by simp
  have hr3 := hy3.below hp3
  have hsl3 := hs3.below hc3
  generalize y3.alloc (Obj.cells #[.int .i64 ve, .bool vf, .string vv] 43) = q3 at *
  have bq1 := (hq3.block y1.heap.size hlq1).trans bq1
  have hlq1 : y1.heap.size < q3.heap.size := Nat.lt_of_lt_of_le hlq1 hq3.size
  have bq2 := (hq3.block y2.heap.size hlq2).trans bq2
  have hlq2 : y2.heap.size < q3.heap.size := Nat.lt_of_lt_of_le hlq2 hq3.size
  have hu2 := hu2.below hq3
  obtain ⟨e0, e1, e2, e3⟩ := four ((hc3.block w.heap.size hlt').trans b11)
  obtain ⟨f0, f1, f2, f3⟩ := four ((hc3.block (w.heap.size + 1) hlt).trans b12)
  refine wp_seq_k (fun K hK => ?_)
  have HK := Lib.hid hK
  clear hK
  go_wp2_with (go_at_call 36; refine (do_open _ _ _ _ _ _ _ _ hr3 hlv0 _ _ _ _ HX.out).mono ?_; rintro e y4 ⟨⟨a4, cap4, rfl, hy4⟩, hd4⟩)
  refine HK.out _ _ ?_
  clear HK
  have hp4 := below1 y4 (Obj.cells #[.int .i64 xe, .bool xf, .string xv] 43)
  have hq4 := hd4.trans (hp4.mono hd4.size)
  have hc4 := hc3.trans (hq4.mono hsz3)
  have hsz4 := hc4.size
  have bq4 := heap_alloc_new y4 (Obj.cells #[.int .i64 xe, .bool xf, .string xv] 43)
  have hlq4 : y4.heap.size < (y4.alloc (Obj.cells #[.int .i64 xe, .bool xf, .string xv] 43)).heap.size := by simp
  have hr4 := hy4.below hp4
  have hsl4 := hs3.below hc4
  generalize y4.alloc (Obj.cells #[.int .i64 xe, .bool xf, .string xv] 43) = q4 at *
  have bq1 := (hq4.block y1.heap.size hlq1).trans bq1
  have hlq1 : y1.heap.size < q4.heap.size := Nat.lt_of_lt_of_le hlq1 hq4.size
  have bq2 := (hq4.block y2.heap.size hlq2).trans bq2
  have hlq2 : y2.heap.size < q4.heap.size := Nat.lt_of_lt_of_le hlq2 hq4.size
  have bq3 := (hq4.block y3.heap.size hlq3).trans bq3
  have hlq3 : y3.heap.size < q4.heap.size := Nat.lt_of_lt_of_le hlq3 hq4.size
  have hu2 := hu2.below hq4
  obtain ⟨e0, e1, e2, e3⟩ := four ((hc4.block w.heap.size hlt').trans b11)
  obtain ⟨f0, f1, f2, f3⟩ := four ((hc4.block (w.heap.size + 1) hlt).trans b12)
  have hfin := hb3.trans (hc4.mono hb3.size)
  obtain ⟨g0, g1, g2, _⟩ := trio bq1
  obtain ⟨k0, k1, k2, _⟩ := trio bq2
  obtain ⟨m0, m1, m2, _⟩ := trio bq3
  obtain ⟨n0, n1, n2, _⟩ := trio bq4
  clear e0 e1 e2 e3 f0 f1 f2 f3 c0 c1 c2 c3 d0 d1 d2 d3
  rcases HC.out with h | ⟨h, h2⟩ | ⟨h, h2, h3⟩ | ⟨h, h2, h3, h4⟩ | ⟨rfl, rfl, rfl, rfl, rfl, rfl, rfl, rfl, rfl⟩
  · go_wp2
    go_ret
    exact ⟨rfl, hfin⟩
  · go_wp2
    go_ret
    exact ⟨rfl, hfin⟩
  · go_wp2
    go_ret
    exact ⟨rfl, hfin⟩
  · go_wp2
    go_ret
    exact ⟨rfl, hfin⟩
  · go_wp2_with (go_at_call 37; refine (psame_any _ _ _ _ _ _ _ hu2.row hr4.row hlu0 hlu0 true (by simp)).mono ?_; rintro e w9 ⟨rfl, q, rfl⟩)
    go_ret
    exact ⟨rfl, below_drewN hfin q⟩

theorem bne_zero {n : Int} (h : n ≠ 0) : (n != 0) = true := by rw [bne_iff_ne]; exact h
theorem bne_zero' {n : Int} (h : n = 0) : (n != 0) = false := by rw [h]; rfl
theorem apart_law (a : Option Addr) (cap : Nat) (l : List Pr) (ak : Int) (akey aold aval : Tx) (bk : Int) (bkey bold bval : Tx) (w : World) (hs : SlP w a cap l) :
    Calls Try.prog 6 #[.slice a l.length cap, .agg #[.int .u8 ak, .string akey, .string aold, .string aval], .agg #[.int .u8 bk, .string bkey, .string bold, .string bval]] w fun e w' => e = .returned (.bool true) ∧ Below w.heap.size w w' := by
  cases hg : greatB l with
  | true => exact apart_bad a cap l ak akey aold aval bk bkey bold bval w hs (.inl hg)
  | false =>
  cases hm : mayS l with
  | false => exact apart_bad a cap l ak akey aold aval bk bkey bold bval w hs (.inr (.inl ⟨hg, hm⟩))
  | true =>
  cases ha : mayO ⟨ak, akey, aold, aval⟩ with
  | false => exact apart_bad a cap l ak akey aold aval bk bkey bold bval w hs (.inr (.inr (.inl ⟨hg, hm, ha⟩)))
  | true =>
  cases hb : mayO ⟨bk, bkey, bold, bval⟩ with
  | false => exact apart_bad a cap l ak akey aold aval bk bkey bold bval w hs (.inr (.inr (.inr (.inl ⟨hg, hm, ha, hb⟩))))
  | true =>
  by_cases hk : akey = bkey
  · exact apart_bad a cap l ak akey aold aval bk bkey bold bval w hs (.inr (.inr (.inr (.inr ⟨hg, hm, ha, hb, hk⟩))))
  have hl := (great_no hg).1
  obtain ⟨t, ⟨te, tf, tv⟩, ht⟩ : ∃ (t : List Pr) (r : Rp), doP l ⟨ak, akey, aold, aval⟩ = (t, r) := ⟨_, _, rfl⟩
  obtain ⟨u, ⟨ue, uf, uv⟩, hu⟩ : ∃ (u : List Pr) (r : Rp), doP t ⟨bk, bkey, bold, bval⟩ = (u, r) := ⟨_, _, rfl⟩
  obtain ⟨v, ⟨ve, vf, vv⟩, hv⟩ : ∃ (v : List Pr) (r : Rp), doP l ⟨bk, bkey, bold, bval⟩ = (v, r) := ⟨_, _, rfl⟩
  obtain ⟨x, ⟨xe, xf, xv⟩, hx⟩ : ∃ (x : List Pr) (r : Rp), doP v ⟨ak, akey, aold, aval⟩ = (x, r) := ⟨_, _, rfl⟩
  have mt : mayS t = true := by have := doP_may ⟨ak, akey, aold, aval⟩ hm; rw [ht] at this; exact this
  have mv : mayS v = true := by have := doP_may ⟨bk, bkey, bold, bval⟩ hm; rw [hv] at this; exact this
  have mu : mayS u = true := by have := doP_may ⟨bk, bkey, bold, bval⟩ mt; rw [hu] at this; exact this
  have mx : mayS x = true := by have := doP_may ⟨ak, akey, aold, aval⟩ mv; rw [hx] at this; exact this
  have l1 := (may_spec mt).1
  have l2 := (may_spec mu).1
  have l3 := (may_spec mv).1
  have l4 := (may_spec mx).1
  refine apart_good a cap l ak akey aold aval bk bkey bold bval w hs hg hm ha hb (tx_ne hk) (by omega) t u v x te ue ve xe tf uf vf xf tv uv vv xv ht hu hv hx (by omega) (by omega) (by omega) (by omega) ?_
  by_cases z1 : te = 0
  · by_cases z2 : ue = 0
    · by_cases z3 : ve = 0
      · by_cases z4 : xe = 0
        · right; right; right; right
          have e1 : (doP l ⟨ak, akey, aold, aval⟩).1 = t := by rw [ht]
          have e2 : (doP l ⟨bk, bkey, bold, bval⟩).1 = v := by rw [hv]
          have h := apart_same (a := ⟨ak, akey, aold, aval⟩) (b := ⟨bk, bkey, bold, bval⟩) hm hk (by rw [ht]; exact z1) (by rw [e1, hu]; exact z2) (by rw [hv]; exact z3) (by rw [e2, hx]; exact z4)
          rw [e1, e2, hu, hx, ht, hv] at h
          obtain ⟨h1, h2, h3⟩ := h
          injection h2 with h2 h4 h5
          injection h3 with h3 h6 h7
          exact ⟨z1, z2, z3, z4, h1, h4, h5, h6, h7⟩
        · exact .inr (.inr (.inr (.inl ⟨bne_zero' z1, bne_zero' z2, bne_zero' z3, bne_zero z4⟩)))
      · exact .inr (.inr (.inl ⟨bne_zero' z1, bne_zero' z2, bne_zero z3⟩))
    · exact .inr (.inl ⟨bne_zero' z1, bne_zero z2⟩)
  · exact .inl (bne_zero z1)
end Go.Proofs.Ytmnjmjbmnhppfaa
