/- The law KvOver, walked. -/
import Derived.Test.YtmnjmjbmnhppfaaK26
import Derived.Test.YtmnjmjbmnhppfaaRows
import Derived.WalkKit
import Derived.WalkSpells
import Derived.WalkLawsBesides
import Derived.Handy
import Derived.Deep.QuietTactic
import Derived.BigQuiet
import Derived.Deep.DeepCutAuto
import Derived.Lib.Hide
import Derived.RegionTactic
import Derived.ChangeAlike
import Derived.Laws.ResultCell
import Derived.Outline
namespace Go.Proofs.Ytmnjmjbmnhppfaa
open Go.RowKit

theorem frz_of {w : World} {g : Nat} {cs : Array Value} {t : TypeId} (h : w.heap[g]? = some (.cells cs t (0, 0))) (i : Nat) : w.frozen? ⟨g, i, none⟩ = false := by simp [World.frozen?, h]

set_option maxRecDepth 100000 in
set_option maxHeartbeats 4000000 in
theorem over_bad2 (a : Option Addr) (cap : Nat) (l : List Pr) (ak : Int) (akey aold aval : Tx) (bkey bold bval : Tx) (w : World) (hs : SlP w a cap l) 
    (hbad : greatB l = true ∨ (greatB l = false ∧ mayS l = false) ∨ (greatB l = false ∧ mayS l = true ∧ mayO ⟨ak, akey, aold, aval⟩ = false) ∨ (greatB l = false ∧ mayS l = true ∧ mayO ⟨ak, akey, aold, aval⟩ = true ∧ mayO ⟨2, akey, ⟨#[]⟩, bval⟩ = false)) :
    Calls Try.prog 7 #[.slice a l.length cap, .agg #[.int .u8 ak, .string akey, .string aold, .string aval], .agg #[.int .u8 2, .string bkey, .string bold, .string bval]] w fun e w' => e = .returned (.bool true) ∧ Below w.heap.size w w' := by
  have HBAD := Lib.hid hbad
  clear hbad
  have hbN : Below w.heap.size w ((w.alloc (Obj.cells #[.int .u8 ak, .string akey, .string aold, .string aval] 61)).alloc (Obj.cells #[.int .u8 2, .string bkey, .string bold, .string bval] 61)) := ((Below.refl _ _).alloc (Nat.le_refl _) _).alloc (by simp) _
  have b11 := (two_new w (Obj.cells #[.int .u8 ak, .string akey, .string aold, .string aval] 61) (Obj.cells #[.int .u8 2, .string bkey, .string bold, .string bval] 61)).trans (heap_alloc_new w _)
  have b12 := heap_alloc2_new w (Obj.cells #[.int .u8 ak, .string akey, .string aold, .string aval] 61) (Obj.cells #[.int .u8 2, .string bkey, .string bold, .string bval] 61)
  have hlt : w.heap.size + 1 < ((w.alloc (Obj.cells #[.int .u8 ak, .string akey, .string aold, .string aval] 61)).alloc (Obj.cells #[.int .u8 2, .string bkey, .string bold, .string bval] 61)).heap.size := by simp
  have hlt' : w.heap.size < ((w.alloc (Obj.cells #[.int .u8 ak, .string akey, .string aold, .string aval] 61)).alloc (Obj.cells #[.int .u8 2, .string bkey, .string bold, .string bval] 61)).heap.size := by omega
  go_enter Try.func7, Try.ntmps7
  refine wp_seq_k (fun K hK => ?_)
  have HK := Lib.hid hK
  clear hK
  go_wp2
  refine HK.out _ _ ?_
  clear HK
  generalize (w.alloc (Obj.cells #[.int .u8 ak, .string akey, .string aold, .string aval] 61)).alloc (Obj.cells #[.int .u8 2, .string bkey, .string bold, .string bval] 61) = w0 at *
  refine wp_seq_k (fun K hK => ?_)
  have HK := Lib.hid hK
  clear hK
  go_wp2_with (go_at_call 30; refine (awake_any _).mono ?_; rintro e w2 ⟨rfl, hb1⟩)
  refine HK.out _ _ ?_
  clear HK
  have hb3 := hbN.trans (hb1.mono hbN.size)
  have b11 := (hb1.block w.heap.size hlt').trans b11
  have b12 := (hb1.block (w.heap.size + 1) hlt).trans b12
  have hs1 := hb1.size
  have hlt : w.heap.size + 1 < w2.heap.size := by omega
  have hlt' : w.heap.size < w2.heap.size := by omega
  obtain ⟨c0, c1, c2, c3⟩ := four b11
  obtain ⟨d0, d1, d2, d3⟩ := four b12
  have fz1 := frz_of b12 1
  refine wp_seq_k (fun K hK => ?_)
  have HK := Lib.hid hK
  clear hK
  go_wp2
  refine HK.out _ _ ?_
  clear HK
  have b11 := (heap_setCell_other w2 ⟨w.heap.size + 1, 1, none⟩ w.heap.size (.string akey) (by simp)).trans b11
  have b12 : (w2.setCell ⟨w.heap.size + 1, 1, none⟩ (.string akey)).heap[w.heap.size + 1]? = some (.cells #[.int .u8 2, .string akey, .string bold, .string bval] 61 (0, 0)) := heap_setCell_same w2 (w.heap.size + 1) 1 _ _ _ b12
  have hb3 := hb3.setCell (p := ⟨w.heap.size + 1, 1, none⟩) (by simp) (.string akey)
  have hlt : w.heap.size + 1 < (w2.setCell ⟨w.heap.size + 1, 1, none⟩ (.string akey)).heap.size := by simp; omega
  have hlt' : w.heap.size < (w2.setCell ⟨w.heap.size + 1, 1, none⟩ (.string akey)).heap.size := by omega
  clear c0 c1 c2 c3 d0 d1 d2 d3 fz1
  generalize w2.setCell ⟨w.heap.size + 1, 1, none⟩ (.string akey) = w3 at *
  obtain ⟨d0, d1, d2, d3⟩ := four b12
  have fz2 := frz_of b12 2
  refine wp_seq_k (fun K hK => ?_)
  have HK := Lib.hid hK
  clear hK
  go_wp2
  refine HK.out _ _ ?_
  clear HK
  have b11 := (heap_setCell_other w3 ⟨w.heap.size + 1, 2, none⟩ w.heap.size (.string ⟨#[]⟩) (by simp)).trans b11
  have b12 : (w3.setCell ⟨w.heap.size + 1, 2, none⟩ (.string ⟨#[]⟩)).heap[w.heap.size + 1]? = some (.cells #[.int .u8 2, .string akey, .string ⟨#[]⟩, .string bval] 61 (0, 0)) := heap_setCell_same w3 (w.heap.size + 1) 2 _ _ _ b12
  have hb3 := hb3.setCell (p := ⟨w.heap.size + 1, 2, none⟩) (by simp) (.string ⟨#[]⟩)
  have hlt : w.heap.size + 1 < (w3.setCell ⟨w.heap.size + 1, 2, none⟩ (.string ⟨#[]⟩)).heap.size := by simp; omega
  have hlt' : w.heap.size < (w3.setCell ⟨w.heap.size + 1, 2, none⟩ (.string ⟨#[]⟩)).heap.size := by omega
  clear d0 d1 d2 d3 fz2
  generalize w3.setCell ⟨w.heap.size + 1, 2, none⟩ (.string ⟨#[]⟩) = w3 at *
  have hs3 := hs.below hb3
  have hlen : greatB l = false → l.length ≤ 1000 := fun h => by have := (great_no h).1; omega
  have HL := Lib.hid hlen
  clear hlen
  rcases HBAD.out with h | ⟨h, h2⟩ | ⟨h, h2, h3⟩ | ⟨h, h2, h3, h4⟩
  · have HG := Lib.hid h
    clear h
    go_wp2_with (go_at_call 32; refine (great_any _ _ _ _ hs3).mono ?_; rintro e w' ⟨rfl, rfl⟩; rw [HG.out])
    go_ret
    exact ⟨rfl, hb3⟩
  · have hl := HL.out h
    have HG := Lib.hid h
    have HM := Lib.hid h2
    clear h h2
    go_wp2_with (first
      | (go_at_call 32; refine (great_any _ _ _ _ hs3).mono ?_; rintro e w' ⟨rfl, rfl⟩; rw [HG.out])
      | (go_at_call 33; refine (may_any _ _ _ _ hs3.row hl).mono ?_; rintro e w4 ⟨rfl, hb4⟩; rw [HM.out]; obtain ⟨c0, c1, c2, c3⟩ := four ((hb4.block w.heap.size hlt').trans b11)))
    go_ret
    exact ⟨rfl, hb3.trans (hb4.mono hb3.size)⟩
  · have hl := HL.out h
    have HG := Lib.hid h
    have HM := Lib.hid h2
    have HA := Lib.hid h3
    clear h h2 h3
    go_wp2_with (first
      | (go_at_call 32; refine (great_any _ _ _ _ hs3).mono ?_; rintro e w' ⟨rfl, rfl⟩; rw [HG.out])
      | (go_at_call 33; refine (may_any _ _ _ _ hs3.row hl).mono ?_; rintro e w4 ⟨rfl, hb4⟩; rw [HM.out]; obtain ⟨c0, c1, c2, c3⟩ := four ((hb4.block w.heap.size hlt').trans b11))
      | (go_at_call 34; (with_reducible refine (pmayO_any _ _ _ _ w4 _ HA.out).mono ?_); rintro e w5 ⟨rfl, hb5⟩; have hb35 := hb4.trans (hb5.mono hb4.size); obtain ⟨d0, d1, d2, d3⟩ := four ((hb35.block (w.heap.size + 1) hlt).trans b12)))
    go_ret
    exact ⟨rfl, hb3.trans (hb35.mono hb3.size)⟩
  · have hl := HL.out h
    have HG := Lib.hid h
    have HM := Lib.hid h2
    have HA := Lib.hid h3
    have HB := Lib.hid h4
    clear h h2 h3 h4
    go_wp2_with (first
      | (go_at_call 32; refine (great_any _ _ _ _ hs3).mono ?_; rintro e w' ⟨rfl, rfl⟩; rw [HG.out])
      | (go_at_call 33; refine (may_any _ _ _ _ hs3.row hl).mono ?_; rintro e w4 ⟨rfl, hb4⟩; rw [HM.out]; obtain ⟨c0, c1, c2, c3⟩ := four ((hb4.block w.heap.size hlt').trans b11))
      | (go_at_call 34; (with_reducible refine (pmayO_any _ _ _ _ w4 _ HA.out).mono ?_); rintro e w5 ⟨rfl, hb5⟩; have hb35 := hb4.trans (hb5.mono hb4.size); obtain ⟨d0, d1, d2, d3⟩ := four ((hb35.block (w.heap.size + 1) hlt).trans b12))
      | (go_at_call 34; (with_reducible refine (pmayO_any _ _ _ _ w5 _ HB.out).mono ?_); rintro e w6 ⟨rfl, hb6⟩; have hb36 := hb35.trans (hb6.mono hb35.size); obtain ⟨e0, e1, e2, e3⟩ := four ((hb36.block w.heap.size hlt').trans b11); obtain ⟨f0, f1, f2, f3⟩ := four ((hb36.block (w.heap.size + 1) hlt).trans b12)))
    go_ret
    exact ⟨rfl, hb3.trans (hb36.mono hb3.size)⟩

set_option maxRecDepth 100000 in
set_option maxHeartbeats 4000000 in
theorem over_good2 (a : Option Addr) (cap : Nat) (l : List Pr) (ak : Int) (akey aold aval : Tx) (bkey bold bval : Tx) (w : World) (hs : SlP w a cap l)  (hg : greatB l = false) (hm : mayS l = true) (ha : mayO ⟨ak, akey, aold, aval⟩ = true) (hb : mayO ⟨2, akey, ⟨#[]⟩, bval⟩ = true) (hl : l.length ≤ 1000)
    (t u v : List Pr) (te ue ve : Int) (tf uf vf : Bool) (tv uv vv : Tx) (ht : doP l ⟨ak, akey, aold, aval⟩ = (t, ⟨te, tf, tv⟩)) (hu : doP t ⟨2, akey, ⟨#[]⟩, bval⟩ = (u, ⟨ue, uf, uv⟩)) (hv : doP l ⟨2, akey, ⟨#[]⟩, bval⟩ = (v, ⟨ve, vf, vv⟩))
    (hlt0 : t.length ≤ 1000) (hlu0 : u.length ≤ 1000)
    (hcase : (te != 0) = true ∨ ((te != 0) = false ∧ (ue != 0) = true) ∨ ((te != 0) = false ∧ (ue != 0) = false ∧ (ve != 0) = true) ∨ (te = 0 ∧ ue = 0 ∧ ve = 0 ∧ u = v)) :
    Calls Try.prog 7 #[.slice a l.length cap, .agg #[.int .u8 ak, .string akey, .string aold, .string aval], .agg #[.int .u8 2, .string bkey, .string bold, .string bval]] w fun e w' => e = .returned (.bool true) ∧ Below w.heap.size w w' := by
  have HG := Lib.hid hg
  have HM := Lib.hid hm
  have HA := Lib.hid ha
  have HB := Lib.hid hb
  have HT := Lib.hid ht
  have HU := Lib.hid hu
  have HV := Lib.hid hv
  have HC := Lib.hid hcase
  clear hg hm ha hb ht hu hv hcase
  have hbN : Below w.heap.size w ((w.alloc (Obj.cells #[.int .u8 ak, .string akey, .string aold, .string aval] 61)).alloc (Obj.cells #[.int .u8 2, .string bkey, .string bold, .string bval] 61)) := ((Below.refl _ _).alloc (Nat.le_refl _) _).alloc (by simp) _
  have b11 := (two_new w (Obj.cells #[.int .u8 ak, .string akey, .string aold, .string aval] 61) (Obj.cells #[.int .u8 2, .string bkey, .string bold, .string bval] 61)).trans (heap_alloc_new w _)
  have b12 := heap_alloc2_new w (Obj.cells #[.int .u8 ak, .string akey, .string aold, .string aval] 61) (Obj.cells #[.int .u8 2, .string bkey, .string bold, .string bval] 61)
  have hlt : w.heap.size + 1 < ((w.alloc (Obj.cells #[.int .u8 ak, .string akey, .string aold, .string aval] 61)).alloc (Obj.cells #[.int .u8 2, .string bkey, .string bold, .string bval] 61)).heap.size := by simp
  have hlt' : w.heap.size < ((w.alloc (Obj.cells #[.int .u8 ak, .string akey, .string aold, .string aval] 61)).alloc (Obj.cells #[.int .u8 2, .string bkey, .string bold, .string bval] 61)).heap.size := by omega
  go_enter Try.func7, Try.ntmps7
  refine wp_seq_k (fun K hK => ?_)
  have HK := Lib.hid hK
  clear hK
  go_wp2
  refine HK.out _ _ ?_
  clear HK
  generalize (w.alloc (Obj.cells #[.int .u8 ak, .string akey, .string aold, .string aval] 61)).alloc (Obj.cells #[.int .u8 2, .string bkey, .string bold, .string bval] 61) = w0 at *
  refine wp_seq_k (fun K hK => ?_)
  have HK := Lib.hid hK
  clear hK
  go_wp2_with (go_at_call 30; refine (awake_any _).mono ?_; rintro e w2 ⟨rfl, hb1⟩)
  refine HK.out _ _ ?_
  clear HK
  have hb3 := hbN.trans (hb1.mono hbN.size)
  have b11 := (hb1.block w.heap.size hlt').trans b11
  have b12 := (hb1.block (w.heap.size + 1) hlt).trans b12
  have hs1 := hb1.size
  have hlt : w.heap.size + 1 < w2.heap.size := by omega
  have hlt' : w.heap.size < w2.heap.size := by omega
  obtain ⟨c0, c1, c2, c3⟩ := four b11
  obtain ⟨d0, d1, d2, d3⟩ := four b12
  have fz1 := frz_of b12 1
  refine wp_seq_k (fun K hK => ?_)
  have HK := Lib.hid hK
  clear hK
  go_wp2
  refine HK.out _ _ ?_
  clear HK
  have b11 := (heap_setCell_other w2 ⟨w.heap.size + 1, 1, none⟩ w.heap.size (.string akey) (by simp)).trans b11
  have b12 : (w2.setCell ⟨w.heap.size + 1, 1, none⟩ (.string akey)).heap[w.heap.size + 1]? = some (.cells #[.int .u8 2, .string akey, .string bold, .string bval] 61 (0, 0)) := heap_setCell_same w2 (w.heap.size + 1) 1 _ _ _ b12
  have hb3 := hb3.setCell (p := ⟨w.heap.size + 1, 1, none⟩) (by simp) (.string akey)
  have hlt : w.heap.size + 1 < (w2.setCell ⟨w.heap.size + 1, 1, none⟩ (.string akey)).heap.size := by simp; omega
  have hlt' : w.heap.size < (w2.setCell ⟨w.heap.size + 1, 1, none⟩ (.string akey)).heap.size := by omega
  clear c0 c1 c2 c3 d0 d1 d2 d3 fz1
  generalize w2.setCell ⟨w.heap.size + 1, 1, none⟩ (.string akey) = w3 at *
  obtain ⟨d0, d1, d2, d3⟩ := four b12
  have fz2 := frz_of b12 2
  refine wp_seq_k (fun K hK => ?_)
  have HK := Lib.hid hK
  clear hK
  go_wp2
  refine HK.out _ _ ?_
  clear HK
  have b11 := (heap_setCell_other w3 ⟨w.heap.size + 1, 2, none⟩ w.heap.size (.string ⟨#[]⟩) (by simp)).trans b11
  have b12 : (w3.setCell ⟨w.heap.size + 1, 2, none⟩ (.string ⟨#[]⟩)).heap[w.heap.size + 1]? = some (.cells #[.int .u8 2, .string akey, .string ⟨#[]⟩, .string bval] 61 (0, 0)) := heap_setCell_same w3 (w.heap.size + 1) 2 _ _ _ b12
  have hb3 := hb3.setCell (p := ⟨w.heap.size + 1, 2, none⟩) (by simp) (.string ⟨#[]⟩)
  have hlt : w.heap.size + 1 < (w3.setCell ⟨w.heap.size + 1, 2, none⟩ (.string ⟨#[]⟩)).heap.size := by simp; omega
  have hlt' : w.heap.size < (w3.setCell ⟨w.heap.size + 1, 2, none⟩ (.string ⟨#[]⟩)).heap.size := by omega
  clear d0 d1 d2 d3 fz2
  generalize w3.setCell ⟨w.heap.size + 1, 2, none⟩ (.string ⟨#[]⟩) = w3 at *
  have hs3 := hs.below hb3
  refine wp_seq_k (fun K hK => ?_)
  have HK := Lib.hid hK
  clear hK
  go_wp2_with (first
      | (go_at_call 32; refine (great_any _ _ _ _ hs3).mono ?_; rintro e w' ⟨rfl, rfl⟩; rw [HG.out])
      | (go_at_call 33; refine (may_any _ _ _ _ hs3.row hl).mono ?_; rintro e w4 ⟨rfl, hb4⟩; rw [HM.out]; obtain ⟨c0, c1, c2, c3⟩ := four ((hb4.block w.heap.size hlt').trans b11))
      | (go_at_call 34; (with_reducible refine (pmayO_any _ _ _ _ w4 _ HA.out).mono ?_); rintro e w5 ⟨rfl, hb5⟩; have hb35 := hb4.trans (hb5.mono hb4.size); obtain ⟨d0, d1, d2, d3⟩ := four ((hb35.block (w.heap.size + 1) hlt).trans b12))
      | (go_at_call 34; (with_reducible refine (pmayO_any _ _ _ _ w5 _ HB.out).mono ?_); rintro e w6 ⟨rfl, hb6⟩; have hb36 := hb35.trans (hb6.mono hb35.size); obtain ⟨e0, e1, e2, e3⟩ := four ((hb36.block w.heap.size hlt').trans b11); obtain ⟨f0, f1, f2, f3⟩ := four ((hb36.block (w.heap.size + 1) hlt).trans b12)))
  refine HK.out _ _ ?_
  clear HK
  have hc0 : Below w3.heap.size w3 w6 := hb36
  have hsz0 := hc0.size
  have hsl0 := hs3.below hc0
  refine wp_seq_k (fun K hK => ?_)
  have HK := Lib.hid hK
  clear hK
  go_wp2_with (go_at_call 36; refine (do_open _ _ _ _ _ _ _ _ hsl0 hl _ _ _ _ HT.out).mono ?_; rintro e y1 ⟨⟨a1, cap1, rfl, hy1⟩, hd1⟩)
  refine HK.out _ _ ?_
  clear HK
  have hp1 := below1 y1 (Obj.cells #[.int .i64 te, .bool tf, .string tv] 43)
  have hq1 := hd1.trans (hp1.mono hd1.size)
  have hc1 := hc0.trans (hq1.mono hsz0)
  have hsz1 := hc1.size
  have bq1 := heap_alloc_new y1 (Obj.cells #[.int .i64 te, .bool tf, .string tv] 43)
  have hlq1 : y1.heap.size < (y1.alloc (Obj.cells #[.int .i64 te, .bool tf, .string tv] 43)).heap.size := by simp
  have hr1 := hy1.below hp1
  have hsl1 := hs3.below hc1
  generalize y1.alloc (Obj.cells #[.int .i64 te, .bool tf, .string tv] 43) = q1 at *
  obtain ⟨e0, e1, e2, e3⟩ := four ((hc1.block w.heap.size hlt').trans b11)
  obtain ⟨f0, f1, f2, f3⟩ := four ((hc1.block (w.heap.size + 1) hlt).trans b12)
  refine wp_seq_k (fun K hK => ?_)
  have HK := Lib.hid hK
  clear hK
  go_wp2_with (go_at_call 36; refine (do_open _ _ _ _ _ _ _ _ hr1 hlt0 _ _ _ _ HU.out).mono ?_; rintro e y2 ⟨⟨a2, cap2, rfl, hy2⟩, hd2⟩)
  refine HK.out _ _ ?_
  clear HK
  have hp2 := below1 y2 (Obj.cells #[.int .i64 ue, .bool uf, .string uv] 43)
  have hq2 := hd2.trans (hp2.mono hd2.size)
  have hc2 := hc1.trans (hq2.mono hsz1)
  have hsz2 := hc2.size
  have bq2 := heap_alloc_new y2 (Obj.cells #[.int .i64 ue, .bool uf, .string uv] 43)
  have hlq2 : y2.heap.size < (y2.alloc (Obj.cells #[.int .i64 ue, .bool uf, .string uv] 43)).heap.size := by simp
  have hr2 := hy2.below hp2
  have hsl2 := hs3.below hc2
  generalize y2.alloc (Obj.cells #[.int .i64 ue, .bool uf, .string uv] 43) = q2 at *
  have bq1 := (hq2.block y1.heap.size hlq1).trans bq1
  have hlq1 : y1.heap.size < q2.heap.size := Nat.lt_of_lt_of_le hlq1 hq2.size
  have hu2 := hr2
  obtain ⟨e0, e1, e2, e3⟩ := four ((hc2.block w.heap.size hlt').trans b11)
  obtain ⟨f0, f1, f2, f3⟩ := four ((hc2.block (w.heap.size + 1) hlt).trans b12)
  refine wp_seq_k (fun K hK => ?_)
  have HK := Lib.hid hK
  clear hK
  go_wp2_with (go_at_call 36; refine (do_open _ _ _ _ _ _ _ _ hsl2 hl _ _ _ _ HV.out).mono ?_; rintro e y3 ⟨⟨a3, cap3, rfl, hy3⟩, hd3⟩)
  refine HK.out _ _ ?_
  clear HK
  have hp3 := below1 y3 (Obj.cells #[.int .i64 ve, .bool vf, .string vv] 43)
  have hq3 := hd3.trans (hp3.mono hd3.size)
  have hc3 := hc2.trans (hq3.mono hsz2)
  have hsz3 := hc3.size
  have bq3 := heap_alloc_new y3 (Obj.cells #[.int .i64 ve, .bool vf, .string vv] 43)
  have hlq3 : y3.heap.size < (y3.alloc (Obj.cells #[.int .i64 ve, .bool vf, .string vv] 43)).heap.size := by simp
  have hr3 := hy3.below hp3
  have hsl3 := hs3.below hc3
  generalize y3.alloc (Obj.cells #[.int .i64 ve, .bool vf, .string vv] 43) = q3 at *
  have bq1 := (hq3.block y1.heap.size hlq1).trans bq1
  have hlq1 : y1.heap.size < q3.heap.size := Nat.lt_of_lt_of_le hlq1 hq3.size
  have bq2 := (hq3.block y2.heap.size hlq2).trans bq2
  have hlq2 : y2.heap.size < q3.heap.size := Nat.lt_of_lt_of_le hlq2 hq3.size
  have hu2 := hu2.below hq3
  obtain ⟨e0, e1, e2, e3⟩ := four ((hc3.block w.heap.size hlt').trans b11)
  obtain ⟨f0, f1, f2, f3⟩ := four ((hc3.block (w.heap.size + 1) hlt).trans b12)
  have hfin := hb3.trans (hc3.mono hb3.size)
  obtain ⟨g0, g1, g2, _⟩ := trio bq1
  obtain ⟨k0, k1, k2, _⟩ := trio bq2
  obtain ⟨m0, m1, m2, _⟩ := trio bq3
  clear e0 e1 e2 e3 f0 f1 f2 f3 c0 c1 c2 c3 d0 d1 d2 d3
  rcases HC.out with h | ⟨h, h2⟩ | ⟨h, h2, h3⟩ | ⟨rfl, rfl, rfl, rfl⟩
  · go_wp2
    go_ret
    exact ⟨rfl, hfin⟩
  · go_wp2
    go_ret
    exact ⟨rfl, hfin⟩
  · go_wp2
    go_ret
    exact ⟨rfl, hfin⟩
  · go_wp2_with (go_at_call 37; refine (psame_any _ _ _ _ _ _ _ hu2.row hr3.row hlu0 hlu0 true (by simp)).mono ?_; rintro e w9 ⟨rfl, q, rfl⟩)
    go_ret
    exact ⟨rfl, below_drewN hfin q⟩

theorem over_law2 (a : Option Addr) (cap : Nat) (l : List Pr) (ak : Int) (akey aold aval : Tx) (bkey bold bval : Tx) (w : World) (hs : SlP w a cap l)  :
    Calls Try.prog 7 #[.slice a l.length cap, .agg #[.int .u8 ak, .string akey, .string aold, .string aval], .agg #[.int .u8 2, .string bkey, .string bold, .string bval]] w fun e w' => e = .returned (.bool true) ∧ Below w.heap.size w w' := by
  cases hg : greatB l with
  | true => exact over_bad2 a cap l ak akey aold aval bkey bold bval w hs (.inl hg)
  | false =>
  cases hm : mayS l with
  | false => exact over_bad2 a cap l ak akey aold aval bkey bold bval w hs (.inr (.inl ⟨hg, hm⟩))
  | true =>
  cases ha : mayO ⟨ak, akey, aold, aval⟩ with
  | false => exact over_bad2 a cap l ak akey aold aval bkey bold bval w hs (.inr (.inr (.inl ⟨hg, hm, ha⟩)))
  | true =>
  cases hb : mayO ⟨2, akey, ⟨#[]⟩, bval⟩ with
  | false => exact over_bad2 a cap l ak akey aold aval bkey bold bval w hs (.inr (.inr (.inr ⟨hg, hm, ha, hb⟩)))
  | true =>
  have hl := (great_no hg).1
  obtain ⟨t, ⟨te, tf, tv⟩, ht⟩ : ∃ (t : List Pr) (r : Rp), doP l ⟨ak, akey, aold, aval⟩ = (t, r) := ⟨_, _, rfl⟩
  obtain ⟨u, ⟨ue, uf, uv⟩, hu⟩ : ∃ (u : List Pr) (r : Rp), doP t ⟨2, akey, ⟨#[]⟩, bval⟩ = (u, r) := ⟨_, _, rfl⟩
  obtain ⟨v, ⟨ve, vf, vv⟩, hv⟩ : ∃ (v : List Pr) (r : Rp), doP l ⟨2, akey, ⟨#[]⟩, bval⟩ = (v, r) := ⟨_, _, rfl⟩
  have mt : mayS t = true := by have := doP_may ⟨ak, akey, aold, aval⟩ hm; rw [ht] at this; exact this
  have mu : mayS u = true := by have := doP_may ⟨2, akey, ⟨#[]⟩, bval⟩ mt; rw [hu] at this; exact this
  have l1 := (may_spec mt).1
  have l2 := (may_spec mu).1
  refine over_good2 a cap l ak akey aold aval bkey bold bval w hs hg hm ha hb (by omega) t u v te ue ve tf uf vf tv uv vv ht hu hv (by omega) (by omega) ?_
  by_cases z1 : te = 0
  · by_cases z2 : ue = 0
    · by_cases z3 : ve = 0
      · right; right; right
        have e1 : (doP l ⟨ak, akey, aold, aval⟩).1 = t := by rw [ht]
        have h := over_same (a := ⟨ak, akey, aold, aval⟩) (b := ⟨2, akey, ⟨#[]⟩, bval⟩) hm rfl (by first | exact .inl rfl | exact .inr rfl) (by rw [ht]; exact z1) (by rw [e1, hu]; exact z2) (by rw [hv]; exact z3)
        rw [e1, hu, hv] at h
        exact ⟨z1, z2, z3, h⟩
      · exact .inr (.inr (.inl ⟨bne_zero' z1, bne_zero' z2, bne_zero z3⟩))
    · exact .inr (.inl ⟨bne_zero' z1, bne_zero z2⟩)
  · exact .inl (bne_zero z1)

set_option maxRecDepth 100000 in
set_option maxHeartbeats 4000000 in
theorem over_bad3 (a : Option Addr) (cap : Nat) (l : List Pr) (ak : Int) (akey aold aval : Tx) (bkey bold bval : Tx) (w : World) (hs : SlP w a cap l) 
    (hbad : greatB l = true ∨ (greatB l = false ∧ mayS l = false) ∨ (greatB l = false ∧ mayS l = true ∧ mayO ⟨ak, akey, aold, aval⟩ = false) ∨ (greatB l = false ∧ mayS l = true ∧ mayO ⟨ak, akey, aold, aval⟩ = true ∧ mayO ⟨3, akey, bold, bval⟩ = false)) :
    Calls Try.prog 7 #[.slice a l.length cap, .agg #[.int .u8 ak, .string akey, .string aold, .string aval], .agg #[.int .u8 3, .string bkey, .string bold, .string bval]] w fun e w' => e = .returned (.bool true) ∧ Below w.heap.size w w' := by
  have HBAD := Lib.hid hbad
  clear hbad
  have hbN : Below w.heap.size w ((w.alloc (Obj.cells #[.int .u8 ak, .string akey, .string aold, .string aval] 61)).alloc (Obj.cells #[.int .u8 3, .string bkey, .string bold, .string bval] 61)) := ((Below.refl _ _).alloc (Nat.le_refl _) _).alloc (by simp) _
  have b11 := (two_new w (Obj.cells #[.int .u8 ak, .string akey, .string aold, .string aval] 61) (Obj.cells #[.int .u8 3, .string bkey, .string bold, .string bval] 61)).trans (heap_alloc_new w _)
  have b12 := heap_alloc2_new w (Obj.cells #[.int .u8 ak, .string akey, .string aold, .string aval] 61) (Obj.cells #[.int .u8 3, .string bkey, .string bold, .string bval] 61)
  have hlt : w.heap.size + 1 < ((w.alloc (Obj.cells #[.int .u8 ak, .string akey, .string aold, .string aval] 61)).alloc (Obj.cells #[.int .u8 3, .string bkey, .string bold, .string bval] 61)).heap.size := by simp
  have hlt' : w.heap.size < ((w.alloc (Obj.cells #[.int .u8 ak, .string akey, .string aold, .string aval] 61)).alloc (Obj.cells #[.int .u8 3, .string bkey, .string bold, .string bval] 61)).heap.size := by omega
  go_enter Try.func7, Try.ntmps7
  refine wp_seq_k (fun K hK => ?_)
  have HK := Lib.hid hK
  clear hK
  go_wp2
  refine HK.out _ _ ?_
  clear HK
  generalize (w.alloc (Obj.cells #[.int .u8 ak, .string akey, .string aold, .string aval] 61)).alloc (Obj.cells #[.int .u8 3, .string bkey, .string bold, .string bval] 61) = w0 at *
  refine wp_seq_k (fun K hK => ?_)
  have HK := Lib.hid hK
  clear hK
  go_wp2_with (go_at_call 30; refine (awake_any _).mono ?_; rintro e w2 ⟨rfl, hb1⟩)
  refine HK.out _ _ ?_
  clear HK
  have hb3 := hbN.trans (hb1.mono hbN.size)
  have b11 := (hb1.block w.heap.size hlt').trans b11
  have b12 := (hb1.block (w.heap.size + 1) hlt).trans b12
  have hs1 := hb1.size
  have hlt : w.heap.size + 1 < w2.heap.size := by omega
  have hlt' : w.heap.size < w2.heap.size := by omega
  obtain ⟨c0, c1, c2, c3⟩ := four b11
  obtain ⟨d0, d1, d2, d3⟩ := four b12
  have fz1 := frz_of b12 1
  refine wp_seq_k (fun K hK => ?_)
  have HK := Lib.hid hK
  clear hK
  go_wp2
  refine HK.out _ _ ?_
  clear HK
  have b11 := (heap_setCell_other w2 ⟨w.heap.size + 1, 1, none⟩ w.heap.size (.string akey) (by simp)).trans b11
  have b12 : (w2.setCell ⟨w.heap.size + 1, 1, none⟩ (.string akey)).heap[w.heap.size + 1]? = some (.cells #[.int .u8 3, .string akey, .string bold, .string bval] 61 (0, 0)) := heap_setCell_same w2 (w.heap.size + 1) 1 _ _ _ b12
  have hb3 := hb3.setCell (p := ⟨w.heap.size + 1, 1, none⟩) (by simp) (.string akey)
  have hlt : w.heap.size + 1 < (w2.setCell ⟨w.heap.size + 1, 1, none⟩ (.string akey)).heap.size := by simp; omega
  have hlt' : w.heap.size < (w2.setCell ⟨w.heap.size + 1, 1, none⟩ (.string akey)).heap.size := by omega
  clear c0 c1 c2 c3 d0 d1 d2 d3 fz1
  generalize w2.setCell ⟨w.heap.size + 1, 1, none⟩ (.string akey) = w3 at *
  obtain ⟨d0, d1, d2, d3⟩ := four b12
  have fz2 := frz_of b12 2
  refine wp_seq_k (fun K hK => ?_)
  have HK := Lib.hid hK
  clear hK
  go_wp2
  refine HK.out _ _ ?_
  clear HK
  clear d0 d1 d2 d3 fz2
  have hs3 := hs.below hb3
  have hlen : greatB l = false → l.length ≤ 1000 := fun h => by have := (great_no h).1; omega
  have HL := Lib.hid hlen
  clear hlen
  rcases HBAD.out with h | ⟨h, h2⟩ | ⟨h, h2, h3⟩ | ⟨h, h2, h3, h4⟩
  · have HG := Lib.hid h
    clear h
    go_wp2_with (go_at_call 32; refine (great_any _ _ _ _ hs3).mono ?_; rintro e w' ⟨rfl, rfl⟩; rw [HG.out])
    go_ret
    exact ⟨rfl, hb3⟩
  · have hl := HL.out h
    have HG := Lib.hid h
    have HM := Lib.hid h2
    clear h h2
    go_wp2_with (first
      | (go_at_call 32; refine (great_any _ _ _ _ hs3).mono ?_; rintro e w' ⟨rfl, rfl⟩; rw [HG.out])
      | (go_at_call 33; refine (may_any _ _ _ _ hs3.row hl).mono ?_; rintro e w4 ⟨rfl, hb4⟩; rw [HM.out]; obtain ⟨c0, c1, c2, c3⟩ := four ((hb4.block w.heap.size hlt').trans b11)))
    go_ret
    exact ⟨rfl, hb3.trans (hb4.mono hb3.size)⟩
  · have hl := HL.out h
    have HG := Lib.hid h
    have HM := Lib.hid h2
    have HA := Lib.hid h3
    clear h h2 h3
    go_wp2_with (first
      | (go_at_call 32; refine (great_any _ _ _ _ hs3).mono ?_; rintro e w' ⟨rfl, rfl⟩; rw [HG.out])
      | (go_at_call 33; refine (may_any _ _ _ _ hs3.row hl).mono ?_; rintro e w4 ⟨rfl, hb4⟩; rw [HM.out]; obtain ⟨c0, c1, c2, c3⟩ := four ((hb4.block w.heap.size hlt').trans b11))
      | (go_at_call 34; (with_reducible refine (pmayO_any _ _ _ _ w4 _ HA.out).mono ?_); rintro e w5 ⟨rfl, hb5⟩; have hb35 := hb4.trans (hb5.mono hb4.size); obtain ⟨d0, d1, d2, d3⟩ := four ((hb35.block (w.heap.size + 1) hlt).trans b12)))
    go_ret
    exact ⟨rfl, hb3.trans (hb35.mono hb3.size)⟩
  · have hl := HL.out h
    have HG := Lib.hid h
    have HM := Lib.hid h2
    have HA := Lib.hid h3
    have HB := Lib.hid h4
    clear h h2 h3 h4
    go_wp2_with (first
      | (go_at_call 32; refine (great_any _ _ _ _ hs3).mono ?_; rintro e w' ⟨rfl, rfl⟩; rw [HG.out])
      | (go_at_call 33; refine (may_any _ _ _ _ hs3.row hl).mono ?_; rintro e w4 ⟨rfl, hb4⟩; rw [HM.out]; obtain ⟨c0, c1, c2, c3⟩ := four ((hb4.block w.heap.size hlt').trans b11))
      | (go_at_call 34; (with_reducible refine (pmayO_any _ _ _ _ w4 _ HA.out).mono ?_); rintro e w5 ⟨rfl, hb5⟩; have hb35 := hb4.trans (hb5.mono hb4.size); obtain ⟨d0, d1, d2, d3⟩ := four ((hb35.block (w.heap.size + 1) hlt).trans b12))
      | (go_at_call 34; (with_reducible refine (pmayO_any _ _ _ _ w5 _ HB.out).mono ?_); rintro e w6 ⟨rfl, hb6⟩; have hb36 := hb35.trans (hb6.mono hb35.size); obtain ⟨e0, e1, e2, e3⟩ := four ((hb36.block w.heap.size hlt').trans b11); obtain ⟨f0, f1, f2, f3⟩ := four ((hb36.block (w.heap.size + 1) hlt).trans b12)))
    go_ret
    exact ⟨rfl, hb3.trans (hb36.mono hb3.size)⟩

set_option maxRecDepth 100000 in
set_option maxHeartbeats 4000000 in
theorem over_good3 (a : Option Addr) (cap : Nat) (l : List Pr) (ak : Int) (akey aold aval : Tx) (bkey bold bval : Tx) (w : World) (hs : SlP w a cap l)  (hg : greatB l = false) (hm : mayS l = true) (ha : mayO ⟨ak, akey, aold, aval⟩ = true) (hb : mayO ⟨3, akey, bold, bval⟩ = true) (hl : l.length ≤ 1000)
    (t u v : List Pr) (te ue ve : Int) (tf uf vf : Bool) (tv uv vv : Tx) (ht : doP l ⟨ak, akey, aold, aval⟩ = (t, ⟨te, tf, tv⟩)) (hu : doP t ⟨3, akey, bold, bval⟩ = (u, ⟨ue, uf, uv⟩)) (hv : doP l ⟨3, akey, bold, bval⟩ = (v, ⟨ve, vf, vv⟩))
    (hlt0 : t.length ≤ 1000) (hlu0 : u.length ≤ 1000)
    (hcase : (te != 0) = true ∨ ((te != 0) = false ∧ (ue != 0) = true) ∨ ((te != 0) = false ∧ (ue != 0) = false ∧ (ve != 0) = true) ∨ (te = 0 ∧ ue = 0 ∧ ve = 0 ∧ u = v)) :
    Calls Try.prog 7 #[.slice a l.length cap, .agg #[.int .u8 ak, .string akey, .string aold, .string aval], .agg #[.int .u8 3, .string bkey, .string bold, .string bval]] w fun e w' => e = .returned (.bool true) ∧ Below w.heap.size w w' := by
  have HG := Lib.hid hg
  have HM := Lib.hid hm
  have HA := Lib.hid ha
  have HB := Lib.hid hb
  have HT := Lib.hid ht
  have HU := Lib.hid hu
  have HV := Lib.hid hv
  have HC := Lib.hid hcase
  clear hg hm ha hb ht hu hv hcase
  have hbN : Below w.heap.size w ((w.alloc (Obj.cells #[.int .u8 ak, .string akey, .string aold, .string aval] 61)).alloc (Obj.cells #[.int .u8 3, .string bkey, .string bold, .string bval] 61)) := ((Below.refl _ _).alloc (Nat.le_refl _) _).alloc (by simp) _
  have b11 := (two_new w (Obj.cells #[.int .u8 ak, .string akey, .string aold, .string aval] 61) (Obj.cells #[.int .u8 3, .string bkey, .string bold, .string bval] 61)).trans (heap_alloc_new w _)
  have b12 := heap_alloc2_new w (Obj.cells #[.int .u8 ak, .string akey, .string aold, .string aval] 61) (Obj.cells #[.int .u8 3, .string bkey, .string bold, .string bval] 61)
  have hlt : w.heap.size + 1 < ((w.alloc (Obj.cells #[.int .u8 ak, .string akey, .string aold, .string aval] 61)).alloc (Obj.cells #[.int .u8 3, .string bkey, .string bold, .string bval] 61)).heap.size := by simp
  have hlt' : w.heap.size < ((w.alloc (Obj.cells #[.int .u8 ak, .string akey, .string aold, .string aval] 61)).alloc (Obj.cells #[.int .u8 3, .string bkey, .string bold, .string bval] 61)).heap.size := by omega
  go_enter Try.func7, Try.ntmps7
  refine wp_seq_k (fun K hK => ?_)
  have HK := Lib.hid hK
  clear hK
  go_wp2
  refine HK.out _ _ ?_
  clear HK
  generalize (w.alloc (Obj.cells #[.int .u8 ak, .string akey, .string aold, .string aval] 61)).alloc (Obj.cells #[.int .u8 3, .string bkey, .string bold, .string bval] 61) = w0 at *
  refine wp_seq_k (fun K hK => ?_)
  have HK := Lib.hid hK
  clear hK
  go_wp2_with (go_at_call 30; refine (awake_any _).mono ?_; rintro e w2 ⟨rfl, hb1⟩)
  refine HK.out _ _ ?_
  clear HK
  have hb3 := hbN.trans (hb1.mono hbN.size)
  have b11 := (hb1.block w.heap.size hlt').trans b11
  have b12 := (hb1.block (w.heap.size + 1) hlt).trans b12
  have hs1 := hb1.size
  have hlt : w.heap.size + 1 < w2.heap.size := by omega
  have hlt' : w.heap.size < w2.heap.size := by omega
  obtain ⟨c0, c1, c2, c3⟩ := four b11
  obtain ⟨d0, d1, d2, d3⟩ := four b12
  have fz1 := frz_of b12 1
  refine wp_seq_k (fun K hK => ?_)
  have HK := Lib.hid hK
  clear hK
  go_wp2
  refine HK.out _ _ ?_
  clear HK
  have b11 := (heap_setCell_other w2 ⟨w.heap.size + 1, 1, none⟩ w.heap.size (.string akey) (by simp)).trans b11
  have b12 : (w2.setCell ⟨w.heap.size + 1, 1, none⟩ (.string akey)).heap[w.heap.size + 1]? = some (.cells #[.int .u8 3, .string akey, .string bold, .string bval] 61 (0, 0)) := heap_setCell_same w2 (w.heap.size + 1) 1 _ _ _ b12
  have hb3 := hb3.setCell (p := ⟨w.heap.size + 1, 1, none⟩) (by simp) (.string akey)
  have hlt : w.heap.size + 1 < (w2.setCell ⟨w.heap.size + 1, 1, none⟩ (.string akey)).heap.size := by simp; omega
  have hlt' : w.heap.size < (w2.setCell ⟨w.heap.size + 1, 1, none⟩ (.string akey)).heap.size := by omega
  clear c0 c1 c2 c3 d0 d1 d2 d3 fz1
  generalize w2.setCell ⟨w.heap.size + 1, 1, none⟩ (.string akey) = w3 at *
  obtain ⟨d0, d1, d2, d3⟩ := four b12
  have fz2 := frz_of b12 2
  refine wp_seq_k (fun K hK => ?_)
  have HK := Lib.hid hK
  clear hK
  go_wp2
  refine HK.out _ _ ?_
  clear HK
  clear d0 d1 d2 d3 fz2
  have hs3 := hs.below hb3
  refine wp_seq_k (fun K hK => ?_)
  have HK := Lib.hid hK
  clear hK
  go_wp2_with (first
      | (go_at_call 32; refine (great_any _ _ _ _ hs3).mono ?_; rintro e w' ⟨rfl, rfl⟩; rw [HG.out])
      | (go_at_call 33; refine (may_any _ _ _ _ hs3.row hl).mono ?_; rintro e w4 ⟨rfl, hb4⟩; rw [HM.out]; obtain ⟨c0, c1, c2, c3⟩ := four ((hb4.block w.heap.size hlt').trans b11))
      | (go_at_call 34; (with_reducible refine (pmayO_any _ _ _ _ w4 _ HA.out).mono ?_); rintro e w5 ⟨rfl, hb5⟩; have hb35 := hb4.trans (hb5.mono hb4.size); obtain ⟨d0, d1, d2, d3⟩ := four ((hb35.block (w.heap.size + 1) hlt).trans b12))
      | (go_at_call 34; (with_reducible refine (pmayO_any _ _ _ _ w5 _ HB.out).mono ?_); rintro e w6 ⟨rfl, hb6⟩; have hb36 := hb35.trans (hb6.mono hb35.size); obtain ⟨e0, e1, e2, e3⟩ := four ((hb36.block w.heap.size hlt').trans b11); obtain ⟨f0, f1, f2, f3⟩ := four ((hb36.block (w.heap.size + 1) hlt).trans b12)))
  refine HK.out _ _ ?_
  clear HK
  have hc0 : Below w3.heap.size w3 w6 := hb36
  have hsz0 := hc0.size
  have hsl0 := hs3.below hc0
  refine wp_seq_k (fun K hK => ?_)
  have HK := Lib.hid hK
  clear hK
  go_wp2_with (go_at_call 36; refine (do_open _ _ _ _ _ _ _ _ hsl0 hl _ _ _ _ HT.out).mono ?_; rintro e y1 ⟨⟨a1, cap1, rfl, hy1⟩, hd1⟩)
  refine HK.out _ _ ?_
  clear HK
  have hp1 := below1 y1 (Obj.cells #[.int .i64 te, .bool tf, .string tv] 43)
  have hq1 := hd1.trans (hp1.mono hd1.size)
  have hc1 := hc0.trans (hq1.mono hsz0)
  have hsz1 := hc1.size
  have bq1 := heap_alloc_new y1 (Obj.cells #[.int .i64 te, .bool tf, .string tv] 43)
  have hlq1 : y1.heap.size < (y1.alloc (Obj.cells #[.int .i64 te, .bool tf, .string tv] 43)).heap.size := by simp
  have hr1 := hy1.below hp1
  have hsl1 := hs3.below hc1
  generalize y1.alloc (Obj.cells #[.int .i64 te, .bool tf, .string tv] 43) = q1 at *
  obtain ⟨e0, e1, e2, e3⟩ := four ((hc1.block w.heap.size hlt').trans b11)
  obtain ⟨f0, f1, f2, f3⟩ := four ((hc1.block (w.heap.size + 1) hlt).trans b12)
  refine wp_seq_k (fun K hK => ?_)
  have HK := Lib.hid hK
  clear hK
  go_wp2_with (go_at_call 36; refine (do_open _ _ _ _ _ _ _ _ hr1 hlt0 _ _ _ _ HU.out).mono ?_; rintro e y2 ⟨⟨a2, cap2, rfl, hy2⟩, hd2⟩)
  refine HK.out _ _ ?_
  clear HK
  have hp2 := below1 y2 (Obj.cells #[.int .i64 ue, .bool uf, .string uv] 43)
  have hq2 := hd2.trans (hp2.mono hd2.size)
  have hc2 := hc1.trans (hq2.mono hsz1)
  have hsz2 := hc2.size
  have bq2 := heap_alloc_new y2 (Obj.cells #[.int .i64 ue, .bool uf, .string uv] 43)
  have hlq2 : y2.heap.size < (y2.alloc (Obj.cells #[.int .i64 ue, .bool uf, .string uv] 43)).heap.size := by simp
  have hr2 := hy2.below hp2
  have hsl2 := hs3.below hc2
  generalize y2.alloc (Obj.cells #[.int .i64 ue, .bool uf, .string uv] 43) = q2 at *
  have bq1 := (hq2.block y1.heap.size hlq1).trans bq1
  have hlq1 : y1.heap.size < q2.heap.size := Nat.lt_of_lt_of_le hlq1 hq2.size
  have hu2 := hr2
  obtain ⟨e0, e1, e2, e3⟩ := four ((hc2.block w.heap.size hlt').trans b11)
  obtain ⟨f0, f1, f2, f3⟩ := four ((hc2.block (w.heap.size + 1) hlt).trans b12)
  refine wp_seq_k (fun K hK => ?_)
  have HK := Lib.hid hK
  clear hK
  go_wp2_with (go_at_call 36; refine (do_open _ _ _ _ _ _ _ _ hsl2 hl _ _ _ _ HV.out).mono ?_; rintro e y3 ⟨⟨a3, cap3, rfl, hy3⟩, hd3⟩)
  refine HK.out _ _ ?_
  clear HK
  have hp3 := below1 y3 (Obj.cells #[.int .i64 ve, .bool vf, .string vv] 43)
  have hq3 := hd3.trans (hp3.mono hd3.size)
  have hc3 := hc2.trans (hq3.mono hsz2)
  have hsz3 := hc3.size
  have bq3 := heap_alloc_new y3 (Obj.cells #[.int .i64 ve, .bool vf, .string vv] 43)
  have hlq3 : y3.heap.size < (y3.alloc (Obj.cells #[.int .i64 ve, .bool vf, .string vv] 43)).heap.size := by simp
  have hr3 := hy3.below hp3
  have hsl3 := hs3.below hc3
  generalize y3.alloc (Obj.cells #[.int .i64 ve, .bool vf, .string vv] 43) = q3 at *
  have bq1 := (hq3.block y1.heap.size hlq1).trans bq1
  have hlq1 : y1.heap.size < q3.heap.size := Nat.lt_of_lt_of_le hlq1 hq3.size
  have bq2 := (hq3.block y2.heap.size hlq2).trans bq2
  have hlq2 : y2.heap.size < q3.heap.size := Nat.lt_of_lt_of_le hlq2 hq3.size
  have hu2 := hu2.below hq3
  obtain ⟨e0, e1, e2, e3⟩ := four ((hc3.block w.heap.size hlt').trans b11)
  obtain ⟨f0, f1, f2, f3⟩ := four ((hc3.block (w.heap.size + 1) hlt).trans b12)
  have hfin := hb3.trans (hc3.mono hb3.size)
  obtain ⟨g0, g1, g2, _⟩ := trio bq1
  obtain ⟨k0, k1, k2, _⟩ := trio bq2
  obtain ⟨m0, m1, m2, _⟩ := trio bq3
  clear e0 e1 e2 e3 f0 f1 f2 f3 c0 c1 c2 c3 d0 d1 d2 d3
  rcases HC.out with h | ⟨h, h2⟩ | ⟨h, h2, h3⟩ | ⟨rfl, rfl, rfl, rfl⟩
  · go_wp2
    go_ret
    exact ⟨rfl, hfin⟩
  · go_wp2
    go_ret
    exact ⟨rfl, hfin⟩
  · go_wp2
    go_ret
    exact ⟨rfl, hfin⟩
  · go_wp2_with (go_at_call 37; refine (psame_any _ _ _ _ _ _ _ hu2.row hr3.row hlu0 hlu0 true (by simp)).mono ?_; rintro e w9 ⟨rfl, q, rfl⟩)
    go_ret
    exact ⟨rfl, below_drewN hfin q⟩

theorem over_law3 (a : Option Addr) (cap : Nat) (l : List Pr) (ak : Int) (akey aold aval : Tx) (bkey bold bval : Tx) (w : World) (hs : SlP w a cap l)  :
    Calls Try.prog 7 #[.slice a l.length cap, .agg #[.int .u8 ak, .string akey, .string aold, .string aval], .agg #[.int .u8 3, .string bkey, .string bold, .string bval]] w fun e w' => e = .returned (.bool true) ∧ Below w.heap.size w w' := by
  cases hg : greatB l with
  | true => exact over_bad3 a cap l ak akey aold aval bkey bold bval w hs (.inl hg)
  | false =>
  cases hm : mayS l with
  | false => exact over_bad3 a cap l ak akey aold aval bkey bold bval w hs (.inr (.inl ⟨hg, hm⟩))
  | true =>
  cases ha : mayO ⟨ak, akey, aold, aval⟩ with
  | false => exact over_bad3 a cap l ak akey aold aval bkey bold bval w hs (.inr (.inr (.inl ⟨hg, hm, ha⟩)))
  | true =>
  cases hb : mayO ⟨3, akey, bold, bval⟩ with
  | false => exact over_bad3 a cap l ak akey aold aval bkey bold bval w hs (.inr (.inr (.inr ⟨hg, hm, ha, hb⟩)))
  | true =>
  have hl := (great_no hg).1
  obtain ⟨t, ⟨te, tf, tv⟩, ht⟩ : ∃ (t : List Pr) (r : Rp), doP l ⟨ak, akey, aold, aval⟩ = (t, r) := ⟨_, _, rfl⟩
  obtain ⟨u, ⟨ue, uf, uv⟩, hu⟩ : ∃ (u : List Pr) (r : Rp), doP t ⟨3, akey, bold, bval⟩ = (u, r) := ⟨_, _, rfl⟩
  obtain ⟨v, ⟨ve, vf, vv⟩, hv⟩ : ∃ (v : List Pr) (r : Rp), doP l ⟨3, akey, bold, bval⟩ = (v, r) := ⟨_, _, rfl⟩
  have mt : mayS t = true := by have := doP_may ⟨ak, akey, aold, aval⟩ hm; rw [ht] at this; exact this
  have mu : mayS u = true := by have := doP_may ⟨3, akey, bold, bval⟩ mt; rw [hu] at this; exact this
  have l1 := (may_spec mt).1
  have l2 := (may_spec mu).1
  refine over_good3 a cap l ak akey aold aval bkey bold bval w hs hg hm ha hb (by omega) t u v te ue ve tf uf vf tv uv vv ht hu hv (by omega) (by omega) ?_
  by_cases z1 : te = 0
  · by_cases z2 : ue = 0
    · by_cases z3 : ve = 0
      · right; right; right
        have e1 : (doP l ⟨ak, akey, aold, aval⟩).1 = t := by rw [ht]
        have h := over_same (a := ⟨ak, akey, aold, aval⟩) (b := ⟨3, akey, bold, bval⟩) hm rfl (by first | exact .inl rfl | exact .inr rfl) (by rw [ht]; exact z1) (by rw [e1, hu]; exact z2) (by rw [hv]; exact z3)
        rw [e1, hu, hv] at h
        exact ⟨z1, z2, z3, h⟩
      · exact .inr (.inr (.inl ⟨bne_zero' z1, bne_zero' z2, bne_zero z3⟩))
    · exact .inr (.inl ⟨bne_zero' z1, bne_zero z2⟩)
  · exact .inl (bne_zero z1)

set_option maxRecDepth 100000 in
set_option maxHeartbeats 4000000 in
theorem over_badO (a : Option Addr) (cap : Nat) (l : List Pr) (ak : Int) (akey aold aval : Tx) (bk : Int) (bkey bold bval : Tx) (w : World) (hs : SlP w a cap l) (k2 : (bk == 2) = false) (k3 : (bk != 2) = true) (k4 : (bk != 3) = true)
    (hbad : greatB l = true ∨ (greatB l = false ∧ mayS l = false) ∨ (greatB l = false ∧ mayS l = true ∧ mayO ⟨ak, akey, aold, aval⟩ = false) ∨ (greatB l = false ∧ mayS l = true ∧ mayO ⟨ak, akey, aold, aval⟩ = true ∧ mayO ⟨bk, akey, bold, bval⟩ = false) ∨ (greatB l = false ∧ mayS l = true ∧ mayO ⟨ak, akey, aold, aval⟩ = true ∧ mayO ⟨bk, akey, bold, bval⟩ = true)) :
    Calls Try.prog 7 #[.slice a l.length cap, .agg #[.int .u8 ak, .string akey, .string aold, .string aval], .agg #[.int .u8 bk, .string bkey, .string bold, .string bval]] w fun e w' => e = .returned (.bool true) ∧ Below w.heap.size w w' := by
  have HBAD := Lib.hid hbad
  clear hbad
  have hbN : Below w.heap.size w ((w.alloc (Obj.cells #[.int .u8 ak, .string akey, .string aold, .string aval] 61)).alloc (Obj.cells #[.int .u8 bk, .string bkey, .string bold, .string bval] 61)) := ((Below.refl _ _).alloc (Nat.le_refl _) _).alloc (by simp) _
  have b11 := (two_new w (Obj.cells #[.int .u8 ak, .string akey, .string aold, .string aval] 61) (Obj.cells #[.int .u8 bk, .string bkey, .string bold, .string bval] 61)).trans (heap_alloc_new w _)
  have b12 := heap_alloc2_new w (Obj.cells #[.int .u8 ak, .string akey, .string aold, .string aval] 61) (Obj.cells #[.int .u8 bk, .string bkey, .string bold, .string bval] 61)
  have hlt : w.heap.size + 1 < ((w.alloc (Obj.cells #[.int .u8 ak, .string akey, .string aold, .string aval] 61)).alloc (Obj.cells #[.int .u8 bk, .string bkey, .string bold, .string bval] 61)).heap.size := by simp
  have hlt' : w.heap.size < ((w.alloc (Obj.cells #[.int .u8 ak, .string akey, .string aold, .string aval] 61)).alloc (Obj.cells #[.int .u8 bk, .string bkey, .string bold, .string bval] 61)).heap.size := by omega
  go_enter Try.func7, Try.ntmps7
  refine wp_seq_k (fun K hK => ?_)
  have HK := Lib.hid hK
  clear hK
  go_wp2
  refine HK.out _ _ ?_
  clear HK
  generalize (w.alloc (Obj.cells #[.int .u8 ak, .string akey, .string aold, .string aval] 61)).alloc (Obj.cells #[.int .u8 bk, .string bkey, .string bold, .string bval] 61) = w0 at *
  refine wp_seq_k (fun K hK => ?_)
  have HK := Lib.hid hK
  clear hK
  go_wp2_with (go_at_call 30; refine (awake_any _).mono ?_; rintro e w2 ⟨rfl, hb1⟩)
  refine HK.out _ _ ?_
  clear HK
  have hb3 := hbN.trans (hb1.mono hbN.size)
  have b11 := (hb1.block w.heap.size hlt').trans b11
  have b12 := (hb1.block (w.heap.size + 1) hlt).trans b12
  have hs1 := hb1.size
  have hlt : w.heap.size + 1 < w2.heap.size := by omega
  have hlt' : w.heap.size < w2.heap.size := by omega
  obtain ⟨c0, c1, c2, c3⟩ := four b11
  obtain ⟨d0, d1, d2, d3⟩ := four b12
  have fz1 := frz_of b12 1
  refine wp_seq_k (fun K hK => ?_)
  have HK := Lib.hid hK
  clear hK
  go_wp2
  refine HK.out _ _ ?_
  clear HK
  have b11 := (heap_setCell_other w2 ⟨w.heap.size + 1, 1, none⟩ w.heap.size (.string akey) (by simp)).trans b11
  have b12 : (w2.setCell ⟨w.heap.size + 1, 1, none⟩ (.string akey)).heap[w.heap.size + 1]? = some (.cells #[.int .u8 bk, .string akey, .string bold, .string bval] 61 (0, 0)) := heap_setCell_same w2 (w.heap.size + 1) 1 _ _ _ b12
  have hb3 := hb3.setCell (p := ⟨w.heap.size + 1, 1, none⟩) (by simp) (.string akey)
  have hlt : w.heap.size + 1 < (w2.setCell ⟨w.heap.size + 1, 1, none⟩ (.string akey)).heap.size := by simp; omega
  have hlt' : w.heap.size < (w2.setCell ⟨w.heap.size + 1, 1, none⟩ (.string akey)).heap.size := by omega
  clear c0 c1 c2 c3 d0 d1 d2 d3 fz1
  generalize w2.setCell ⟨w.heap.size + 1, 1, none⟩ (.string akey) = w3 at *
  obtain ⟨d0, d1, d2, d3⟩ := four b12
  have fz2 := frz_of b12 2
  refine wp_seq_k (fun K hK => ?_)
  have HK := Lib.hid hK
  clear hK
  go_wp2
  refine HK.out _ _ ?_
  clear HK
  clear d0 d1 d2 d3 fz2
  have hs3 := hs.below hb3
  have hlen : greatB l = false → l.length ≤ 1000 := fun h => by have := (great_no h).1; omega
  have HL := Lib.hid hlen
  clear hlen
  rcases HBAD.out with h | ⟨h, h2⟩ | ⟨h, h2, h3⟩ | ⟨h, h2, h3, h4⟩ | ⟨h, h2, h3, h4⟩
  · have HG := Lib.hid h
    clear h
    go_wp2_with (go_at_call 32; refine (great_any _ _ _ _ hs3).mono ?_; rintro e w' ⟨rfl, rfl⟩; rw [HG.out])
    go_ret
    exact ⟨rfl, hb3⟩
  · have hl := HL.out h
    have HG := Lib.hid h
    have HM := Lib.hid h2
    clear h h2
    go_wp2_with (first
      | (go_at_call 32; refine (great_any _ _ _ _ hs3).mono ?_; rintro e w' ⟨rfl, rfl⟩; rw [HG.out])
      | (go_at_call 33; refine (may_any _ _ _ _ hs3.row hl).mono ?_; rintro e w4 ⟨rfl, hb4⟩; rw [HM.out]; obtain ⟨c0, c1, c2, c3⟩ := four ((hb4.block w.heap.size hlt').trans b11)))
    go_ret
    exact ⟨rfl, hb3.trans (hb4.mono hb3.size)⟩
  · have hl := HL.out h
    have HG := Lib.hid h
    have HM := Lib.hid h2
    have HA := Lib.hid h3
    clear h h2 h3
    go_wp2_with (first
      | (go_at_call 32; refine (great_any _ _ _ _ hs3).mono ?_; rintro e w' ⟨rfl, rfl⟩; rw [HG.out])
      | (go_at_call 33; refine (may_any _ _ _ _ hs3.row hl).mono ?_; rintro e w4 ⟨rfl, hb4⟩; rw [HM.out]; obtain ⟨c0, c1, c2, c3⟩ := four ((hb4.block w.heap.size hlt').trans b11))
      | (go_at_call 34; (with_reducible refine (pmayO_any _ _ _ _ w4 _ HA.out).mono ?_); rintro e w5 ⟨rfl, hb5⟩; have hb35 := hb4.trans (hb5.mono hb4.size); obtain ⟨d0, d1, d2, d3⟩ := four ((hb35.block (w.heap.size + 1) hlt).trans b12)))
    go_ret
    exact ⟨rfl, hb3.trans (hb35.mono hb3.size)⟩
  · have hl := HL.out h
    have HG := Lib.hid h
    have HM := Lib.hid h2
    have HA := Lib.hid h3
    have HB := Lib.hid h4
    clear h h2 h3 h4
    go_wp2_with (first
      | (go_at_call 32; refine (great_any _ _ _ _ hs3).mono ?_; rintro e w' ⟨rfl, rfl⟩; rw [HG.out])
      | (go_at_call 33; refine (may_any _ _ _ _ hs3.row hl).mono ?_; rintro e w4 ⟨rfl, hb4⟩; rw [HM.out]; obtain ⟨c0, c1, c2, c3⟩ := four ((hb4.block w.heap.size hlt').trans b11))
      | (go_at_call 34; (with_reducible refine (pmayO_any _ _ _ _ w4 _ HA.out).mono ?_); rintro e w5 ⟨rfl, hb5⟩; have hb35 := hb4.trans (hb5.mono hb4.size); obtain ⟨d0, d1, d2, d3⟩ := four ((hb35.block (w.heap.size + 1) hlt).trans b12))
      | (go_at_call 34; (with_reducible refine (pmayO_any _ _ _ _ w5 _ HB.out).mono ?_); rintro e w6 ⟨rfl, hb6⟩; have hb36 := hb35.trans (hb6.mono hb35.size); obtain ⟨e0, e1, e2, e3⟩ := four ((hb36.block w.heap.size hlt').trans b11); obtain ⟨f0, f1, f2, f3⟩ := four ((hb36.block (w.heap.size + 1) hlt).trans b12)))
    go_ret
    exact ⟨rfl, hb3.trans (hb36.mono hb3.size)⟩
  · have hl := HL.out h
    have HG := Lib.hid h
    have HM := Lib.hid h2
    have HA := Lib.hid h3
    have HB := Lib.hid h4
    clear h h2 h3 h4
    go_wp2_with (first
      | (go_at_call 32; refine (great_any _ _ _ _ hs3).mono ?_; rintro e w' ⟨rfl, rfl⟩; rw [HG.out])
      | (go_at_call 33; refine (may_any _ _ _ _ hs3.row hl).mono ?_; rintro e w4 ⟨rfl, hb4⟩; rw [HM.out]; obtain ⟨c0, c1, c2, c3⟩ := four ((hb4.block w.heap.size hlt').trans b11))
      | (go_at_call 34; (with_reducible refine (pmayO_any _ _ _ _ w4 _ HA.out).mono ?_); rintro e w5 ⟨rfl, hb5⟩; have hb35 := hb4.trans (hb5.mono hb4.size); obtain ⟨d0, d1, d2, d3⟩ := four ((hb35.block (w.heap.size + 1) hlt).trans b12))
      | (go_at_call 34; (with_reducible refine (pmayO_any _ _ _ _ w5 _ HB.out).mono ?_); rintro e w6 ⟨rfl, hb6⟩; have hb36 := hb35.trans (hb6.mono hb35.size); obtain ⟨e0, e1, e2, e3⟩ := four ((hb36.block w.heap.size hlt').trans b11); obtain ⟨f0, f1, f2, f3⟩ := four ((hb36.block (w.heap.size + 1) hlt).trans b12)))
    go_ret
    exact ⟨rfl, hb3.trans (hb36.mono hb3.size)⟩

theorem over_law (a : Option Addr) (cap : Nat) (l : List Pr) (ak : Int) (akey aold aval : Tx) (bk : Int) (bkey bold bval : Tx) (w : World) (hs : SlP w a cap l) :
    Calls Try.prog 7 #[.slice a l.length cap, .agg #[.int .u8 ak, .string akey, .string aold, .string aval], .agg #[.int .u8 bk, .string bkey, .string bold, .string bval]] w fun e w' => e = .returned (.bool true) ∧ Below w.heap.size w w' := by
  by_cases e2 : bk = 2
  · subst e2
    exact over_law2 a cap l ak akey aold aval bkey bold bval w hs
  · by_cases e3 : bk = 3
    · subst e3
      exact over_law3 a cap l ak akey aold aval bkey bold bval w hs
    · refine over_badO a cap l ak akey aold aval bk bkey bold bval w hs (beq_eq_false_iff_ne.2 e2) (bne_iff_ne.2 e2) (bne_iff_ne.2 e3) ?_
      cases hg : greatB l with
      | true => exact .inl rfl
      | false =>
      cases hm : mayS l with
      | false => exact .inr (.inl ⟨rfl, rfl⟩)
      | true =>
      cases ha : mayO ⟨ak, akey, aold, aval⟩ with
      | false => exact .inr (.inr (.inl ⟨rfl, rfl, rfl⟩))
      | true =>
      cases hb : mayO ⟨bk, akey, bold, bval⟩ with
      | false => exact .inr (.inr (.inr (.inl ⟨rfl, rfl, rfl, rfl⟩)))
      | true => exact .inr (.inr (.inr (.inr ⟨rfl, rfl, rfl, rfl⟩)))
end Go.Proofs.Ytmnjmjbmnhppfaa
