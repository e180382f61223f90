/- meta.Parse, walked. -/
import Derived.Test.YtmnjmjbmnhppfaaM5
import Derived.Test.YtmnjmjbmnhppfaaRows
import Derived.WalkKit
import Derived.WalkSpells
import Derived.WalkLawsBesides
import Derived.Handy
import Derived.Deep.QuietTactic
import Derived.BigQuiet
import Derived.Deep.DeepCutAuto
import Derived.Lib.Hide
import Derived.RegionTactic
import Derived.ChangeAlike
namespace Go.Proofs.Ytmnjmjbmnhppfaa
open Go.RowKit

theorem get_w (a : Option Addr) (cap : Nat) (l : List UInt8) (at_ k : Nat) (w : World) (hs : SlB w a cap l) (hk : k = 1 ∨ k = 2 ∨ k = 4 ∨ k = 6) (h : at_ + k ≤ l.length) (at' k' s : Int) (hat : at' = at_) (hk' : k' = k) (hs' : s = at' + k') :
    Calls Try.prog 57 #[.slice a l.length cap, .int .i64 at', .int .i64 k'] w fun e w' => e = .returned (.tuple #[.int .i64 (getN l at_ k), .int .i64 s, .int .i64 0]) ∧ Below w.heap.size w w' := by
  subst hat hk' hs'
  exact get_ok a cap l at_ k w hs hk h

def pos (j : Nat) : Nat := if j = 0 then 0 else if j = 1 then 6 else if j = 2 then 7 else 13
def pv (l : List UInt8) (j : Nat) : Array Value := #[.int .i64 (if 0 < j then (getN l 0 6 : Int) else 0), .int .i64 (if 1 < j then (getN l 6 1 : Int) else 0), .int .i64 (if 2 < j then (getN l 7 6 : Int) else 0)]

theorem two_cells {w : World} {g : Nat} {x y : Value} {T : TypeId} (h : w.heap[g]? = some (.cells #[x, y] T (0, 0))) : w.cell? ⟨g, 0, none⟩ = some x ∧ w.cell? ⟨g, 1, none⟩ = some y := by
  constructor <;> simp [World.cell?, h]

theorem behind_get {w wr w3 : World} {x y z x' y' z' u v : Value} {T T' : TypeId} (hbr : Below w.heap.size w wr) (hlo : w.heap.size + 1 < wr.heap.size)
    (hB0 : wr.heap[w.heap.size]? = some (.cells #[x, y, z] T (0, 0))) (hB1 : wr.heap[w.heap.size + 1]? = some (.cells #[x', y', z'] T (0, 0)))
    (hb3 : Below (wr.alloc (.cells #[u, v] T')).heap.size (wr.alloc (.cells #[u, v] T')) w3) :
    w3.heap[w.heap.size]? = some (.cells #[x, y, z] T (0, 0)) ∧ w3.heap[w.heap.size + 1]? = some (.cells #[x', y', z'] T (0, 0)) ∧ w3.cell? ⟨wr.heap.size, 0, none⟩ = some u ∧ w3.cell? ⟨wr.heap.size, 1, none⟩ = some v ∧
    w3.cell? ⟨w.heap.size + 1, 0, none⟩ = some x' ∧ w3.cell? ⟨w.heap.size + 1, 1, none⟩ = some y' ∧ w3.cell? ⟨w.heap.size + 1, 2, none⟩ = some z' ∧ w3.frozen? ⟨w.heap.size + 1, 0, none⟩ = false ∧ w3.frozen? ⟨w.heap.size + 1, 1, none⟩ = false ∧ w3.frozen? ⟨w.heap.size + 1, 2, none⟩ = false ∧ Below w.heap.size w w3 := by
  have k1 : w3.heap[w.heap.size]? = some (.cells #[x, y, z] T (0, 0)) := by rw [hb3.block _ (by simp; omega), heap_alloc_old _ _ (by omega)]; exact hB0
  have k2 : w3.heap[w.heap.size + 1]? = some (.cells #[x', y', z'] T (0, 0)) := by rw [hb3.block _ (by simp; omega), heap_alloc_old _ _ (by omega)]; exact hB1
  have k3 : w3.heap[wr.heap.size]? = some (.cells #[u, v] T' (0, 0)) := by rw [hb3.block _ (by simp), heap_alloc_new]
  obtain ⟨b1, b2, b3, b4, b5, b6⟩ := tri_cells k2
  obtain ⟨c0, c1⟩ := two_cells k3
  exact ⟨k1, k2, c0, c1, b1, b2, b3, b4, b5, b6, (hbr.alloc (by omega) _).trans (hb3.mono (by simp; omega))⟩

set_option maxRecDepth 20000 in
set_option maxHeartbeats 800000 in
theorem parse_any (a : Option Addr) (cap : Nat) (l : List UInt8) (w : World) (hs : SlB w a cap l) :
    Calls Try.prog 18 #[.slice a l.length cap] w fun e w' => e = .returned (.tuple #[parV l, .int .i64 (parE l)]) ∧ Below w.heap.size w w' := by
  have hmx := hs.max
  unfold maxLen at hmx
  have hle := hs.le
  go_enter Try.func18, Try.ntmps18
  refine wp_seq_k (fun K hK => ?_)
  have HK := Lib.hid hK
  clear hK
  go_wp2
  refine HK.out _ _ ?_
  clear HK
  refine wp_seq_k (fun K hK => ?_)
  have HK := Lib.hid hK
  clear hK
  go_wp2
  refine HK.out _ _ ?_
  clear HK
  refine wp_seq_k (fun K hK => ?_)
  have HK := Lib.hid hK
  clear hK
  go_wp2
  refine HK.out _ _ ?_
  clear HK
  refine wp_seq_k (fun K hK => ?_)
  go_cut [5] (fun at_ wx => at_ = .int .i64 13 ∧ 13 ≤ l.length ∧ wx.heap[w.heap.size]? = some (.cells (pv l 0) 25 (0, 0)) ∧ wx.heap[w.heap.size + 1]? = some (.cells (pv l 3) 25 (0, 0)) ∧ Below w.heap.size w wx)
  case first =>
    refine wp_seq_k (fun K hK => ?_)
    have HK := Lib.hid hK
    clear hK
    go_wp2_with (go_at_call 54; refine (fields_any _ _).mono ?_; rintro e w2 ⟨rfl, hb2⟩; unfold fieldsV)
    refine HK.out _ _ ?_
    clear HK
    have hbw := below_two hb2
    have h0 : w2.heap[w.heap.size]? = some (.cells (pv l 0) 25 (0, 0)) := by
      rw [hb2.block _ (by simp; omega), heap_alloc_old _ _ (by simp), heap_alloc_new]; rfl
    have h1 : w2.heap[w.heap.size + 1]? = some (.cells (pv l 0) 25 (0, 0)) := by
      rw [hb2.block _ (by simp), heap_alloc2_new]; rfl
    go_wp2_with fail
    go_loopw [5, 12] (fun at_ k wr => ∃ j : Nat, j ≤ 3 ∧ k = .int .i64 j ∧ at_ = .int .i64 (pos j) ∧ pos j ≤ l.length ∧ wr.heap[w.heap.size]? = some (.cells (pv l 0) 25 (0, 0)) ∧ wr.heap[w.heap.size + 1]? = some (.cells (pv l j) 25 (0, 0)) ∧ Below w.heap.size w wr) (fun _ k _ => 3 - (intOf k).toNat)
    case atStart => exact ⟨0, by omega, rfl, rfl, Nat.zero_le _, h0, h1, hbw⟩
    case round =>
      clear h0 h1 hbw hb2
      obtain ⟨j, hj, rfl, rfl, hpl, hB0, hB1, hbr⟩ := hrel
      have hsr := hs.below hbr
      have hlo : w.heap.size + 1 < wr.heap.size := (Array.getElem?_eq_some_iff.1 hB1).1
      rcases (show j = 0 ∨ j = 1 ∨ j = 2 ∨ j = 3 by omega) with rfl | rfl | rfl | rfl
      all_goals simp only [pos, pv] at hpl hB0 hB1 ⊢
      all_goals simp at hpl hB0 hB1
      · by_cases hok : 0 + 6 ≤ l.length
        · go_wp2_with (go_at_call 57; refine (get_w _ cap l 0 6 _ (hsr.below ((Below.refl _ _).alloc (Nat.le_refl _) _)) (by omega) hok 0 6 6 rfl rfl rfl).mono ?_; rintro e w3 ⟨rfl, hb3⟩; obtain ⟨k1, k2, c0, c1, q0, q1, q2, f0, f1, f2, hb4⟩ := behind_get hbr hlo hB0 hB1 hb3)
          refine ⟨⟨1, by omega, by go_num, rfl, by show 6 ≤ l.length; omega, ?_, ?_, ?_⟩, by simp [intOf]⟩
          · rw [heap_setCell_other _ ⟨w.heap.size + 1, 0, none⟩ _ _ (by simp)]; exact k1
          · rw [heap_setCell_same _ _ _ _ _ _ k2]; simp
          · exact hb4.setCell (by simp) _
        · have hpe : parM l = false := by
            unfold parM
            rw [decide_eq_false (by omega)]
            rfl
          have hge : getE l.length 0 6 ≠ 0 := by
            unfold getE pieceE
            rw [if_neg (by simp [manyI])]
            split
            · omega
            · rw [if_pos (by omega)]; omega
          have hne : (getE l.length 0 6 != 0) = true := by rw [bne_iff_ne]; exact hge
          have hgb := fun w => get_bad a l.length cap 0 6 w (by unfold maxLen; omega) hge
          have hpv : parV l = .agg #[.int .i64 0, .int .i64 0, .int .i64 0] := by unfold parV; rw [hpe]; rfl
          have hpr : parE l = 80 := by unfold parE; rw [hpe]; rfl
          clear hpe
          generalize getE l.length 0 6 = er at *
          have HGB := Lib.hid hgb
          clear hgb
          go_wp2_with (go_at_call 57; refine (HGB.out _).mono ?_; rintro e w3 ⟨rfl, hb3⟩; obtain ⟨k1, k2, c0, c1, q0, q1, q2, f0, f1, f2, hb4⟩ := behind_get hbr hlo hB0 hB1 hb3; obtain ⟨z0, z1, z2, g0, g1, g2⟩ := tri_cells k1)
          (try simp only [Exit.inBlock, Exit.then])
          rw [hpv, hpr]
          refine bodyPost_ret ?hr rfl ⟨rfl, ?_⟩
          case hr =>
            simp only [results, Try.results18]
            go_simp
          (repeat' (first | (with_reducible exact Below.refl _ _) | (with_reducible assumption) | (with_reducible refine Below.alloc ?_ ?_ _) | (with_reducible refine Below.drew ?_) | (with_reducible refine below_drewN ?_ _) | (with_reducible refine Below.setCell ?_ ?_ _) | (with_reducible refine Below.trans ?_ (by assumption)) | go_size))
      · by_cases hok : 6 + 1 ≤ l.length
        · go_wp2_with (go_at_call 57; refine (get_w _ cap l 6 1 _ (hsr.below ((Below.refl _ _).alloc (Nat.le_refl _) _)) (by omega) hok 6 1 7 rfl rfl rfl).mono ?_; rintro e w3 ⟨rfl, hb3⟩; obtain ⟨k1, k2, c0, c1, q0, q1, q2, f0, f1, f2, hb4⟩ := behind_get hbr hlo hB0 hB1 hb3)
          refine ⟨⟨2, by omega, by go_num, rfl, by show 7 ≤ l.length; omega, ?_, ?_, ?_⟩, by simp [intOf]⟩
          · rw [heap_setCell_other _ ⟨w.heap.size + 1, 1, none⟩ _ _ (by simp)]; exact k1
          · rw [heap_setCell_same _ _ _ _ _ _ k2]; simp
          · exact hb4.setCell (by simp) _
        · have hpe : parM l = false := by
            unfold parM
            rw [decide_eq_false (by omega)]
            rfl
          have hge : getE l.length 6 1 ≠ 0 := by
            unfold getE pieceE
            rw [if_neg (by simp [manyI])]
            split
            · omega
            · rw [if_pos (by omega)]; omega
          have hne : (getE l.length 6 1 != 0) = true := by rw [bne_iff_ne]; exact hge
          have hgb := fun w => get_bad a l.length cap 6 1 w (by unfold maxLen; omega) hge
          have hpv : parV l = .agg #[.int .i64 0, .int .i64 0, .int .i64 0] := by unfold parV; rw [hpe]; rfl
          have hpr : parE l = 80 := by unfold parE; rw [hpe]; rfl
          clear hpe
          generalize getE l.length 6 1 = er at *
          have HGB := Lib.hid hgb
          clear hgb
          go_wp2_with (go_at_call 57; refine (HGB.out _).mono ?_; rintro e w3 ⟨rfl, hb3⟩; obtain ⟨k1, k2, c0, c1, q0, q1, q2, f0, f1, f2, hb4⟩ := behind_get hbr hlo hB0 hB1 hb3; obtain ⟨z0, z1, z2, g0, g1, g2⟩ := tri_cells k1)
          (try simp only [Exit.inBlock, Exit.then])
          rw [hpv, hpr]
          refine bodyPost_ret ?hr rfl ⟨rfl, ?_⟩
          case hr =>
            simp only [results, Try.results18]
            go_simp
          (repeat' (first | (with_reducible exact Below.refl _ _) | (with_reducible assumption) | (with_reducible refine Below.alloc ?_ ?_ _) | (with_reducible refine Below.drew ?_) | (with_reducible refine below_drewN ?_ _) | (with_reducible refine Below.setCell ?_ ?_ _) | (with_reducible refine Below.trans ?_ (by assumption)) | go_size))
      · by_cases hok : 7 + 6 ≤ l.length
        · go_wp2_with (go_at_call 57; refine (get_w _ cap l 7 6 _ (hsr.below ((Below.refl _ _).alloc (Nat.le_refl _) _)) (by omega) hok 7 6 13 rfl rfl rfl).mono ?_; rintro e w3 ⟨rfl, hb3⟩; obtain ⟨k1, k2, c0, c1, q0, q1, q2, f0, f1, f2, hb4⟩ := behind_get hbr hlo hB0 hB1 hb3)
          refine ⟨⟨3, by omega, by go_num, rfl, by show 13 ≤ l.length; omega, ?_, ?_, ?_⟩, by simp [intOf]⟩
          · rw [heap_setCell_other _ ⟨w.heap.size + 1, 2, none⟩ _ _ (by simp)]; exact k1
          · rw [heap_setCell_same _ _ _ _ _ _ k2]; simp
          · exact hb4.setCell (by simp) _
        · have hpe : parM l = false := by
            unfold parM
            rw [decide_eq_false (by omega)]
            rfl
          have hge : getE l.length 7 6 ≠ 0 := by
            unfold getE pieceE
            rw [if_neg (by simp [manyI])]
            split
            · omega
            · rw [if_pos (by omega)]; omega
          have hne : (getE l.length 7 6 != 0) = true := by rw [bne_iff_ne]; exact hge
          have hgb := fun w => get_bad a l.length cap 7 6 w (by unfold maxLen; omega) hge
          have hpv : parV l = .agg #[.int .i64 0, .int .i64 0, .int .i64 0] := by unfold parV; rw [hpe]; rfl
          have hpr : parE l = 80 := by unfold parE; rw [hpe]; rfl
          clear hpe
          generalize getE l.length 7 6 = er at *
          have HGB := Lib.hid hgb
          clear hgb
          go_wp2_with (go_at_call 57; refine (HGB.out _).mono ?_; rintro e w3 ⟨rfl, hb3⟩; obtain ⟨k1, k2, c0, c1, q0, q1, q2, f0, f1, f2, hb4⟩ := behind_get hbr hlo hB0 hB1 hb3; obtain ⟨z0, z1, z2, g0, g1, g2⟩ := tri_cells k1)
          (try simp only [Exit.inBlock, Exit.then])
          rw [hpv, hpr]
          refine bodyPost_ret ?hr rfl ⟨rfl, ?_⟩
          case hr =>
            simp only [results, Try.results18]
            go_simp
          (repeat' (first | (with_reducible exact Below.refl _ _) | (with_reducible assumption) | (with_reducible refine Below.alloc ?_ ?_ _) | (with_reducible refine Below.drew ?_) | (with_reducible refine below_drewN ?_ _) | (with_reducible refine Below.setCell ?_ ?_ _) | (with_reducible refine Below.trans ?_ (by assumption)) | go_size))
      · go_wp2
        go_meet
        exact ⟨rfl, hpl, hB0, hB1, hbr⟩
  obtain ⟨rfl, h13, hB0, hB1, hbw⟩ := hcut
  refine hK _ _ ?_; clear hK
  simp [pv] at hB0 hB1
  have hlo : w.heap.size + 1 < wc.heap.size := (Array.getElem?_eq_some_iff.1 hB1).1
  by_cases h14 : l.length = 13
  · have hpe : parM l = mayM (getN l 0 6) (getN l 6 1) (getN l 7 6) := by simp [parM, h14]
    unfold parV parE
    rw [hpe]
    clear hpe
    cases hm : mayM (getN l 0 6) (getN l 6 1) (getN l 7 6)
    all_goals
      have HM := Lib.hid hm
      clear hm
      first | rw [if_pos rfl, if_pos rfl] | rw [if_neg (by simp), if_neg (by simp)]
      obtain ⟨x0, x1, x2, -, -, -⟩ := tri_cells hB1
      go_wp2_with (go_at_call 20; refine (may_any _ _ _ _).mono ?_; rintro e w1 ⟨rfl, hb1⟩; rw [HM.out]; obtain ⟨z0, z1, z2, g0, g1, g2⟩ := tri_cells ((hb1.block _ (by omega)).trans hB0); obtain ⟨q0, q1, q2, f0, f1, f2⟩ := tri_cells ((hb1.block _ hlo).trans hB1); have hb4 := hbw.trans (hb1.mono (by omega)))
      (try simp only [Exit.inBlock, Exit.then])
      refine bodyPost_ret ?hr rfl ⟨rfl, ?_⟩
      case hr =>
        simp only [results, Try.results18]
        go_simp
      (repeat' (first | (with_reducible exact Below.refl _ _) | (with_reducible assumption) | (with_reducible refine Below.alloc ?_ ?_ _) | (with_reducible refine Below.drew ?_) | (with_reducible refine below_drewN ?_ _) | (with_reducible refine Below.setCell ?_ ?_ _) | (with_reducible refine Below.trans ?_ (by assumption)) | go_size))
  · have hpe : parM l = false := by simp [parM, h14]
    unfold parV parE
    rw [if_neg (by simp [hpe]), if_neg (by simp [hpe])]
    obtain ⟨z0, z1, z2, g0, g1, g2⟩ := tri_cells hB0
    go_wp2
    (try simp only [Exit.inBlock, Exit.then])
    refine bodyPost_ret ?hr rfl ⟨rfl, ?_⟩
    case hr =>
      simp only [results, Try.results18]
      go_simp
    (repeat' (first | (with_reducible exact Below.refl _ _) | (with_reducible assumption) | (with_reducible refine Below.alloc ?_ ?_ _) | (with_reducible refine Below.drew ?_) | (with_reducible refine below_drewN ?_ _) | (with_reducible refine Below.setCell ?_ ?_ _) | (with_reducible refine Below.trans ?_ (by assumption)) | go_size))
end Go.Proofs.Ytmnjmjbmnhppfaa
