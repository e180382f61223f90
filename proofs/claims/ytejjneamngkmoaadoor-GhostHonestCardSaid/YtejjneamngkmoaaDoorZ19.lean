/- Texts that the claim leans on, part 19: G8, O3, O4, G9, X15, G10, G11, G12. -/
import Derived.Test.YtejjneamngkmoaaDoorZ1
import Derived.Test.YtejjneamngkmoaaDoorZ2
import Derived.Test.YtejjneamngkmoaaDoorZ3
import Derived.Test.YtejjneamngkmoaaDoorZ4
import Derived.Test.YtejjneamngkmoaaDoorZ5
import Derived.Test.YtejjneamngkmoaaDoorZ6
import Derived.Test.YtejjneamngkmoaaDoorZ7
import Derived.Test.YtejjneamngkmoaaDoorZ8
import Derived.Test.YtejjneamngkmoaaDoorZ17
import Derived.Test.YtejjneamngkmoaaDoorZ18
import Derived.Test.YtejjneamngkmoaaDoorRows
import Derived.WalkKit
import Derived.WalkSpells
import Derived.WalkLawsBesides
import Derived.Handy
import Derived.Deep.QuietTactic
import Derived.BigQuiet
import Derived.Deep.DeepCutAuto
import Derived.Lib.Hide
import Derived.RegionTactic
import Derived.ChangeAlike
import Derived.Laws.ResultCell
import Derived.Outline
import Derived.Laws.BitsAllLaws
import Derived.Shelf.Abstract
import Derived.Shelf.RegionOpen
import Derived.OwnWalkIn
import Derived.TacticsInMore
import Derived.LoopNIn
import Derived.LoopIn
import Derived.Maps.AppendAt
import Derived.Laws.Shifts
import Derived.IntWalk
import Derived.RangeFuncNested
import Derived.RangeFuncBound
import Derived.RangeFuncCalls
import Derived.RangeFuncLeaves
import Derived.RangeFuncBox
import Derived.Laws.IdiomStrings
import Derived.Laws.BytesArg
import Derived.Laws.MakeOwn
import Derived.Lib.SliceRun
import Derived.Great.BuildSlice
import Derived.Great.FillDense
import Derived.Laws.Rows
import Derived.Deep.Quiet
import Derived.Deep.RegionHeld3
import Derived.ProofKit
import Derived.OpenShut
import Derived.Laws.CopyOwn
import Derived.Laws.CopyRow
import Derived.Laws.NewBlocks
import Derived.Deep.RegionLaw
namespace Go.Proofs.YtejjneamngkmoaaDoor
open Go.RowKit

def there2 (d : Dk) (s t : Int) : Int := if thereD d s ≠ 0 then thereD d s else thereD d t
theorem there_val {d : Dk} (hn : 0 < d.pl.length) (s : Int) : (s < 0 ∧ thereD d s = 2) ∨ (¬ s < 0 ∧ (d.pl.length : Int) ≤ s ∧ thereD d s = 2) ∨ (¬ s < 0 ∧ ¬ (d.pl.length : Int) ≤ s ∧ thereD d s = 0) := by
  unfold thereD
  rw [if_neg (by omega)]
  by_cases h1 : s < 0
  · exact .inl ⟨h1, if_pos (.inl h1)⟩
  · by_cases h2 : (d.pl.length : Int) ≤ s
    · exact .inr (.inl ⟨h1, h2, if_pos (.inr h2)⟩)
    · exact .inr (.inr ⟨h1, h2, if_neg (by omega)⟩)
theorem pl_restS (p : Pl) (x : List UInt8) (hx : x.length = 64) : (plC p).take 0 ++ (Value.agg (bys x).toArray).cells.toList ++ (plC p).drop (0 + 64) = plC { p with rest := x } := by
  have h1 : (bys (fix64 p.rest)).length = 64 := by rw [bys_len, fix64_len]
  have e : (plC p).drop (0 + 64) = bys (fix64 p.meant) ++ [.bool p.lost] := by
    unfold plC
    rw [show 0 + 64 = (bys (fix64 p.rest)).length by rw [h1], List.drop_left]
  rw [e, List.take_zero, List.nil_append]
  unfold plC
  simp only
  rw [fix64_of hx]
  rfl
theorem pls_restS {l : List Pl} {s : Nat} {p : Pl} (h : l[s]? = some p) (x : List UInt8) (hx : x.length = 64) : s * 129 + 64 ≤ (plsV l).size ∧ (Value.agg (bys x).toArray).cells.size = 64 ∧ (∀ u ∈ (Value.agg (bys x).toArray).cells.toList, u.oneCell' = true) ∧ ((plsV l).toList.take (s * 129) ++ (Value.agg (bys x).toArray).cells.toList ++ (plsV l).toList.drop (s * 129 + 64)).toArray = plsV (l.set s { p with rest := x }) := by
  have := pls_part (x := .agg (bys x).toArray) (n := 64) (r := 0) h (by show (bys x).toArray.size = 64; rw [List.size_toArray, bys_len]; exact hx) (by omega) (by show ∀ u ∈ (bys x).toArray.toList, _; exact bys_one) (pl_restS p x hx)
  simpa only [Nat.add_zero] using this
theorem pl_all {l : List Pl} {k : Nat} {p : Pl} (h : l[k]? = some p) : k * 129 + 129 ≤ (plsV l).size ∧ (plsV l).extract (k * 129) (k * 129 + 129) = (plC p).toArray := by
  have hs := (List.getElem?_eq_some_iff.1 h).1
  refine ⟨by rw [plsV_size]; omega, ?_⟩
  obtain ⟨a, b, rfl, hl, _⟩ := pl_split h
  have hfa : (a.flatMap plC).length = k * 129 := by rw [flat_len plC_len, hl, Nat.mul_comm]
  have e : (plsV (a ++ p :: b)).toList = a.flatMap plC ++ (plC p ++ b.flatMap plC) := by
    unfold plsV
    simp only [List.flatMap_append, List.flatMap_cons]
  apply Array.toList_inj.1
  rw [Array.toList_extract, e]
  show List.take (k * 129 + 129 - k * 129) (List.drop (k * 129) _) = plC p
  rw [← hfa, List.drop_left, show (a.flatMap plC).length + 129 - (a.flatMap plC).length = 129 by omega, ← plC_len p, List.take_left]
theorem plC_one (p : Pl) : ∀ u ∈ (plC p).toArray.toList, u.oneCell' = true := by
  intro u hu
  simp only [plC, List.mem_append, List.mem_singleton] at hu
  rcases hu with hu | hu | rfl
  · exact bys_one u hu
  · exact bys_one u hu
  · rfl
theorem pl_c128 {w : World} {q : Nat} {p : Pl} {T : TypeId} (h : w.heap[q]? = some (.cells (plC p).toArray T (0, 0))) : w.cell? ⟨q, 128, none⟩ = some (.bool p.lost) := blk_cell h 128 _ (by rw [List.getElem?_toArray]; exact pl_lostAt p)
theorem pl_rst {p : Pl} (hp : p.rest.length = 64) : 0 + 64 ≤ (plC p).toArray.size ∧ (plC p).toArray.extract 0 (0 + 64) = (bys p.rest).toArray := by
  refine ⟨by rw [List.size_toArray, plC_len]; omega, ?_⟩
  apply Array.toList_inj.1
  rw [Array.toList_extract]
  show List.take 64 (plC p) = bys p.rest
  unfold plC
  rw [fix64_of hp]
  have h64 : (bys p.rest).length = 64 := by rw [bys_len]; exact hp
  rw [← h64, List.take_left]
section
variable {B g gp : Nat} {wv : Value} {d : Dk} {w : World}
set_option maxRecDepth 100000 in
theorem there_2 (h : DiskB B g gp wv d w) (s t : Int) (q : Nat) (hq0 : w.cell? ⟨q, 0, none⟩ = some (.int .i64 s)) (hq1 : w.cell? ⟨q, 1, none⟩ = some (.int .i64 t)) : Calls Tryd.prog 65 #[.pointer (some ⟨g, 0, none⟩), .slice (some ⟨q, 0, none⟩) 2 2] w fun e w' => e = .returned (.int .i64 (there2 d s t)) ∧ w = w' := by
  have h0 : ((d.pl.length : Int) == 0) = false := by have := h.n0; rw [beq_eq_false_iff_ne]; omega
  have c0 := h.c0
  have HS := Lib.hid (there_val h.n0 s)
  have HT := Lib.hid (there_val h.n0 t)
  unfold there2
  generalize thereD d s = rs at *
  generalize thereD d t = rt at *
  obtain ⟨r, hr⟩ : ∃ r, (if rs ≠ 0 then rs else rt) = r := ⟨_, rfl⟩
  rw [hr]
  have HR := Lib.hid hr
  clear hr
  go_enter Tryd.func65, Tryd.ntmps65
  go_wp2_with (go_at_call 55; refine (dsize h).mono ?_; rintro e w1 ⟨rfl, rfl⟩)
  go_loopw [12, 6] (fun i _ wr => ∃ k : Nat, k ≤ 2 ∧ i = .int .i64 (k : Nat) ∧ Hid (1 ≤ k → rs = 0) ∧ Hid (2 ≤ k → rt = 0) ∧ wr = w) (fun i _ _ => 2 - (intOf i).toNat)
  case atStart => exact ⟨0, by omega, rfl, Lib.hid (fun h => absurd h (by omega)), Lib.hid (fun h => absurd h (by omega)), rfl⟩
  case round =>
    obtain ⟨k, hk, rfl, hk1, hk2, rfl⟩ := hrel
    rcases (show k = 0 ∨ k = 1 ∨ k = 2 by omega) with rfl | rfl | rfl
    · clear hk1 hk2
      rcases HS.out with ⟨h1, h2⟩ | ⟨h1, h2, h3⟩ | ⟨h1, h2, h3⟩
      · subst h2
        obtain rfl : r = 2 := by rw [← HR.out]; rfl
        go_wp2
        go_ret
        exact ⟨rfl, rfl⟩
      · subst h3
        obtain rfl : r = 2 := by rw [← HR.out]; rfl
        go_wp2
        go_ret
        exact ⟨rfl, rfl⟩
      · subst h3
        go_wp2
        go_roundw
        case rel => exact ⟨1, by omega, by first | rfl | go_num, Lib.hid (fun _ => by first | rfl | trivial), Lib.hid (fun h => absurd h (by omega)), by first | trivial | rfl⟩
        case measure => first | (simp [intOf]; done) | (simp [intOf]; omega)
    · have e := hk1.out (by omega)
      subst e
      clear hk1 hk2 HS
      rcases HT.out with ⟨h1, h2⟩ | ⟨h1, h2, h3⟩ | ⟨h1, h2, h3⟩
      · subst h2
        obtain rfl : r = 2 := by rw [← HR.out]; rfl
        go_wp2
        go_ret
        exact ⟨rfl, rfl⟩
      · subst h3
        obtain rfl : r = 2 := by rw [← HR.out]; rfl
        go_wp2
        go_ret
        exact ⟨rfl, rfl⟩
      · subst h3
        go_wp2
        go_roundw
        case rel => exact ⟨2, by omega, by first | rfl | go_num, Lib.hid (fun _ => by first | rfl | trivial), Lib.hid (fun _ => by first | rfl | trivial), by first | trivial | rfl⟩
        case measure => first | (simp [intOf]; done) | (simp [intOf]; omega)
    · have e := hk1.out (by omega)
      have e2 := hk2.out (by omega)
      subst e e2
      obtain rfl : r = 0 := by rw [← HR.out]; rfl
      clear hk1 hk2 HS HT
      go_wp2
      go_ret
      exact ⟨rfl, rfl⟩
set_option maxRecDepth 100000 in
set_option maxHeartbeats 1000000 in
theorem stray_any (h : DiskB B g gp wv d w) (hb : B ≤ w.heap.size) (s t : Int) : Calls Tryd.prog 86 #[.pointer (some ⟨g, 0, none⟩), .int .i64 s, .int .i64 t] w fun e w' => e = .returned (.int .i64 (strayD d s t).2) ∧ DiskB B g gp wv (strayD d s t).1 w' ∧ Kt B w w' := by
  have hbA := blw w (Obj.cells #[.int .i64 s, .int .i64 t] 3)
  have hA := h.below hbA
  have hk := Kt.of hbA hb
  have B0 := heap_alloc_new w (Obj.cells #[.int .i64 s, .int .i64 t] 3)
  have ht := there_2 hA s t w.heap.size (blk_cell B0 0 _ rfl) (blk_cell B0 1 _ rfl)
  have c0 := hA.c0
  have hP := hA.pls
  unfold there2 at ht
  unfold strayD
  by_cases h0 : thereD d s = 0
  · rw [if_neg (by simpa using h0)] at ht ⊢
    by_cases h1 : thereD d t = 0
    · rw [if_neg (by simpa using h1)]
      rw [h1] at ht
      have hsr := there_in h0
      have htr := there_in h1
      obtain ⟨k, rfl⟩ : ∃ k : Nat, s = k := ⟨s.toNat, by omega⟩
      obtain ⟨m, rfl⟩ : ∃ m : Nat, t = m := ⟨t.toNat, by omega⟩
      have hk2 : k < d.pl.length := by omega
      have hk3 : (k : Int) < d.pl.length := by omega
      have hm2 : m < d.pl.length := by omega
      have hm3 : (m : Int) < d.pl.length := by omega
      have hpk : d.pl[k]? = some d.pl[k] := List.getElem?_eq_getElem hk2
      have hpm : d.pl[m]? = some d.pl[m] := List.getElem?_eq_getElem hm2
      simp only [Int.toNat_natCast]
      rw [modify_set _ hpm, show d.pl.getD k zeroPl = d.pl[k] by rw [List.getD_eq_getElem?_getD, hpk]; rfl]
      have hok := h.ok _ (List.getElem_mem hk2)
      have hom := h.ok _ (List.getElem_mem hm2)
      generalize d.pl[k] = p at *
      generalize d.pl[m] = r at *
      clear h0 h1 hsr htr B0
      go_enter Tryd.func86, Tryd.ntmps86
      refine wp_seq_k (fun K hK => ?_)
      have HK := Lib.hid hK
      clear hK
      go_wp2
      refine HK.out _ _ ?_
      clear HK
      refine wp_seq_k (fun K hK => ?_)
      have HK := Lib.hid hK
      clear hK
      go_wp2_with (go_at_call 65; refine ht.mono ?_; rintro e w1 ⟨rfl, rfl⟩)
      refine HK.out _ _ ?_
      clear HK
      generalize w.alloc (Obj.cells #[.int .i64 (k : Int), .int .i64 (m : Int)] 3) = wq at *
      refine wp_seq_k (fun K hK => ?_)
      have HK := Lib.hid hK
      clear hK
      go_wp2_with (first
              | ((with_reducible refine wpList_ldB 133 _ ?_); refine ⟨rfl, _, ⟨_, _, _, _, _, Tryd.isAgg133, Tryd.sizeOf133, rfl, ‹_›, pl_all hpk⟩, ?_⟩)
              | ((with_reducible refine wpList_stNew 133 _ _ ?_); refine ⟨129, (plC p).toArray, ⟨Tryd.sizeOf133, rfl, rfl, by rw [List.size_toArray, plC_len], plC_one p⟩, by kernel_rfl, ?_⟩))
      refine HK.out _ _ ?_
      clear HK
      have X0 := heap_alloc_new wq (Obj.cells (plC p).toArray 133)
      have hbX := blw wq (Obj.cells (plC p).toArray 133)
      have hX := hA.below hbX
      have hkX := hk.trans (Kt.of hbX (Nat.le_trans hb hk.bl.size))
      have hneX : gp ≠ wq.heap.size := by have := lt_blk hA.pls; omega
      clear c0 hP ht hA hbX hbA
      generalize wq.alloc (Obj.cells (plC p).toArray 133) = wx at *
      generalize wq.heap.size = qx at *
      refine wp_seq_k (fun K hK => ?_)
      have HK := Lib.hid hK
      clear hK
      go_wp2_with fail
      have hbd := (Below.refl wx.heap.size wx).drew
      have hdD := hX.below hbd
      have hkD := hkX.trans (Kt.of hbd (Nat.le_trans hb hkX.bl.size))
      have hxD := tr_bl hbd X0
      have hne1 : gp ≠ g := by rintro rfl; have := hdD.box.symm.trans hdD.pls; injection this with this; injection this with _ e; revert e; decide
      clear hX hkX X0 hbd
      refine wp_region_held_drew (S := fun w' => w'.heap[g]? = some (.cells (dkA gp wv d) 30 (0, 0)) ∧ w'.heap[qx]? = some (.cells (plC p).toArray 133 (0, 0))) (by kernel_rfl) ⟨hdD.box, hxD⟩ (fun hS0 => ?_)
      generalize wx.drew = x0 at *
      refine wpAnyH_take (i := 0) (oi := ⟨_, _, _, _, _, _⟩) (v := ?_) rfl (by kernel_rfl) (by kernel_rfl) (by kernel_rfl) (fun _ _ _ h => h) (Or.inl ⟨by rfl, ?_⟩) (by assumption) ?_
      rotate_left
      · intro wS hSw
        go_simp; (try with_reducible rfl)
      (try simp only [Act.put])
      (try simp only [List.setIfInBounds_toArray])
      (try simp only [List.set_cons_succ])
      (try simp only [List.set_cons_zero])
      refine wpAnyH_take (i := 1) (oi := ⟨_, _, _, _, _, _⟩) (v := ?_) rfl (by kernel_rfl) (by kernel_rfl) (by kernel_rfl) (fun _ _ _ h => h) (Or.inl ⟨by rfl, ?_⟩) (by assumption) ?_
      rotate_left
      · intro wS hSw
        go_simp; (try with_reducible rfl)
      (try simp only [Act.put])
      (try simp only [List.setIfInBounds_toArray])
      (try simp only [List.set_cons_succ])
      (try simp only [List.set_cons_zero])
      refine wpAnyH_take (i := 2) (oi := ⟨_, _, _, _, _, _⟩) (v := ?_) rfl (by kernel_rfl) (by kernel_rfl) (by kernel_rfl) (fun _ _ _ h => h) (Or.inl ⟨by rfl, ?_⟩) (by assumption) ?_
      rotate_left
      · intro wS hSw
        go_simp; (try with_reducible rfl)
      (try simp only [Act.put])
      (try simp only [List.setIfInBounds_toArray])
      (try simp only [List.set_cons_succ])
      (try simp only [List.set_cons_zero])
      refine wpAnyH_take (i := 3) (oi := ⟨_, _, _, _, _, _⟩) (v := ?_) rfl (by kernel_rfl) (by kernel_rfl) (by kernel_rfl) (fun _ _ _ h => h) (Or.inl ⟨by rfl, ?_⟩) (by assumption) ?_
      rotate_left
      · intro wS hSw
        have c := dkA_c0 hSw.1; go_simp; (try with_reducible rfl)
      (try simp only [Act.put])
      (try simp only [List.setIfInBounds_toArray])
      (try simp only [List.set_cons_succ])
      (try simp only [List.set_cons_zero])
      refine wpAnyH_take (i := 4) (oi := ⟨_, _, _, _, _, _⟩) (v := ?_) rfl (by kernel_rfl) (by kernel_rfl) (by kernel_rfl) (fun _ _ _ h => h) (Or.inl ⟨by rfl, ?_⟩) (by assumption) ?_
      rotate_left
      · intro wS hSw
        go_simp; (try with_reducible rfl)
      (try simp only [Act.put])
      (try simp only [List.setIfInBounds_toArray])
      (try simp only [List.set_cons_succ])
      (try simp only [List.set_cons_zero])
      refine wpAnyH_take (i := 5) (oi := ⟨_, _, _, _, _, _⟩) (v := ?_) rfl (by kernel_rfl) (by kernel_rfl) (by kernel_rfl) (fun _ _ _ h => h) (Or.inl ⟨by rfl, ?_⟩) (by assumption) ?_
      rotate_left
      · intro wS hSw
        go_simp; (try with_reducible rfl)
      (try simp only [Act.put])
      (try simp only [List.setIfInBounds_toArray])
      (try simp only [List.set_cons_succ])
      (try simp only [List.set_cons_zero])
      refine wpAnyH_take (i := 6) (oi := ⟨_, _, _, _, _, _⟩) (v := ?_) rfl (by kernel_rfl) (by kernel_rfl) (by kernel_rfl) (fun _ _ _ h => h) (Or.inl ⟨by rfl, ?_⟩) (by assumption) ?_
      rotate_left
      · intro wS hSw
        go_simp; (try with_reducible rfl)
      (try simp only [Act.put])
      (try simp only [List.setIfInBounds_toArray])
      (try simp only [List.set_cons_succ])
      (try simp only [List.set_cons_zero])
      refine wpAnyH_take (i := 7) (oi := ⟨_, _, _, _, _, _⟩) (v := ?_) rfl (by kernel_rfl) (by kernel_rfl) (by kernel_rfl) (fun _ _ _ h => h) (Or.inl ⟨by rfl, ?_⟩) (by assumption) ?_
      rotate_left
      · intro wS hSw
        go_simp; (try with_reducible rfl)
      (try simp only [Act.put])
      (try simp only [List.setIfInBounds_toArray])
      (try simp only [List.set_cons_succ])
      (try simp only [List.set_cons_zero])
      refine wpAnyH_take (i := 8) (oi := ⟨_, _, _, _, _, _⟩) (v := ?_) rfl (by kernel_rfl) (by kernel_rfl) (by kernel_rfl) (fun _ _ _ h => h) (Or.inl ⟨by rfl, ?_⟩) (by assumption) ?_
      rotate_left
      · intro wS hSw
        have c := dkA_c0 hSw.1; go_simp; (try with_reducible rfl)
      (try simp only [Act.put])
      (try simp only [List.setIfInBounds_toArray])
      (try simp only [List.set_cons_succ])
      (try simp only [List.set_cons_zero])
      refine wpAnyH_take (i := 9) (oi := ⟨_, _, _, _, _, _⟩) (v := ?_) rfl (by kernel_rfl) (by kernel_rfl) (by kernel_rfl) (fun _ _ _ h => h) (Or.inl ⟨by rfl, ?_⟩) (by assumption) ?_
      rotate_left
      · intro wS hSw
        go_simp; (try with_reducible rfl)
      (try simp only [Act.put])
      (try simp only [List.setIfInBounds_toArray])
      (try simp only [List.set_cons_succ])
      (try simp only [List.set_cons_zero])
      refine wpAnyH_take (i := 10) (oi := ⟨_, _, _, _, _, _⟩) (v := ?_) rfl (by kernel_rfl) (by kernel_rfl) (by kernel_rfl) (fun _ _ _ h => h) (Or.inl ⟨by rfl, ?_⟩) (by assumption) ?_
      rotate_left
      · intro wS hSw
        go_simp; (try with_reducible rfl)
      (try simp only [Act.put])
      (try simp only [List.setIfInBounds_toArray])
      (try simp only [List.set_cons_succ])
      (try simp only [List.set_cons_zero])
      refine wpAnyH_take (i := 11) (oi := ⟨_, _, _, _, _, _⟩) (v := .agg ((bys p.rest).toArray)) rfl (by kernel_rfl) (by kernel_rfl) (by kernel_rfl) (fun _ _ _ h => h) (Or.inl ⟨by rfl, fun wS hSw => ?_⟩) (by assumption) ?_
      · exact exec_ldB 131 _ ⟨_, _, _, _, _, Tryd.isAgg131, Tryd.sizeOf131, rfl, hSw.2, pl_rst hok.1⟩
      (try simp only [Act.put])
      (try simp only [List.setIfInBounds_toArray])
      (try simp only [List.set_cons_succ])
      (try simp only [List.set_cons_zero])
      refine wpAnyH_take (i := 12) (oi := ⟨_, _, _, _, _, _⟩) (v := ?_) rfl (by kernel_rfl) (by kernel_rfl) (by kernel_rfl) (fun _ _ _ h => h) (Or.inl ⟨by rfl, ?_⟩) (by assumption) ?_
      rotate_left
      · intro wS hSw
        go_simp; (try with_reducible rfl)
      (try simp only [Act.put])
      (try simp only [List.setIfInBounds_toArray])
      (try simp only [List.set_cons_succ])
      (try simp only [List.set_cons_zero])
      refine wpAnyH_take (i := 13) (oi := ⟨_, _, _, _, _, _⟩) (v := ?_) rfl (by kernel_rfl) (by kernel_rfl) (by kernel_rfl) (fun _ _ _ h => h) (Or.inl ⟨by rfl, ?_⟩) (by assumption) ?_
      rotate_left
      · intro wS hSw
        have c := pl_c128 hSw.2; go_simp; (try with_reducible rfl)
      (try simp only [Act.put])
      (try simp only [List.setIfInBounds_toArray])
      (try simp only [List.set_cons_succ])
      (try simp only [List.set_cons_zero])
      refine wpAnyH_take (i := 14) (oi := ⟨_, _, _, _, _, _⟩) (v := ?_) rfl (by kernel_rfl) (by kernel_rfl) (by kernel_rfl) (fun _ _ _ h => h) (Or.inl ⟨by rfl, ?_⟩) (by assumption) ?_
      rotate_left
      · intro wS hSw
        go_simp; (try with_reducible rfl)
      (try simp only [Act.put])
      (try simp only [List.setIfInBounds_toArray])
      (try simp only [List.set_cons_succ])
      (try simp only [List.set_cons_zero])
      refine wpAnyH_take (i := 15) (oi := ⟨_, _, _, _, _, _⟩) (v := ?_) rfl (by kernel_rfl) (by kernel_rfl) (by kernel_rfl) (fun _ _ _ h => h) (Or.inl ⟨by rfl, ?_⟩) (by assumption) ?_
      rotate_left
      · intro wS hSw
        go_simp; (try with_reducible rfl)
      (try simp only [Act.put])
      (try simp only [List.setIfInBounds_toArray])
      (try simp only [List.set_cons_succ])
      (try simp only [List.set_cons_zero])
      refine wpAnyH_ready (rs := [16]) (by kernel_rfl) (by simp) ?_
      refine AllReadyH.cons (o := ⟨_, _, _, _, _, _⟩) rfl (fun K' hK' => ?_) AllReadyH.nil
      refine (if_pos (by rfl)).mpr ?_
      refine wp_stB 131 _ _ ?_
      refine ⟨_, _, _, ⟨_, _, _, Tryd.sizeOf131, rfl, hdD.pls, pls_restS hpm p.rest hok.1⟩, ?_⟩
      intro w6 B6 g6
      have hf6 := hdD.sect B6 g6 ⟨hok.1, hom.2⟩
      have hS6 : w6.heap[g]? = some (.cells (dkA gp wv d) 30 (0, 0)) ∧ w6.heap[qx]? = some (.cells (plC p).toArray 133 (0, 0)) := ⟨tr_st g6 hS0.1 hne1, tr_st g6 hS0.2 hneX⟩
      refine hK'.out _ _ hS6 (fun _ => ?_)
      clear hK'
      (try simp only [Act.put])
      (try simp only [List.setIfInBounds_toArray])
      (try simp only [List.set_cons_succ])
      (try simp only [List.set_cons_zero])
      refine wpAnyH_take (i := 17) (oi := ⟨_, _, _, _, _, _⟩) (v := ?_) rfl (by kernel_rfl) (by kernel_rfl) (by kernel_rfl) (fun _ _ _ h => h) (Or.inl ⟨by rfl, ?_⟩) (by assumption) ?_
      rotate_left
      · intro wS hSw
        go_simp; (try with_reducible rfl)
      (try simp only [Act.put])
      (try simp only [List.setIfInBounds_toArray])
      (try simp only [List.set_cons_succ])
      (try simp only [List.set_cons_zero])
      refine wpAnyH_take (i := 18) (oi := ⟨_, _, _, _, _, _⟩) (v := ?_) rfl (by kernel_rfl) (by kernel_rfl) (by kernel_rfl) (fun _ _ _ h => h) (Or.inl ⟨by rfl, ?_⟩) (by assumption) ?_
      rotate_left
      · intro wS hSw
        go_simp; (try with_reducible rfl)
      (try simp only [Act.put])
      (try simp only [List.setIfInBounds_toArray])
      (try simp only [List.set_cons_succ])
      (try simp only [List.set_cons_zero])
      refine wpAnyH_ready (rs := [19]) (by kernel_rfl) (by simp) ?_
      refine AllReadyH.cons (o := ⟨_, _, _, _, _, _⟩) rfl (fun K' hK' => ?_) AllReadyH.nil
      refine (if_pos (by rfl)).mpr ?_
      have hpm2 : (d.pl.set m { r with rest := p.rest })[m]? = some { r with rest := p.rest } := List.getElem?_set_self hm2
      refine wp_stB 4 _ _ ?_
      refine ⟨_, _, _, ⟨_, _, _, Tryd.sizeOf4, rfl, B6, pls_part (x := .bool p.lost) hpm2 rfl (by omega) (by simp [Value.cells, Value.oneCell']) (pl_lost _ p.lost)⟩, ?_⟩
      intro w7 B7 g7
      have hf7 := hf6.1.sect B7 g7 ⟨hok.1, hom.2⟩
      refine hK'.out _ _ ⟨tr_st g7 hS6.1 hne1, tr_st g7 hS6.2 hneX⟩ (fun _ => ?_)
      clear hK'
      refine wpAnyH_done (by kernel_rfl) ?_ _
      refine HK.out _ _ ?_
      clear HK
      go_wp2
      go_ret
      simp only [List.set_set] at hf7
      exact ⟨rfl, hf7.1, (hkD.trans hf6.2).trans hf7.2⟩
    · rw [if_pos (by simpa using h1)]
      have h0b : (thereD d t != 0) = true := by simpa using h1
      generalize thereD d t = rt at *
      go_enter Tryd.func86, Tryd.ntmps86
      go_wp2_with (go_at_call 65; refine ht.mono ?_; rintro e w1 ⟨rfl, rfl⟩)
      go_ret
      exact ⟨rfl, hA, hk⟩
  · rw [if_pos (by simpa using h0)] at ht ⊢
    have h0b : (thereD d s != 0) = true := by simpa using h0
    generalize thereD d s = rs at *
    go_enter Tryd.func86, Tryd.ntmps86
    go_wp2_with (go_at_call 65; refine ht.mono ?_; rintro e w1 ⟨rfl, rfl⟩)
    go_ret
    exact ⟨rfl, hA, hk⟩
end
end Go.Proofs.YtejjneamngkmoaaDoor

namespace Go.Proofs.YtejjneamngkmoaaDoor
open Go.RowKit

def widthB (k : Int) : Bool := k == 1 || k == 2 || k == 4 || k == 6
theorem width_any (k : Int) (w : World) : Calls Tryd.prog 115 #[.int .i64 k] w fun e w' => e = .returned (.bool (widthB k)) ∧ w = w' := by
  by_cases h : k = 1 ∨ k = 2 ∨ k = 4 ∨ k = 6
  · rcases h with rfl | rfl | rfl | rfl
    all_goals
      go_enter Tryd.func115, Tryd.ntmps115
      go_wp2
      go_ret
      exact ⟨rfl, rfl⟩
  · have h1 : (k == 1) = false := by rw [beq_eq_false_iff_ne]; omega
    have h2 : (k == 2) = false := by rw [beq_eq_false_iff_ne]; omega
    have h3 : (k == 4) = false := by rw [beq_eq_false_iff_ne]; omega
    have h4 : (k == 6) = false := by rw [beq_eq_false_iff_ne]; omega
    go_enter Tryd.func115, Tryd.ntmps115
    go_wp2
    go_ret
    exact ⟨ret_bool (by simp [widthB, h1, h2, h3, h4]), rfl⟩
theorem widthB_many (k : Int) : widthB k = !(manyI k == 0) := by
  unfold widthB manyI
  by_cases h1 : k = 1; · subst h1; rfl
  by_cases h2 : k = 2; · subst h2; rfl
  by_cases h3 : k = 4; · subst h3; rfl
  by_cases h4 : k = 6; · subst h4; rfl
  simp [h1, h2, h3, h4]

theorem fits_pow {kk nn : Nat} (hk : kk = 1 ∨ kk = 2 ∨ kk = 4 ∨ kk = 6) : fitsB kk nn = (((nn / 256 ^ kk : Nat) : Int) == 0) := by
  have h : (((nn / 256 ^ kk : Nat) : Int) == 0) = decide (nn < 256 ^ kk) := by
    rw [Bool.eq_iff_iff]
    simp only [beq_iff_eq, decide_eq_true_eq]
    rw [show (((nn / 256 ^ kk : Nat) : Int) = 0 ↔ nn / 256 ^ kk = 0) from by omega, Nat.div_eq_zero_iff]
    constructor
    · rintro (h | h)
      · have := Nat.pow_pos (n := kk) (show 0 < 256 by omega)
        omega
      · exact h
    · intro h; exact .inr h
  rw [h]
  unfold fitsB manyI
  rcases hk with rfl | rfl | rfl | rfl
  all_goals
    rw [Bool.eq_iff_iff]
    simp
    try omega

set_option maxHeartbeats 1000000 in
theorem rfits_any (k n : Int) (w : World) (hn : n ≤ 9223372036854775807) : Calls Tryd.prog 109 #[.int .i64 k, .int .i64 n] w fun e w' => e = .returned (.bool (fitsB k n)) ∧ w = w' := by
  by_cases hk : k = 1 ∨ k = 2 ∨ k = 4 ∨ k = 6
  · have hw : widthB k = true := by rcases hk with rfl | rfl | rfl | rfl <;> rfl
    have HW := Lib.hid hw
    clear hw
    by_cases h0 : 0 ≤ n
    · obtain ⟨kk, rfl⟩ : ∃ kk : Nat, k = kk := ⟨k.toNat, by omega⟩
      obtain ⟨nn, rfl⟩ : ∃ nn : Nat, n = nn := ⟨n.toNat, by omega⟩
      have hk6 : kk ≤ 6 := by omega
      rw [fits_pow (show kk = 1 ∨ kk = 2 ∨ kk = 4 ∨ kk = 6 by omega)]
      go_enter Tryd.func109, Tryd.ntmps109
      refine wp_seq_k (fun K hK => ?_)
      have HK := Lib.hid hK
      clear hK
      go_wp2
      refine HK.out _ _ ?_
      clear HK
      refine wp_seq_k (fun K hK => ?_)
      have HK := Lib.hid hK
      clear hK
      go_wp2_with (go_at_call 115; refine (width_any _ _).mono ?_; rintro e w' ⟨rfl, rfl⟩; rw [HW.out])
      refine HK.out _ _ ?_
      clear HK
      refine wp_seq_k (fun K hK => ?_)
      go_cut [1] (fun n wx => n = .int .i64 ((nn / 256 ^ kk : Nat) : Int) ∧ wx = w)
      case first =>
        go_wp2_with fail
        go_loopw [1, 5] (fun n i wr => ∃ j : Nat, j ≤ kk ∧ i = .int .i64 j ∧ n = .int .i64 ((nn / 256 ^ j : Nat) : Int) ∧ wr = w) (fun _ i _ => kk - (intOf i).toNat)
        case atStart => exact ⟨0, by omega, rfl, by simp, rfl⟩
        case round =>
          obtain ⟨j, hj, rfl, rfl, rfl⟩ := hrel
          have hq : nn / 256 ^ (j + 1) = nn / 256 ^ j / 256 := by rw [Nat.pow_succ, Nat.div_div_eq_div_mul]
          have hqn : nn / 256 ^ j ≤ nn := Nat.div_le_self _ _
          by_cases hlt : j < kk
          · generalize nn / 256 ^ j = q at *
            have HQ := Lib.hid hq
            clear hq
            go_wp2
            refine ⟨⟨j + 1, by omega, by go_num, ?_, by first | trivial | rfl⟩, by simp [intOf]; omega⟩
            rw [HQ.out]
            exact int_eq (by omega)
          · obtain rfl : j = kk := by omega
            clear hq
            generalize nn / 256 ^ j = q at *
            go_wp2
            go_meet
            exact ⟨rfl, by first | trivial | rfl⟩
      obtain ⟨rfl, rfl⟩ := hcut
      refine hK _ _ ?_; clear hK
      generalize nn / 256 ^ kk = q at *
      go_wp2
      go_ret
      exact ⟨rfl, rfl⟩
    · go_enter Tryd.func109, Tryd.ntmps109
      go_wp2_with (go_at_call 115; refine (width_any _ _).mono ?_; rintro e w' ⟨rfl, rfl⟩; rw [HW.out])
      go_ret
      exact ⟨ret_bool (by unfold fitsB; rw [decide_eq_false (by omega)]; rfl), rfl⟩
  · have hm : manyI k = 0 := by unfold manyI; rw [if_neg (by omega), if_neg (by omega), if_neg (by omega), if_neg (by omega)]
    have hw : widthB k = false := by rw [widthB_many, hm]; rfl
    have HW := Lib.hid hw
    have hf : fitsB k n = false := by unfold fitsB; rw [hm]; simp
    have HF := Lib.hid hf
    clear hw hm hf
    go_enter Tryd.func109, Tryd.ntmps109
    go_wp2_with (go_at_call 115; refine (width_any _ _).mono ?_; rintro e w' ⟨rfl, rfl⟩; rw [HW.out])
    go_ret
    exact ⟨ret_bool HF.out.symm, rfl⟩
end Go.Proofs.YtejjneamngkmoaaDoor

namespace Go.Proofs.YtejjneamngkmoaaDoor
open Go.RowKit

set_option maxHeartbeats 1000000 in
theorem rput_any (k n : Int) (w : World) (hn64 : n ≤ 9223372036854775807) : Calls Tryd.prog 90 #[.int .i64 k, .int .i64 n] w fun e w' => OwnBytes w.heap.size (oputL k n) (oputE k n) e w' ∧ Below w.heap.size w w' := by
  unfold oputL oputE
  cases hf : fitsB k n
  · rw [if_neg (by simp), if_neg (by simp)]
    have HF := Lib.hid hf
    clear hf
    go_enter Tryd.func90, Tryd.ntmps90
    go_wp2_with (go_at_call 109; refine (rfits_any _ _ _ hn64).mono ?_; rintro e w1 ⟨rfl, rfl⟩; rw [HF.out])
    go_ret2
    exact ⟨⟨.slice none 0 0, rfl, World.ownsRow_nil _ _ _ _⟩, Below.refl _ _⟩
  · rw [if_pos rfl, if_pos rfl]
    obtain ⟨hk, h0, hn⟩ := fits_w hf
    have HF := Lib.hid hf
    clear hf
    obtain ⟨kk, rfl⟩ : ∃ kk : Nat, k = kk := ⟨k.toNat, by omega⟩
    obtain ⟨nn, rfl⟩ : ∃ nn : Nat, n = nn := ⟨n.toNat, by omega⟩
    simp only [Int.toNat_natCast]
    have hk6 : kk ≤ 6 := by omega
    have hn48 := (manyI_bd kk).2
    go_enter Tryd.func90, Tryd.ntmps90
    refine wp_seq_k (fun K hK => ?_)
    have HK := Lib.hid hK
    clear hK
    go_wp2
    refine HK.out _ _ ?_
    clear HK
    refine wp_seq_k (fun K hK => ?_)
    have HK := Lib.hid hK
    clear hK
    go_wp2_with (go_at_call 109; refine (rfits_any _ _ _ hn64).mono ?_; rintro e w1 ⟨rfl, rfl⟩; rw [HF.out])
    refine HK.out _ _ ?_
    clear HK
    refine wp_seq_k (fun K hK => ?_)
    have HK := Lib.hid hK
    clear hK
    go_wp2
    refine HK.out _ _ ?_
    clear HK
    refine wp_seq_k (fun K hK => ?_)
    go_cut [6] (fun out wx => wx.ownsRow w.heap.size 5 1 out kk (bys (le kk nn)) ∧ Below w.heap.size w wx)
    case first =>
      go_wp2_with fail
      go_loopw [1, 6, 7] (fun n out i wr => ∃ j : Nat, j ≤ kk ∧ i = .int .i64 j ∧ n = .int .i64 ((nn / 256 ^ j : Nat) : Int) ∧ wr.ownsRow w.heap.size 5 1 out j (bys (le j nn)) ∧ Below w.heap.size w wr) (fun _ _ i _ => kk - (intOf i).toNat)
      case atStart => exact ⟨0, by omega, rfl, by simp, World.ownsRow_nil _ _ _ _, Below.refl _ _⟩
      case round =>
        obtain ⟨j, hj, rfl, rfl, hown, hb⟩ := hrel
        have hq : nn / 256 ^ (j + 1) = nn / 256 ^ j / 256 := by rw [Nat.pow_succ, Nat.div_div_eq_div_mul]
        have hqn : nn / 256 ^ j ≤ nn := Nat.div_le_self _ _
        have hsn := le_snoc j nn
        have hbs := hb.size
        by_cases hlt : j < kk
        · generalize nn / 256 ^ j = q at *
          have HQ := Lib.hid hq
          have HS := Lib.hid hsn
          clear hq hsn
          go_wp2_with (at_builtin; refine wpList_append1 rfl _ _ 38 5 elByte rfl w.heap.size _ _ _ rfl hown #[.int .u8 ((q : Int) % 256)] rfl (by simp; rfl) _ rfl (by omega) (by omega) (by omega) ?_)
          intro v' w' hown' hb' _
          have hb2 := hb.trans hb'
          go_wp2
          refine ⟨⟨j + 1, by omega, by go_num, ?_, ?_, hb2⟩, by simp [intOf]; omega⟩
          · rw [HQ.out]
            exact int_eq (by omega)
          · rw [HS.out, bys_app]
            have e1 : bys [UInt8.ofNat (q % 256)] = [.int .u8 ((q : Int) % 256)] := by simp only [bys, List.map_cons, List.map_nil, byv_low]
            rw [e1]
            simpa using hown'
        · obtain rfl : j = kk := by omega
          clear hq hsn
          generalize nn / 256 ^ j = q at *
          go_wp2
          go_meet
          exact ⟨hown, hb⟩
    obtain ⟨hown2, hb3⟩ := hcut
    refine hK _ _ ?_; clear hK
    go_wp2
    go_ret2
    refine ⟨⟨_, rfl, ?_⟩, hb3⟩
    rw [le_len]
    exact hown2

theorem copy_any (a : Option Addr) (cap : Nat) (l : List UInt8) (w : World) (hs : SlB w a cap l) (hl : l.length ≤ 1000000) :
    Calls Tryd.prog 107 #[.slice a l.length cap] w fun e w' => OwnRes w.heap.size 5 1 l.length (bys l) e w' ∧ Below w.heap.size w w' := by
  go_enter Tryd.func107, Tryd.ntmps107
  have hown := World.ownsRow_nil w w.heap.size 5 1
  have hmx := hs.max
  unfold maxLen at hmx
  go_wp2_with (at_builtin; refine wpList_append_row rfl _ _ 38 5 elByte rfl w.heap.size _ _ _ rfl hown a l.length cap (bys l) rfl (by rw [bys_len]; simp) hs.row bys_one (by omega) (by omega) (Nat.le_refl _) ?_)
  intro v' w' ho hb
  go_wp2
  go_ret
  refine ⟨⟨_, rfl, ?_⟩, hb⟩
  simpa using ho
end Go.Proofs.YtejjneamngkmoaaDoor

namespace Go.Proofs.YtejjneamngkmoaaDoor
open Go.RowKit

def a5L (x : A5) : List Value := [.int .u8 (x.kind : Int), .int .i64 x.sec, .int .i64 x.n, .slice x.ba x.bytes.length x.bc, .slice x.ka x.keep.length x.kc]
def a5A (x : A5) : Array Value := (a5L x).toArray
def a5V (x : A5) : Value := .agg (a5A x)
theorem a5_one (x : A5) : (∀ u ∈ (a5A x).toList, u.oneCell' = true) ∧ (a5A x).size = 5 := ⟨by simp [a5A, a5L, Value.oneCell'], rfl⟩
section
variable {w : World} {q : Nat} {T : TypeId} {x : A5}
theorem a5_c0 (h : w.heap[q]? = some (.cells (a5A x) T (0, 0))) : w.cell? ⟨q, 0, none⟩ = some (.int .u8 (x.kind : Int)) := blk_cell h 0 _ rfl
theorem a5_c1 (h : w.heap[q]? = some (.cells (a5A x) T (0, 0))) : w.cell? ⟨q, 1, none⟩ = some (.int .i64 x.sec) := blk_cell h 1 _ rfl
theorem a5_c2 (h : w.heap[q]? = some (.cells (a5A x) T (0, 0))) : w.cell? ⟨q, 2, none⟩ = some (.int .i64 x.n) := blk_cell h 2 _ rfl
theorem a5_c3 (h : w.heap[q]? = some (.cells (a5A x) T (0, 0))) : w.cell? ⟨q, 3, none⟩ = some (.slice x.ba x.bytes.length x.bc) := blk_cell h 3 _ rfl
theorem a5_c4 (h : w.heap[q]? = some (.cells (a5A x) T (0, 0))) : w.cell? ⟨q, 4, none⟩ = some (.slice x.ka x.keep.length x.kc) := blk_cell h 4 _ rfl
end
/-- What an act names, in memory. -/
structure A5in (w : World) (x : A5) : Prop where
  b : SlB w x.ba x.bc x.bytes
  k : Row w x.ka (x.keep.map Value.bool)
theorem A5in.below {w w' : World} {x : A5} (h : A5in w x) (hb : Below w.heap.size w w') : A5in w' x := ⟨h.b.below hb, h.k.below0 hb⟩
theorem byv_mod (n : Int) : byv (UInt8.ofNat (n % 256).toNat) = .int .u8 (n % 256) := by
  unfold byv
  congr 1
  have h : (n % 256).toNat < 256 := by omega
  rw [UInt8.toNat_ofNat', Nat.mod_eq_of_lt h]
  omega
theorem sectorL_le {n : Int} {l : List UInt8} (h : l.length ≤ 200) : (sectorL n l).length ≤ 200 := by
  unfold sectorL
  split
  · exact h
  · simp
set_option maxRecDepth 100000 in
theorem sector_any (x : A5) (w : World) (hs : SlB w x.ba x.bc x.bytes) (hl : x.bytes.length ≤ 200) : Calls Tryd.prog 87 #[a5V x] w fun e w' => OwnRes w.heap.size 5 1 (sectorL x.n x.bytes).length (bys (sectorL x.n x.bytes)) e w' ∧ Below w.heap.size w w' := by
  have hbq := blw w (Obj.cells (a5A x) 49)
  have hsq := hs.below hbq
  have B0 := heap_alloc_new w (Obj.cells (a5A x) 49)
  have c2 := a5_c2 B0
  have c3 := a5_c3 B0
  unfold a5V
  clear B0
  by_cases h0 : 0 < x.bytes.length
  · have hI : (0 : Int) < x.bytes.length := by omega
    rw [show sectorL x.n x.bytes = x.bytes from if_pos h0]
    go_enter Tryd.func87, Tryd.ntmps87
    refine wp_seq_k (fun K hK => ?_)
    have HK := Lib.hid hK
    clear hK
    go_wp2
    refine HK.out _ _ ?_
    clear HK
    generalize w.alloc (Obj.cells (a5A x) 49) = w0 at *
    go_wp2_with (go_at_call 107; refine (copy_any _ _ _ _ hsq (by omega)).mono ?_; rintro e w1 ⟨⟨v1, rfl, o1⟩, hb1⟩)
    go_ret
    exact ⟨⟨_, rfl, owns_mono o1 hbq.size⟩, hbq.trans (hb1.mono hbq.size)⟩
  · have hI : ¬ (0 : Int) < x.bytes.length := by omega
    have e64 : bys (sectorL x.n x.bytes) = List.replicate 64 (.int .u8 (x.n % 256)) := by
      unfold sectorL
      rw [if_neg h0]
      unfold bys
      rw [List.map_replicate, byv_mod]
    have l64 : (sectorL x.n x.bytes).length = 64 := by unfold sectorL; rw [if_neg h0]; simp
    rw [e64, l64]
    clear e64 l64 h0
    go_enter Tryd.func87, Tryd.ntmps87
    refine wp_seq_k (fun K hK => ?_)
    have HK := Lib.hid hK
    clear hK
    go_wp2
    refine HK.out _ _ ?_
    clear HK
    have hqs := hbq.size
    generalize w.alloc (Obj.cells (a5A x) 49) = w0 at *
    generalize w.heap.size = q at *
    refine wp_seq_k (fun K hK => ?_)
    have HK := Lib.hid hK
    clear hK
    go_wp2
    refine HK.out _ _ ?_
    clear HK
    refine wp_seq_k (fun K hK => ?_)
    have HK := Lib.hid hK
    clear hK
    go_wp2
    refine HK.out _ _ ?_
    clear HK
    refine wp_seq_k (fun K hK => ?_)
    have HK := Lib.hid hK
    clear hK
    go_wp2_with fail
    go_loopw [4, 3] (fun s o wr => ∃ (j : Nat), j ≤ 64 ∧ s = .int .i64 (j : Int) ∧ wr.ownsRow w0.heap.size 5 1 o j (List.replicate j (.int .u8 (x.n % 256))) ∧ Below w0.heap.size w0 wr) (fun s _ _ => 64 - (intOf s).toNat)
    case atStart => exact ⟨0, by omega, rfl, World.ownsRow_nil _ _ _ _, Below.refl _ _⟩
    case round =>
      obtain ⟨j, hj, rfl, hown, hb⟩ := hrel
      have d2 := cell_later hb c2
      have hbs := hb.size
      by_cases hlt : j < 64
      · have hI2 : (j : Int) < 64 := by omega
        go_wp2_with (at_builtin; refine wpList_append1 rfl _ _ 38 5 elByte rfl w0.heap.size _ _ _ rfl hown #[.int .u8 (x.n % 256)] rfl (by simp; rfl) _ rfl (by omega) (by omega) (by omega) ?_; intro v' w' hown' hb' _)
        go_roundw
        case rel => exact ⟨j + 1, by omega, by go_num, by rw [List.replicate_succ']; simpa using hown', hb.trans hb'⟩
        case measure => simp [intOf]; omega
      · obtain rfl : j = 64 := by omega
        go_wp2
        refine HK.out _ _ ?_
        clear HK
        go_wp2
        go_ret
        exact ⟨⟨_, rfl, owns_mono hown hqs⟩, hbq.trans (hb.mono hqs)⟩
def gr5 (x : A5) : Bool := decide (200 < x.bytes.length) || decide (100 < x.keep.length)
set_option maxRecDepth 100000 in
theorem great5_any (x : A5) (q : Nat) (T : TypeId) (w : World) (hq : w.heap[q]? = some (.cells (a5A x) T (0, 0))) : Calls Tryd.prog 56 #[.slice (some ⟨q, 0, none⟩) 1 1] w fun e w' => e = .returned (.bool (gr5 x)) ∧ w = w' := by
  have c3 := a5_c3 hq
  have c4 := a5_c4 hq
  obtain ⟨r, hr⟩ : ∃ r, gr5 x = r := ⟨_, rfl⟩
  rw [hr]
  have HR := Lib.hid hr
  clear hq hr
  go_enter Tryd.func56, Tryd.ntmps56
  refine wp_seq_k (fun K hK => ?_)
  have HK := Lib.hid hK
  clear hK
  go_wp2
  refine HK.out _ _ ?_
  clear HK
  refine wp_seq_k (fun K hK => ?_)
  have HK := Lib.hid hK
  clear hK
  go_wp2
  refine HK.out _ _ ?_
  clear HK
  refine wp_seq_k (fun K hK => ?_)
  have HK := Lib.hid hK
  clear hK
  by_cases h1 : 200 < x.bytes.length
  · have hI : (200 : Int) < x.bytes.length := by omega
    obtain rfl : r = true := by rw [← HR.out]; unfold gr5; rw [decide_eq_true h1, Bool.true_or]
    go_wp2_with fail
    go_loopw [3] (fun s wr => s = .int .i64 0 ∧ wr = w) (fun _ _ => 0)
    case atStart => exact ⟨rfl, rfl⟩
    case round =>
      obtain ⟨rfl, rfl⟩ := hrel
      go_wp2
      go_ret
      exact ⟨rfl, rfl⟩
  · have hI : ¬ (200 : Int) < x.bytes.length := by omega
    by_cases h2 : 100 < x.keep.length
    · have hI2 : (100 : Int) < x.keep.length := by omega
      obtain rfl : r = true := by rw [← HR.out]; unfold gr5; rw [decide_eq_true h2, Bool.or_true]
      go_wp2_with fail
      go_loopw [3] (fun s wr => s = .int .i64 0 ∧ wr = w) (fun _ _ => 0)
      case atStart => exact ⟨rfl, rfl⟩
      case round =>
        obtain ⟨rfl, rfl⟩ := hrel
        go_wp2
        go_ret
        exact ⟨rfl, rfl⟩
    · have hI2 : ¬ (100 : Int) < x.keep.length := by omega
      obtain rfl : r = false := by rw [← HR.out]; unfold gr5; rw [decide_eq_false h1, decide_eq_false h2]; rfl
      go_wp2_with fail
      go_loopw [3] (fun s wr => ∃ j : Nat, j ≤ 1 ∧ s = .int .i64 (j : Int) ∧ wr = w) (fun s _ => 1 - (intOf s).toNat)
      case atStart => exact ⟨0, by omega, rfl, rfl⟩
      case round =>
        obtain ⟨j, hj, rfl, rfl⟩ := hrel
        rcases (show j = 0 ∨ j = 1 by omega) with rfl | rfl
        · go_wp2
          go_roundw
          case rel => exact ⟨1, by omega, by first | rfl | go_num, by first | trivial | rfl⟩
          case measure => first | (simp [intOf]; done) | (simp [intOf]; omega)
        · go_wp2
          refine HK.out _ _ ?_
          clear HK
          go_wp2
          go_ret
          exact ⟨rfl, rfl⟩
/-! Bytes of one's own that are turned one by one. -/
theorem owns_kt {B base n : Nat} {w w' : World} {v : Value} {xs : List Value} (h : w.ownsRow base 5 1 v n xs) (hk : Kt B w w') : w'.ownsRow base 5 1 v n xs := by
  obtain ⟨hl, h | ⟨k, cap, cur, hv, hg, hc, r⟩⟩ := h
  · exact ⟨hl, .inl h⟩
  · exact ⟨hl, .inr ⟨k, cap, cur, hv, hg, hk.ty _ _ _ hc (by decide) (by decide) (by decide), r⟩⟩
theorem sectorL_pos (n : Int) (l : List UInt8) : 0 < (sectorL n l).length := by
  unfold sectorL
  split
  · assumption
  · simp
/-- A row of one's own bytes, as it lies. -/
theorem owns_cur {w : World} {base : Nat} {v : Value} {l : List UInt8} (h : w.ownsRow base 5 1 v l.length (bys l)) (hl : 0 < l.length) : ∃ (g1 cap : Nat) (cur : List Value), v = .slice (some ⟨g1, 0, none⟩) l.length cap ∧ base ≤ g1 ∧ l.length ≤ cap ∧ cap ≤ maxLen ∧ l.length ≤ cur.length ∧ w.heap[g1]? = some (.cells cur.toArray 5 (0, 0)) ∧ ∀ i, i < l.length → ∃ y : Int, cur[i]? = some (.int .u8 y) := by
  rcases h.2 with ⟨h1, h2⟩ | ⟨g, cap, cur, h1, h2, h3, h4, h5, h6, h7⟩
  · omega
  · refine ⟨g, cap, cur.toList, h1, h2, h4, h5, ?_, by rw [Array.toArray_toList]; exact h3, fun i hi => ?_⟩
    · have := congrArg List.length h7
      rw [List.length_take, bys_len] at this
      omega
    · have hb : (bys l)[i]? = some (byv l[i]) := by simp [bys, hi]
      rw [← h7, List.getElem?_take_of_lt (by omega)] at hb
      exact ⟨_, hb⟩
theorem set_st (cur : List Value) (j : Nat) (u : Value) (hj : j < cur.length) (h1 : u.cells = #[u]) (h2 : u.oneCell' = true) : j + 1 ≤ cur.toArray.size ∧ u.cells.size = 1 ∧ (∀ y ∈ u.cells.toList, y.oneCell' = true) ∧ (cur.toArray.toList.take j ++ u.cells.toList ++ cur.toArray.toList.drop (j + 1)).toArray = (cur.set j u).toArray := by
  refine ⟨by show j + 1 ≤ cur.length; omega, by rw [h1]; rfl, by rw [h1]; simpa using h2, ?_⟩
  rw [h1]
  simp only
  rw [List.set_eq_take_append_cons_drop, if_pos hj]
  simp
section
variable {B g gp : Nat} {wv : Value} {d : Dk} {w w' : World}
theorem DiskB.stO {q : Nat} {cs : Array Value} {T : TypeId} (h : DiskB B g gp wv d w) (hg : w.grownBy w' (some q)) (hc : w.heap[q]? = some (.cells cs T (0, 0))) (h1 : 30 ≠ T) (h2 : 133 ≠ T) (h3 : 158 ≠ T) : DiskB B g gp wv d w' := by
  have hne : ∀ {j : Nat} {xs : Array Value} {T' : TypeId}, w.heap[j]? = some (.cells xs T' (0, 0)) → T' ≠ T → q ≠ j := fun hj hT e => by
    subst e
    rw [hc] at hj
    injection hj with hj
    injection hj with _ e
    exact hT e.symm
  exact ⟨tr_st hg h.box (hne h.box h1), tr_st hg h.pls (hne h.pls h2), owns_ne h.wts hg hc h3, h.gb, h.pb, h.n0, h.nl, h.lo, h.hi, h.ok, h.wk⟩
theorem Kt.own {B q : Nat} {w w1 w2 : World} (h : Kt B w w1) (hg : w1.grownBy w2 (some q)) (hq : w.heap.size ≤ q) (hB : B ≤ w.heap.size) : Kt B w w2 :=
  ⟨h.bl.grown hg (Nat.le_trans hB h.bl.size) (fun k e => by cases e; omega), fun j cs T a b c e => tr_st hg (h.ty j cs T a b c e) (by have := lt_blk a; omega)⟩
/-- What an act leaves of a disk. -/
def Does (B g gp : Nat) (w : World) (d' : Dk) (w' : World) : Prop := (∃ wv', DiskB B g gp wv' d' w') ∧ Kt B w w'
set_option maxRecDepth 100000 in
set_option maxHeartbeats 2000000 in
theorem do5_any (h : DiskB B g gp wv d w) (hb : B ≤ w.heap.size) (x : A5) (hi : ∀ w', Kt B w w' → A5in w' x) (hk : x.kind < 256) (hn : x.n ≤ 9223372036854775807) (hl : x.bytes.length ≤ 200) (hw : d.waits.length ≤ 1000000) :
    Calls Tryd.prog 57 #[.pointer (some ⟨g, 0, none⟩), a5V x] w fun e w' => e = .returned (.int .i64 (do5A d x).2) ∧ Does B g gp w (do5A d x).1 w' := by
  have hbq := blw w (Obj.cells (a5A x) 49)
  have D := h.below hbq
  have k0 := Kt.of hbq hb
  have B0 := heap_alloc_new w (Obj.cells (a5A x) 49)
  have c0 := a5_c0 B0
  have c1 := a5_c1 B0
  have c2 := a5_c2 B0
  have c3 := a5_c3 B0
  have c4 := a5_c4 B0
  have hB : B ≤ (w.alloc (Obj.cells (a5A x) 49)).heap.size := Nat.le_trans hb k0.bl.size
  have I0 := hi _ k0
  unfold do5A do5
  unfold a5V
  clear hbq h
  by_cases h0 : x.kind % 9 = 0
  · rw [if_pos h0]
    have e0 : (x.kind : Int) % 9 = 0 := by omega
    have f0 : (x.kind : Int).tmod 9 = 0 := by rw [Int.tmod_eq_emod_of_nonneg (by omega)]; exact e0
    clear h0
    have hb0 := hb
    go_enter Tryd.func57, Tryd.ntmps57
    refine wp_seq_k (fun K hK => ?_)
    have HK := Lib.hid hK
    clear hK
    go_wp2
    refine HK.out _ _ ?_
    clear HK
    generalize w.alloc (Obj.cells (a5A x) 49) = w0 at *
    generalize hqe : w.heap.size = q at *
    replace hqe := Lib.hid hqe
    go_wp2_with (go_at_call 64; refine (flush_any D hB).mono ?_; rintro e w1 ⟨rfl, D1, k1⟩)
    go_ret
    exact ⟨rfl, D1, k0.trans k1⟩
  rw [if_neg h0]
  by_cases h1 : x.kind % 9 = 1
  · rw [if_pos h1]
    have e1 : (x.kind : Int) % 9 = 1 := by omega
    have f1 : (x.kind : Int).tmod 9 = 1 := by rw [Int.tmod_eq_emod_of_nonneg (by omega)]; exact e1
    clear h1
    have hb0 := hb
    go_enter Tryd.func57, Tryd.ntmps57
    refine wp_seq_k (fun K hK => ?_)
    have HK := Lib.hid hK
    clear hK
    go_wp2
    refine HK.out _ _ ?_
    clear HK
    generalize w.alloc (Obj.cells (a5A x) 49) = w0 at *
    generalize hqe : w.heap.size = q at *
    replace hqe := Lib.hid hqe
    go_wp2_with (go_at_call 35; refine (crash_any D hB x.ka x.kc x.keep (fun w' hk' => (hi w' (k0.trans hk')).k)).mono ?_; rintro e w1 ⟨rfl, D1, k1⟩)
    go_ret
    exact ⟨rfl, D1, k0.trans k1⟩
  rw [if_neg h1]
  by_cases h2 : x.kind % 9 = 2
  · rw [if_pos h2]
    have e2 : (x.kind : Int) % 9 = 2 := by omega
    have f2 : (x.kind : Int).tmod 9 = 2 := by rw [Int.tmod_eq_emod_of_nonneg (by omega)]; exact e2
    clear h2
    have hb0 := hb
    go_enter Tryd.func57, Tryd.ntmps57
    refine wp_seq_k (fun K hK => ?_)
    have HK := Lib.hid hK
    clear hK
    go_wp2
    refine HK.out _ _ ?_
    clear HK
    generalize w.alloc (Obj.cells (a5A x) 49) = w0 at *
    generalize hqe : w.heap.size = q at *
    replace hqe := Lib.hid hqe
    go_wp2_with (go_at_call 36; refine (start_any D).mono ?_; rintro e w1 ⟨rfl, D1, k1⟩)
    go_ret
    exact ⟨rfl, ⟨_, D1⟩, k0.trans k1⟩
  rw [if_neg h2]
  by_cases h3 : x.kind % 9 = 3
  · rw [if_pos h3]
    have e3 : (x.kind : Int) % 9 = 3 := by omega
    have f3 : (x.kind : Int).tmod 9 = 3 := by rw [Int.tmod_eq_emod_of_nonneg (by omega)]; exact e3
    clear h3
    have hb0 := hb
    go_enter Tryd.func57, Tryd.ntmps57
    refine wp_seq_k (fun K hK => ?_)
    have HK := Lib.hid hK
    clear hK
    go_wp2
    refine HK.out _ _ ?_
    clear HK
    generalize w.alloc (Obj.cells (a5A x) 49) = w0 at *
    generalize hqe : w.heap.size = q at *
    replace hqe := Lib.hid hqe
    go_wp2_with (go_at_call 40; refine (flip_any D hB x.sec x.n).mono ?_; rintro e w1 ⟨rfl, D1, k1⟩)
    go_ret
    exact ⟨rfl, ⟨_, D1⟩, k0.trans k1⟩
  rw [if_neg h3]
  by_cases h4 : x.kind % 9 = 4
  · rw [if_pos h4]
    have e4 : (x.kind : Int) % 9 = 4 := by omega
    have f4 : (x.kind : Int).tmod 9 = 4 := by rw [Int.tmod_eq_emod_of_nonneg (by omega)]; exact e4
    clear h4
    have hb0 := hb
    go_enter Tryd.func57, Tryd.ntmps57
    refine wp_seq_k (fun K hK => ?_)
    have HK := Lib.hid hK
    clear hK
    go_wp2
    refine HK.out _ _ ?_
    clear HK
    generalize w.alloc (Obj.cells (a5A x) 49) = w0 at *
    generalize hqe : w.heap.size = q at *
    replace hqe := Lib.hid hqe
    go_wp2_with (go_at_call 39; refine (lose_any D hB x.sec).mono ?_; rintro e w1 ⟨rfl, D1, k1⟩)
    go_ret
    exact ⟨rfl, ⟨_, D1⟩, k0.trans k1⟩
  rw [if_neg h4]
  by_cases h5 : x.kind % 9 = 5
  · rw [if_pos h5]
    have e5 : (x.kind : Int) % 9 = 5 := by omega
    have f5 : (x.kind : Int).tmod 9 = 5 := by rw [Int.tmod_eq_emod_of_nonneg (by omega)]; exact e5
    clear h5
    have hb0 := hb
    go_enter Tryd.func57, Tryd.ntmps57
    refine wp_seq_k (fun K hK => ?_)
    have HK := Lib.hid hK
    clear hK
    go_wp2
    refine HK.out _ _ ?_
    clear HK
    generalize w.alloc (Obj.cells (a5A x) 49) = w0 at *
    generalize hqe : w.heap.size = q at *
    replace hqe := Lib.hid hqe
    go_wp2_with (go_at_call 86; refine (stray_any D hB x.sec x.n).mono ?_; rintro e w1 ⟨rfl, D1, k1⟩)
    go_ret
    exact ⟨rfl, ⟨_, D1⟩, k0.trans k1⟩
  rw [if_neg h5]
  by_cases h8 : x.kind % 9 = 8
  · rw [if_pos h8]
    have e8 : (x.kind : Int) % 9 = 8 := by omega
    have f8 : (x.kind : Int).tmod 9 = 8 := by rw [Int.tmod_eq_emod_of_nonneg (by omega)]; exact e8
    clear h8
    have hb0 := hb
    go_enter Tryd.func57, Tryd.ntmps57
    refine wp_seq_k (fun K hK => ?_)
    have HK := Lib.hid hK
    clear hK
    go_wp2
    refine HK.out _ _ ?_
    clear HK
    generalize w.alloc (Obj.cells (a5A x) 49) = w0 at *
    generalize hqe : w.heap.size = q at *
    replace hqe := Lib.hid hqe
    go_wp2_with (go_at_call 37; refine (power_any D x.n hn).mono ?_; rintro e w1 ⟨rfl, D1, k1⟩)
    go_ret
    exact ⟨rfl, ⟨_, D1⟩, k0.trans k1⟩
  rw [if_neg h8]
  have i0 : ((x.kind : Int) % 9 == 0) = false := by rw [beq_eq_false_iff_ne]; omega
  have i1 : ((x.kind : Int) % 9 == 1) = false := by rw [beq_eq_false_iff_ne]; omega
  have i2 : ((x.kind : Int) % 9 == 2) = false := by rw [beq_eq_false_iff_ne]; omega
  have i3 : ((x.kind : Int) % 9 == 3) = false := by rw [beq_eq_false_iff_ne]; omega
  have i4 : ((x.kind : Int) % 9 == 4) = false := by rw [beq_eq_false_iff_ne]; omega
  have i5 : ((x.kind : Int) % 9 == 5) = false := by rw [beq_eq_false_iff_ne]; omega
  have i8 : ((x.kind : Int) % 9 == 8) = false := by rw [beq_eq_false_iff_ne]; omega
  have ft : (x.kind : Int).tmod 9 = (x.kind : Int) % 9 := Int.tmod_eq_emod_of_nonneg (by omega)
  clear h0 h1 h2 h3 h4 h5 h8
  have hsl := sectorL_le (n := x.n) hl
  have hb0 := hb
  go_enter Tryd.func57, Tryd.ntmps57
  refine wp_seq_k (fun K hK => ?_)
  have HK := Lib.hid hK
  clear hK
  go_wp2
  refine HK.out _ _ ?_
  clear HK
  generalize w.alloc (Obj.cells (a5A x) 49) = w0 at *
  generalize hqe : w.heap.size = q at *
  replace hqe := Lib.hid hqe
  refine wp_seq_k (fun K hK => ?_)
  have HK := Lib.hid hK
  clear hK
  go_wp2
  refine HK.out _ _ ?_
  clear HK
  refine wp_seq_k (fun K hK => ?_)
  have HK := Lib.hid hK
  clear hK
  go_wp2_with (first
      | ((with_reducible refine wpList_ldB 49 _ ?_); refine ⟨rfl, _, ⟨_, _, _, _, _, Tryd.isAgg49, Tryd.sizeOf49, rfl, ‹_›, arr_all rfl⟩, ?_⟩)
      | (go_at_call 87; refine (sector_any x _ I0.b hl).mono ?_; rintro e w1 ⟨⟨v1, rfl, o1⟩, hb1⟩))
  refine HK.out _ _ ?_
  clear HK
  have D1 := D.below hb1
  have k1 := k0.trans (Kt.of hb1 hB)
  have hq1 := k0.bl.size
  have hlp := sectorL_pos x.n x.bytes
  have c1' := cell_later hb1 c1
  clear D k0 c0 c1 c2 c3 c4 B0 I0 i0 i1 i2 i3 i4 i5 i8 ft
  generalize hsq : sectorL x.n x.bytes = sl at *
  clear hsq
  obtain ⟨g1, cap1, cur1, rfl, hg1, hn1, hm1, hu1, U1, hy1⟩ := owns_cur o1 hlp
  have hwr := write_any D1 (Nat.le_trans hB hb1.size) x.sec (some ⟨g1, 0, none⟩) cap1 sl (fun w' hk => by obtain ⟨_, _, e, h⟩ := SlB.of_owns (owns_kt o1 hk); cases e; exact h) hw
  clear D1 o1
  refine wp_seq_k (fun K hK => ?_)
  have HK := Lib.hid hK
  clear hK
  go_wp2_with (go_at_call 59; refine hwr.mono ?_; rintro e w2 ⟨rfl, ⟨wv2, D2⟩, k2⟩)
  refine HK.out _ _ ?_
  clear HK
  have U2 := k2.ty _ _ _ U1 (by decide) (by decide) (by decide)
  have k3 := k1.trans k2
  clear U1 hwr k1 k2 c1'
  refine wp_seq_k (fun K hK => ?_)
  have HK := Lib.hid hK
  clear hK
  go_wp2_with fail
  go_loopw [7] (fun i wr => ∃ (j : Nat) (cur : List Value), j ≤ sl.length ∧ i = .int .i64 (j : Nat) ∧ DiskB B g gp wv2 (writeD d x.sec sl).1 wr ∧ Kt B w wr ∧ sl.length ≤ cur.length ∧ wr.heap[g1]? = some (.cells cur.toArray 5 (0, 0)) ∧ (∀ i, i < sl.length → ∃ y : Int, cur[i]? = some (.int .u8 y))) (fun i _ => sl.length - (intOf i).toNat)
  case atStart => exact ⟨0, cur1, by omega, rfl, D2, k3, hu1, U2, hy1⟩
  case round =>
    clear D2 k3 U2 hu1 hy1
    obtain ⟨j, cur, hj, rfl, D3, k4, hu, U3, hy⟩ := hrel
    unfold maxLen at hm1
    by_cases hlt : j < sl.length
    · obtain ⟨y, hyj⟩ := hy j hlt
      have cj := blk_cell U3 j _ (by rw [List.getElem?_toArray]; exact hyj)
      go_wp2_with ((with_reducible refine wpList_stB 5 _ _ ?_); refine ⟨_, _, _, ⟨_, _, _, Tryd.sizeOf5, rfl, U3, set_st cur j _ (by omega) rfl rfl⟩, ?_⟩; intro w5 B5 g5)
      go_roundw
      case rel =>
        refine ⟨j + 1, _, by omega, by go_num, D3.stO g5 U3 (by decide) (by decide) (by decide), k4.own g5 (by have := hqe.out; omega) (by have := hqe.out; omega), by rw [List.length_set]; exact hu, B5, fun i hi => ?_⟩
        by_cases hij : i = j
        · subst hij
          exact ⟨_, List.getElem?_set_self (by omega)⟩
        · rw [List.getElem?_set_ne (fun e => hij e.symm)]
          exact hy i hi
      case measure => simp [intOf]; omega
    · obtain rfl : j = sl.length := by omega
      go_wp2
      refine HK.out _ _ ?_
      clear HK
      go_wp2
      go_ret
      exact ⟨rfl, ⟨_, D3⟩, k4⟩
end
end Go.Proofs.YtejjneamngkmoaaDoor

namespace Go.Proofs.YtejjneamngkmoaaDoor

def half1 (y : Nat) : Nat := (y / 2) ^^^ (if y % 2 = 1 then 2197175160 else 0)
def inR (r b : Nat) : Nat := if r % 2 = b then r / 2 else (r / 2) ^^^ 2197175160
def halfs : Nat → Nat → Nat
  | 0, y => y
  | k + 1, y => half1 (halfs k y)
theorem xor_half (a b : Nat) : (a ^^^ b) / 2 = a / 2 ^^^ b / 2 := Nat.xor_div_two_pow (n := 1)
theorem xor_low (a b : Nat) : (a ^^^ b) % 2 = a % 2 ^^^ b % 2 := Nat.xor_mod_two_pow (n := 1)
theorem half1_xor (a b : Nat) : half1 (a ^^^ b) = half1 a ^^^ half1 b := by
  unfold half1
  rw [xor_half, xor_low]
  rcases (show a % 2 = 0 ∨ a % 2 = 1 by omega) with h | h <;> rcases (show b % 2 = 0 ∨ b % 2 = 1 by omega) with k | k <;> rw [h, k] <;> simp only [Nat.xor_self, Nat.xor_zero, Nat.zero_xor, if_true, if_false, Nat.zero_ne_one]
  · rw [Nat.xor_assoc]
  · rw [Nat.xor_assoc, Nat.xor_assoc, Nat.xor_comm (b / 2)]
  · rw [Nat.xor_assoc, ← Nat.xor_assoc 2197175160, Nat.xor_comm 2197175160 (b / 2), Nat.xor_assoc, Nat.xor_self, Nat.xor_zero]
theorem halfs_xor (a b : Nat) : ∀ k, halfs k (a ^^^ b) = halfs k a ^^^ halfs k b
  | 0 => rfl
  | k + 1 => by
    show half1 (halfs k (a ^^^ b)) = half1 (halfs k a) ^^^ half1 (halfs k b)
    rw [halfs_xor a b k, half1_xor]
theorem half1_two (y : Nat) : half1 (2 * y) = y := by
  unfold half1
  rw [if_neg (by omega), Nat.xor_zero]
  omega
theorem halfs_16 (q : Nat) : halfs 4 (16 * q) = q := by
  show half1 (half1 (half1 (half1 (16 * q)))) = q
  rw [show 16 * q = 2 * (2 * (2 * (2 * q))) by omega, half1_two, half1_two, half1_two, half1_two]
theorem halfs_low : ∀ m, m < 16 → halfs 4 m = half m := by decide
theorem split16 (y : Nat) : y = 16 * (y / 16) ^^^ (y % 16) := by
  have h1 : (16 * (y / 16) ^^^ (y % 16)) / 16 = y / 16 := by
    have := Nat.xor_div_two_pow (a := 16 * (y / 16)) (b := y % 16) (n := 4)
    rw [show (2 : Nat) ^ 4 = 16 from rfl] at this
    rw [this, show y % 16 / 16 = 0 by omega, Nat.xor_zero]
    omega
  have h2 : (16 * (y / 16) ^^^ (y % 16)) % 16 = y % 16 := by
    have := Nat.xor_mod_two_pow (a := 16 * (y / 16)) (b := y % 16) (n := 4)
    rw [show (2 : Nat) ^ 4 = 16 from rfl] at this
    rw [this, show 16 * (y / 16) % 16 = 0 by omega, Nat.zero_xor]
    omega
  generalize 16 * (y / 16) ^^^ (y % 16) = z at *
  omega
theorem halfs_nib (y : Nat) : halfs 4 y = nib y := by
  have h := halfs_xor (16 * (y / 16)) (y % 16) 4
  rw [← split16] at h
  rw [h, halfs_16, halfs_low _ (by omega)]
  rfl
theorem halfs_add (y : Nat) : ∀ a b, halfs (a + b) y = halfs a (halfs b y)
  | 0, b => by rw [Nat.zero_add]; rfl
  | a + 1, b => by
    rw [show a + 1 + b = (a + b) + 1 by omega]
    show half1 (halfs (a + b) y) = half1 (halfs a (halfs b y))
    rw [halfs_add y a b]
theorem halfs_8 (r : Nat) (x : UInt8) : halfs 8 (r ^^^ x.toNat) = stepC r x := by
  rw [show (8 : Nat) = 4 + 4 from rfl, halfs_add, halfs_nib, halfs_nib]
  rfl
/-- One bit goes in. -/
theorem inR_step {r x y k : Nat} (h : r ^^^ x = halfs k y) : inR r (x % 2) ^^^ (x / 2) = halfs (k + 1) y := by
  show _ = half1 (halfs k y)
  rw [← h]
  unfold half1 inR
  rw [xor_half, xor_low]
  rcases (show r % 2 = 0 ∨ r % 2 = 1 by omega) with h | h <;> rcases (show x % 2 = 0 ∨ x % 2 = 1 by omega) with k | k <;> rw [h, k] <;> simp only [Nat.xor_self, Nat.xor_zero, Nat.zero_xor, if_true, if_false, Nat.zero_ne_one, Nat.one_ne_zero]
  · rw [Nat.xor_assoc, Nat.xor_assoc, Nat.xor_comm (x / 2)]
  · rw [Nat.xor_assoc, Nat.xor_assoc, Nat.xor_comm (x / 2)]
theorem inR_lt {r b : Nat} (h : r < 4294967296) : inR r b < 4294967296 := by
  unfold inR
  split
  · omega
  · exact Nat.xor_lt_two_pow (n := 32) (show r / 2 < 2 ^ 32 by omega) (by decide)
end Go.Proofs.YtejjneamngkmoaaDoor

namespace Go.Proofs.YtejjneamngkmoaaDoor
open Go.RowKit

set_option maxRecDepth 100000 in
theorem rin_any (r b : Nat) (w : World) (hr : r < 4294967296) (hb : b < 2) : Calls Tryd.prog 116 #[.int .u32 (r : Int), .int .u32 (b : Int)] w fun e w' => e = .returned (.int .u32 (inR r b : Nat)) ∧ w = w' := by
  have hx := u32_xor_nat (r / 2) 2197175160 (by omega) (by decide)
  rw [show ((r / 2 : Nat) : Int) = (r : Int) / 2 by omega] at hx
  obtain ⟨p, hp, hp2⟩ : ∃ p : Nat, r % 2 = p ∧ p < 2 := ⟨_, rfl, by omega⟩
  have e1 : (r : Int) % 2 = (p : Int) := by omega
  have e2 : (r : Int).tmod 2 = (p : Int) := by rw [Int.tmod_eq_emod_of_nonneg (by omega)]; exact e1
  have E2 := Lib.hid e2
  unfold inR
  rw [hp]
  by_cases h : p = b
  · subst h
    rw [if_pos rfl]
    clear hp hx e2
    go_enter Tryd.func116, Tryd.ntmps116
    go_wp2
    go_ret
    exact ⟨ret_int (by omega), rfl⟩
  · rw [if_neg h]
    have hne : ((p : Int) == (b : Int)) = false := by rw [beq_eq_false_iff_ne]; omega
    have HX := Lib.hid hx
    clear hp h hx e2
    go_enter Tryd.func116, Tryd.ntmps116
    go_wp2
    go_ret
    exact ⟨ret_int HX.out, rfl⟩
theorem u32_flip {r : Nat} (h : r < 4294967296) : ((r ^^^ ones : Nat) : Int) = 4294967295 - (r : Int) := by
  have e : r ^^^ ones = 2 ^ 32 - (r + 1) := by
    apply Nat.eq_of_testBit_eq
    intro i
    rw [Nat.testBit_two_pow_sub_succ (by omega), Nat.testBit_xor, show ones = 2 ^ 32 - 1 from rfl, Nat.testBit_two_pow_sub_one]
    by_cases hi : i < 32
    · simp [hi]
    · have : r.testBit i = false := Nat.testBit_lt_two_pow (Nat.lt_of_lt_of_le (show r < 2 ^ 32 by omega) (Nat.pow_le_pow_right (by decide) (by omega)))
      simp [hi, this]
  rw [e]
  omega
theorem runC_snoc2 (r : Nat) (l : List UInt8) (j : Nat) (h : j < l.length) : runC r (l.take (j + 1)) = stepC (runC r (l.take j)) l[j] := by
  rw [List.take_succ_eq_append_getElem h, runC_app]
  rfl
set_option maxRecDepth 100000 in
set_option maxHeartbeats 1000000 in
theorem rextend_any (a : Option Addr) (cap : Nat) (l : List UInt8) (w : World) (hs : SlB w a cap l) : Calls Tryd.prog 110 #[.int .u32 0, .slice a l.length cap] w fun e w' => e = .returned (.int .u32 (crcS l : Nat)) ∧ w = w' := by
  have hmx := hs.max
  have hle := hs.le
  unfold maxLen at hmx
  obtain ⟨z, hz⟩ : ∃ z, crcS l = z := ⟨_, rfl⟩
  rw [hz]
  have HZ := Lib.hid hz
  clear hz
  go_enter Tryd.func110, Tryd.ntmps110
  refine wp_seq_k (fun K hK => ?_)
  have HK := Lib.hid hK
  clear hK
  go_wp2
  refine HK.out _ _ ?_
  clear HK
  refine wp_seq_k (fun K hK => ?_)
  have HK := Lib.hid hK
  clear hK
  go_wp2
  refine HK.out _ _ ?_
  clear HK
  refine wp_seq_k (fun K hK => ?_)
  have HK := Lib.hid hK
  clear hK
  go_wp2_with fail
  go_loopw [6, 5, 7, 8] (fun i r _ _ wr => ∃ j : Nat, j ≤ l.length ∧ i = .int .i64 (j : Nat) ∧ r = .int .u32 (runC ones (l.take j) : Nat) ∧ wr = w) (fun i _ _ _ _ => l.length - (intOf i).toNat)
  case atStart => exact ⟨0, by omega, rfl, rfl, rfl⟩
  case round =>
    obtain ⟨j, hj, rfl, rfl, rfl⟩ := hrel
    have hlt0 := runC_lt (l.take j) (r := ones) (by decide)
    by_cases hlt : j < l.length
    case neg =>
      obtain rfl : j = l.length := by omega
      rw [List.take_length] at hlt0 ⊢
      have hfl := u32_flip hlt0
      have hcr : z = runC ones l ^^^ ones := by rw [← HZ.out]; rfl
      subst hcr
      have HFL := Lib.hid hfl
      clear hfl HZ
      generalize runC ones l = r at *
      go_wp2
      refine HK.out _ _ ?_
      clear HK
      go_wp2
      go_ret
      exact ⟨ret_int (by rw [HFL.out]), rfl⟩
    case pos =>
      obtain ⟨b, off, rfl, hc⟩ := hs.row.byte hlt
      have hsn := Lib.hid (runC_snoc2 ones l j hlt)
      generalize l[j] = x at *
      have hx := x.toNat_lt
      generalize runC ones (l.take j) = r at *
      refine wp_seq_k (fun K hK => ?_)
      have HK := Lib.hid hK
      clear hK
      go_wp2
      refine HK.out _ _ ?_
      clear HK
      refine wp_seq_k (fun K2 hK2 => ?_)
      have HK2 := Lib.hid hK2
      clear hK2
      refine wp_block ?_
      refine wp_seq_k (fun K hK => ?_)
      have HK := Lib.hid hK
      clear hK
      go_wp2
      refine HK.out _ _ ?_
      clear HK
      refine wp_seq_k (fun K hK => ?_)
      have HK := Lib.hid hK
      clear hK
      go_wp2
      refine HK.out _ _ ?_
      clear HK
      go_wp2_with fail
      go_loopw [8, 5, 7] (fun i rr xx wq => ∃ k rk xk : Nat, k ≤ 8 ∧ i = .int .i64 (k : Nat) ∧ rr = .int .u32 (rk : Nat) ∧ xx = .int .u32 (xk : Nat) ∧ rk < 4294967296 ∧ xk < 256 ∧ Hid (xk < 2 ^ (8 - k)) ∧ Hid (rk ^^^ xk = halfs k (r ^^^ x.toNat)) ∧ wq = wr) (fun i _ _ _ => 8 - (intOf i).toNat)
      case atStart => exact ⟨0, r, x.toNat, by omega, rfl, rfl, rfl, hlt0, by omega, Lib.hid (by simpa using hx), Lib.hid rfl, rfl⟩
      case round =>
        obtain ⟨k, rk, xk, hk, rfl, rfl, rfl, hrk, hxk, hxp, hst, rfl⟩ := hrel
        by_cases hk8 : k < 8
        case pos =>
          have hin := rin_any rk (xk % 2) wr hrk (by omega)
          have hst2 := Lib.hid (inR_step hst.out)
          have hlt2 := inR_lt (b := xk % 2) hrk
          have hxp2 := Lib.hid (show xk / 2 < 2 ^ (8 - (k + 1)) by
            have h1 := hxp.out
            rw [show 8 - k = 8 - (k + 1) + 1 by omega, Nat.pow_succ] at h1
            omega)
          obtain ⟨p, hp, hp2⟩ : ∃ p : Nat, xk % 2 = p ∧ p < 2 := ⟨_, rfl, by omega⟩
          rw [hp] at hin hst2 hlt2
          have e1 : (xk : Int) % 2 = (p : Int) := by omega
          have e2 : (xk : Int).tmod 2 = (p : Int) := by rw [Int.tmod_eq_emod_of_nonneg (by omega)]; exact e1
          clear hp hst hxp
          generalize inR rk p = r2 at *
          go_wp2_with (go_at_call 116; refine hin.mono ?_; rintro e w3 ⟨rfl, rfl⟩)
          go_roundw
          case rel => exact ⟨k + 1, r2, xk / 2, by omega, by go_num, rfl, by first | rfl | (exact int_eq (by omega)), hlt2, by omega, hxp2, hst2, by first | trivial | rfl⟩
          case measure => simp [intOf]; omega
        case neg =>
          obtain rfl : k = 8 := by omega
          have hx0 : xk = 0 := by have := hxp.out; simpa using this
          subst hx0
          have hfin := Lib.hid (show rk = runC ones (l.take (j + 1)) by
            rw [hsn.out, ← halfs_8, ← hst.out, Nat.xor_zero])
          clear hxp hst
          go_wp2
          (try simp only [Exit.inBlock, Exit.then])
          refine HK2.out _ _ ?_
          clear HK2
          go_wp2
          go_roundw
          case rel => exact ⟨j + 1, by omega, by go_num, by rw [hfin.out], by first | trivial | rfl⟩
          case measure => simp [intOf]; omega
set_option maxRecDepth 100000 in
theorem rsum_any (a : Option Addr) (cap : Nat) (l : List UInt8) (w : World) (hs : SlB w a cap l) : Calls Tryd.prog 91 #[.slice a l.length cap] w fun e w' => e = .returned (.int .u32 (crcS l : Nat)) ∧ w = w' := by
  go_enter Tryd.func91, Tryd.ntmps91
  go_wp2_with (go_at_call 110; refine (rextend_any a cap l _ hs).mono ?_; rintro e w1 ⟨rfl, rfl⟩)
  go_ret
  exact ⟨rfl, rfl⟩
end Go.Proofs.YtejjneamngkmoaaDoor

namespace Go.Proofs.YtejjneamngkmoaaDoor
open Go.RowKit

set_option maxRecDepth 100000 in
theorem rplaces_any (n : Int) (w : World) : Calls Tryd.prog 114 #[.int .i64 n] w fun e w' => e = .returned (.int .i64 (placesN n)) ∧ w = w' := by
  by_cases h1 : n = 1
  · subst h1
    go_enter Tryd.func114, Tryd.ntmps114
    go_wp2
    go_ret
    exact ⟨rfl, rfl⟩
  by_cases h2 : n = 2
  · subst h2
    go_enter Tryd.func114, Tryd.ntmps114
    go_wp2
    go_ret
    exact ⟨rfl, rfl⟩
  by_cases h3 : n = 3
  · subst h3
    go_enter Tryd.func114, Tryd.ntmps114
    go_wp2
    go_ret
    exact ⟨rfl, rfl⟩
  by_cases h4 : n = 4
  · subst h4
    go_enter Tryd.func114, Tryd.ntmps114
    go_wp2
    go_ret
    exact ⟨rfl, rfl⟩
  by_cases h5 : n = 5
  · subst h5
    go_enter Tryd.func114, Tryd.ntmps114
    go_wp2
    go_ret
    exact ⟨rfl, rfl⟩
  have e : placesN n = 0 := by unfold placesN; rw [if_neg h1, if_neg h2, if_neg h3, if_neg h4, if_neg h5]
  rw [e]
  have i1 : (n == 1) = false := by rw [beq_eq_false_iff_ne]; exact h1
  have i2 : (n == 2) = false := by rw [beq_eq_false_iff_ne]; exact h2
  have i3 : (n == 3) = false := by rw [beq_eq_false_iff_ne]; exact h3
  have i4 : (n == 4) = false := by rw [beq_eq_false_iff_ne]; exact h4
  have i5 : (n == 5) = false := by rw [beq_eq_false_iff_ne]; exact h5
  clear h1 h2 h3 h4 h5 e
  go_enter Tryd.func114, Tryd.ntmps114
  go_wp2
  go_ret
  exact ⟨rfl, rfl⟩
theorem may_no {t : Tg} (h : t.rep < 0 ∨ 6 < t.rep ∨ t.reg < 1 ∨ 5 < t.reg ∨ t.pla < 0 ∨ placesN t.reg ≤ t.pla) : mayTg t = false := by
  rw [Bool.eq_false_iff]
  intro hm
  obtain ⟨a1, a2, a3, a4, _⟩ := mayTg_parts hm
  obtain ⟨b1, b2, _⟩ := mayTg_small hm
  omega
set_option maxRecDepth 100000 in
set_option maxHeartbeats 2000000 in
theorem rtmay_any (t : Tg) (w : World) : Calls Tryd.prog 108 #[tgV t] w fun e w' => e = .returned (.bool (mayTg t)) ∧ Below w.heap.size w w' := by
  by_cases a1 : t.rep < 0
  case pos =>
    have z1 := decide_eq_true a1
    rw [show mayTg t = false from may_no (.inl a1)]
    go_enter Tryd.func108, Tryd.ntmps108
    refine wp_seq_k (fun K hK => ?_)
    have HK := Lib.hid hK
    clear hK
    go_wp2
    refine HK.out _ _ ?_
    clear HK
    have hbw := blw w (Obj.cells #[.int .i64 t.rep, .int .i64 t.reg, .int .i64 t.pla, .int .i64 t.idx, .int .i64 t.inc] 37)
    have hcs := heap_alloc_new w (Obj.cells #[.int .i64 t.rep, .int .i64 t.reg, .int .i64 t.pla, .int .i64 t.idx, .int .i64 t.inc] 37)
    have c0 := under_cell (blk_cell hcs 0 _ rfl)
    have c1 := under_cell (blk_cell hcs 1 _ rfl)
    have c2 := under_cell (blk_cell hcs 2 _ rfl)
    have c3 := under_cell (blk_cell hcs 3 _ rfl)
    have c4 := under_cell (blk_cell hcs 4 _ rfl)
    clear hcs
    have hqs := hbw.size
    generalize w.alloc (Obj.cells #[.int .i64 t.rep, .int .i64 t.reg, .int .i64 t.pla, .int .i64 t.idx, .int .i64 t.inc] 37) = wq at *
    generalize w.heap.size = q at *
    refine wp_seq_k (fun K hK => ?_)
    have HK := Lib.hid hK
    clear hK
    refine wp_seq_k (fun K2 hK2 => ?_)
    have HK2 := Lib.hid hK2
    clear hK2
    refine wp_region_under (by kernel_rfl) (by kernel_rfl) ?_
    repeat (first | go_big_quiet_step ((first
      | (go_at_call 114; exact under_same (rplaces_any _ _)))) | ((with_reducible refine wpQuiet_skip ?_ ?_) ; (focus rfl); (try simp only [Act.put]); (try simp only [List.setIfInBounds_toArray]); (try simp only [List.set_cons_succ]); (try simp only [List.set_cons_zero])))
    refine wpQuiet_nil ?_
    intro _ hw'
    obtain ⟨xU, hw''⟩ := hw'
    subst hw''
    have hbU := under_below wq xU
    refine HK2.out _ _ ?_
    clear HK2
    go_wp2
    go_ret
    exact ⟨rfl, hbw.trans (hbU.mono hqs)⟩
  have z1 := decide_eq_false a1
  by_cases a2 : 6 < t.rep
  case pos =>
    have z2 := decide_eq_true a2
    rw [show mayTg t = false from may_no (.inr (.inl a2))]
    go_enter Tryd.func108, Tryd.ntmps108
    refine wp_seq_k (fun K hK => ?_)
    have HK := Lib.hid hK
    clear hK
    go_wp2
    refine HK.out _ _ ?_
    clear HK
    have hbw := blw w (Obj.cells #[.int .i64 t.rep, .int .i64 t.reg, .int .i64 t.pla, .int .i64 t.idx, .int .i64 t.inc] 37)
    have hcs := heap_alloc_new w (Obj.cells #[.int .i64 t.rep, .int .i64 t.reg, .int .i64 t.pla, .int .i64 t.idx, .int .i64 t.inc] 37)
    have c0 := under_cell (blk_cell hcs 0 _ rfl)
    have c1 := under_cell (blk_cell hcs 1 _ rfl)
    have c2 := under_cell (blk_cell hcs 2 _ rfl)
    have c3 := under_cell (blk_cell hcs 3 _ rfl)
    have c4 := under_cell (blk_cell hcs 4 _ rfl)
    clear hcs
    have hqs := hbw.size
    generalize w.alloc (Obj.cells #[.int .i64 t.rep, .int .i64 t.reg, .int .i64 t.pla, .int .i64 t.idx, .int .i64 t.inc] 37) = wq at *
    generalize w.heap.size = q at *
    refine wp_seq_k (fun K hK => ?_)
    have HK := Lib.hid hK
    clear hK
    refine wp_seq_k (fun K2 hK2 => ?_)
    have HK2 := Lib.hid hK2
    clear hK2
    refine wp_region_under (by kernel_rfl) (by kernel_rfl) ?_
    repeat (first | go_big_quiet_step ((first
      | (go_at_call 114; exact under_same (rplaces_any _ _)))) | ((with_reducible refine wpQuiet_skip ?_ ?_) ; (focus rfl); (try simp only [Act.put]); (try simp only [List.setIfInBounds_toArray]); (try simp only [List.set_cons_succ]); (try simp only [List.set_cons_zero])))
    refine wpQuiet_nil ?_
    intro _ hw'
    obtain ⟨xU, hw''⟩ := hw'
    subst hw''
    have hbU := under_below wq xU
    refine HK2.out _ _ ?_
    clear HK2
    go_wp2
    go_ret
    exact ⟨rfl, hbw.trans (hbU.mono hqs)⟩
  have z2 := decide_eq_false a2
  by_cases a3 : t.reg < 1
  case pos =>
    have z3 := decide_eq_true a3
    rw [show mayTg t = false from may_no (.inr (.inr (.inl a3)))]
    go_enter Tryd.func108, Tryd.ntmps108
    refine wp_seq_k (fun K hK => ?_)
    have HK := Lib.hid hK
    clear hK
    go_wp2
    refine HK.out _ _ ?_
    clear HK
    have hbw := blw w (Obj.cells #[.int .i64 t.rep, .int .i64 t.reg, .int .i64 t.pla, .int .i64 t.idx, .int .i64 t.inc] 37)
    have hcs := heap_alloc_new w (Obj.cells #[.int .i64 t.rep, .int .i64 t.reg, .int .i64 t.pla, .int .i64 t.idx, .int .i64 t.inc] 37)
    have c0 := under_cell (blk_cell hcs 0 _ rfl)
    have c1 := under_cell (blk_cell hcs 1 _ rfl)
    have c2 := under_cell (blk_cell hcs 2 _ rfl)
    have c3 := under_cell (blk_cell hcs 3 _ rfl)
    have c4 := under_cell (blk_cell hcs 4 _ rfl)
    clear hcs
    have hqs := hbw.size
    generalize w.alloc (Obj.cells #[.int .i64 t.rep, .int .i64 t.reg, .int .i64 t.pla, .int .i64 t.idx, .int .i64 t.inc] 37) = wq at *
    generalize w.heap.size = q at *
    refine wp_seq_k (fun K hK => ?_)
    have HK := Lib.hid hK
    clear hK
    refine wp_seq_k (fun K2 hK2 => ?_)
    have HK2 := Lib.hid hK2
    clear hK2
    refine wp_region_under (by kernel_rfl) (by kernel_rfl) ?_
    repeat (first | go_big_quiet_step ((first
      | (go_at_call 114; exact under_same (rplaces_any _ _)))) | ((with_reducible refine wpQuiet_skip ?_ ?_) ; (focus rfl); (try simp only [Act.put]); (try simp only [List.setIfInBounds_toArray]); (try simp only [List.set_cons_succ]); (try simp only [List.set_cons_zero])))
    refine wpQuiet_nil ?_
    intro _ hw'
    obtain ⟨xU, hw''⟩ := hw'
    subst hw''
    have hbU := under_below wq xU
    refine HK2.out _ _ ?_
    clear HK2
    go_wp2
    go_ret
    exact ⟨rfl, hbw.trans (hbU.mono hqs)⟩
  have z3 := decide_eq_false a3
  by_cases a4 : 5 < t.reg
  case pos =>
    have z4 := decide_eq_true a4
    rw [show mayTg t = false from may_no (.inr (.inr (.inr (.inl a4))))]
    go_enter Tryd.func108, Tryd.ntmps108
    refine wp_seq_k (fun K hK => ?_)
    have HK := Lib.hid hK
    clear hK
    go_wp2
    refine HK.out _ _ ?_
    clear HK
    have hbw := blw w (Obj.cells #[.int .i64 t.rep, .int .i64 t.reg, .int .i64 t.pla, .int .i64 t.idx, .int .i64 t.inc] 37)
    have hcs := heap_alloc_new w (Obj.cells #[.int .i64 t.rep, .int .i64 t.reg, .int .i64 t.pla, .int .i64 t.idx, .int .i64 t.inc] 37)
    have c0 := under_cell (blk_cell hcs 0 _ rfl)
    have c1 := under_cell (blk_cell hcs 1 _ rfl)
    have c2 := under_cell (blk_cell hcs 2 _ rfl)
    have c3 := under_cell (blk_cell hcs 3 _ rfl)
    have c4 := under_cell (blk_cell hcs 4 _ rfl)
    clear hcs
    have hqs := hbw.size
    generalize w.alloc (Obj.cells #[.int .i64 t.rep, .int .i64 t.reg, .int .i64 t.pla, .int .i64 t.idx, .int .i64 t.inc] 37) = wq at *
    generalize w.heap.size = q at *
    refine wp_seq_k (fun K hK => ?_)
    have HK := Lib.hid hK
    clear hK
    refine wp_seq_k (fun K2 hK2 => ?_)
    have HK2 := Lib.hid hK2
    clear hK2
    refine wp_region_under (by kernel_rfl) (by kernel_rfl) ?_
    repeat (first | go_big_quiet_step ((first
      | (go_at_call 114; exact under_same (rplaces_any _ _)))) | ((with_reducible refine wpQuiet_skip ?_ ?_) ; (focus rfl); (try simp only [Act.put]); (try simp only [List.setIfInBounds_toArray]); (try simp only [List.set_cons_succ]); (try simp only [List.set_cons_zero])))
    refine wpQuiet_nil ?_
    intro _ hw'
    obtain ⟨xU, hw''⟩ := hw'
    subst hw''
    have hbU := under_below wq xU
    refine HK2.out _ _ ?_
    clear HK2
    go_wp2
    go_ret
    exact ⟨rfl, hbw.trans (hbU.mono hqs)⟩
  have z4 := decide_eq_false a4
  by_cases a5 : t.pla < 0
  case pos =>
    have z5 := decide_eq_true a5
    rw [show mayTg t = false from may_no (.inr (.inr (.inr (.inr (.inl a5)))))]
    go_enter Tryd.func108, Tryd.ntmps108
    refine wp_seq_k (fun K hK => ?_)
    have HK := Lib.hid hK
    clear hK
    go_wp2
    refine HK.out _ _ ?_
    clear HK
    have hbw := blw w (Obj.cells #[.int .i64 t.rep, .int .i64 t.reg, .int .i64 t.pla, .int .i64 t.idx, .int .i64 t.inc] 37)
    have hcs := heap_alloc_new w (Obj.cells #[.int .i64 t.rep, .int .i64 t.reg, .int .i64 t.pla, .int .i64 t.idx, .int .i64 t.inc] 37)
    have c0 := under_cell (blk_cell hcs 0 _ rfl)
    have c1 := under_cell (blk_cell hcs 1 _ rfl)
    have c2 := under_cell (blk_cell hcs 2 _ rfl)
    have c3 := under_cell (blk_cell hcs 3 _ rfl)
    have c4 := under_cell (blk_cell hcs 4 _ rfl)
    clear hcs
    have hqs := hbw.size
    generalize w.alloc (Obj.cells #[.int .i64 t.rep, .int .i64 t.reg, .int .i64 t.pla, .int .i64 t.idx, .int .i64 t.inc] 37) = wq at *
    generalize w.heap.size = q at *
    refine wp_seq_k (fun K hK => ?_)
    have HK := Lib.hid hK
    clear hK
    refine wp_seq_k (fun K2 hK2 => ?_)
    have HK2 := Lib.hid hK2
    clear hK2
    refine wp_region_under (by kernel_rfl) (by kernel_rfl) ?_
    repeat (first | go_big_quiet_step ((first
      | (go_at_call 114; exact under_same (rplaces_any _ _)))) | ((with_reducible refine wpQuiet_skip ?_ ?_) ; (focus rfl); (try simp only [Act.put]); (try simp only [List.setIfInBounds_toArray]); (try simp only [List.set_cons_succ]); (try simp only [List.set_cons_zero])))
    refine wpQuiet_nil ?_
    intro _ hw'
    obtain ⟨xU, hw''⟩ := hw'
    subst hw''
    have hbU := under_below wq xU
    refine HK2.out _ _ ?_
    clear HK2
    go_wp2
    go_ret
    exact ⟨rfl, hbw.trans (hbU.mono hqs)⟩
  have z5 := decide_eq_false a5
  by_cases a6 : placesN t.reg ≤ t.pla
  case pos =>
    have z6 := decide_eq_true a6
    rw [show mayTg t = false from may_no (.inr (.inr (.inr (.inr (.inr a6)))))]
    go_enter Tryd.func108, Tryd.ntmps108
    refine wp_seq_k (fun K hK => ?_)
    have HK := Lib.hid hK
    clear hK
    go_wp2
    refine HK.out _ _ ?_
    clear HK
    have hbw := blw w (Obj.cells #[.int .i64 t.rep, .int .i64 t.reg, .int .i64 t.pla, .int .i64 t.idx, .int .i64 t.inc] 37)
    have hcs := heap_alloc_new w (Obj.cells #[.int .i64 t.rep, .int .i64 t.reg, .int .i64 t.pla, .int .i64 t.idx, .int .i64 t.inc] 37)
    have c0 := under_cell (blk_cell hcs 0 _ rfl)
    have c1 := under_cell (blk_cell hcs 1 _ rfl)
    have c2 := under_cell (blk_cell hcs 2 _ rfl)
    have c3 := under_cell (blk_cell hcs 3 _ rfl)
    have c4 := under_cell (blk_cell hcs 4 _ rfl)
    clear hcs
    have hqs := hbw.size
    generalize w.alloc (Obj.cells #[.int .i64 t.rep, .int .i64 t.reg, .int .i64 t.pla, .int .i64 t.idx, .int .i64 t.inc] 37) = wq at *
    generalize w.heap.size = q at *
    refine wp_seq_k (fun K hK => ?_)
    have HK := Lib.hid hK
    clear hK
    refine wp_seq_k (fun K2 hK2 => ?_)
    have HK2 := Lib.hid hK2
    clear hK2
    refine wp_region_under (by kernel_rfl) (by kernel_rfl) ?_
    repeat (first | go_big_quiet_step ((first
      | (go_at_call 114; exact under_same (rplaces_any _ _)))) | ((with_reducible refine wpQuiet_skip ?_ ?_) ; (focus rfl); (try simp only [Act.put]); (try simp only [List.setIfInBounds_toArray]); (try simp only [List.set_cons_succ]); (try simp only [List.set_cons_zero])))
    refine wpQuiet_nil ?_
    intro _ hw'
    obtain ⟨xU, hw''⟩ := hw'
    subst hw''
    have hbU := under_below wq xU
    refine HK2.out _ _ ?_
    clear HK2
    go_wp2
    go_ret
    exact ⟨rfl, hbw.trans (hbU.mono hqs)⟩
  have z6 := decide_eq_false a6
  have e : mayTg t = (decide (0 ≤ t.idx) && (decide (t.idx ≤ 1099511627776) && (decide (1 ≤ t.inc) && decide (t.inc ≤ 1099511627776)))) := by
    unfold mayTg
    rw [decide_eq_true (show 0 ≤ t.rep by omega), decide_eq_true (show t.rep ≤ 6 by omega), decide_eq_true (show 0 ≤ t.pla by omega), decide_eq_true (show t.pla < placesN t.reg by omega)]
    simp only [Bool.true_and]
  rw [e]
  clear e
  by_cases b1 : 0 ≤ t.idx
  case neg =>
    go_enter Tryd.func108, Tryd.ntmps108
    refine wp_seq_k (fun K hK => ?_)
    have HK := Lib.hid hK
    clear hK
    go_wp2
    refine HK.out _ _ ?_
    clear HK
    have hbw := blw w (Obj.cells #[.int .i64 t.rep, .int .i64 t.reg, .int .i64 t.pla, .int .i64 t.idx, .int .i64 t.inc] 37)
    have hcs := heap_alloc_new w (Obj.cells #[.int .i64 t.rep, .int .i64 t.reg, .int .i64 t.pla, .int .i64 t.idx, .int .i64 t.inc] 37)
    have c0 := under_cell (blk_cell hcs 0 _ rfl)
    have c1 := under_cell (blk_cell hcs 1 _ rfl)
    have c2 := under_cell (blk_cell hcs 2 _ rfl)
    have c3 := under_cell (blk_cell hcs 3 _ rfl)
    have c4 := under_cell (blk_cell hcs 4 _ rfl)
    clear hcs
    have hqs := hbw.size
    generalize w.alloc (Obj.cells #[.int .i64 t.rep, .int .i64 t.reg, .int .i64 t.pla, .int .i64 t.idx, .int .i64 t.inc] 37) = wq at *
    generalize w.heap.size = q at *
    refine wp_seq_k (fun K hK => ?_)
    have HK := Lib.hid hK
    clear hK
    refine wp_seq_k (fun K2 hK2 => ?_)
    have HK2 := Lib.hid hK2
    clear hK2
    refine wp_region_under (by kernel_rfl) (by kernel_rfl) ?_
    repeat (first | go_big_quiet_step ((first
      | (go_at_call 114; exact under_same (rplaces_any _ _)))) | ((with_reducible refine wpQuiet_skip ?_ ?_) ; (focus rfl); (try simp only [Act.put]); (try simp only [List.setIfInBounds_toArray]); (try simp only [List.set_cons_succ]); (try simp only [List.set_cons_zero])))
    refine wpQuiet_nil ?_
    intro _ hw'
    obtain ⟨xU, hw''⟩ := hw'
    subst hw''
    have hbU := under_below wq xU
    refine HK2.out _ _ ?_
    clear HK2
    have d3 := c3 xU
    have d4 := c4 xU
    clear c0 c1 c2 c3 c4
    go_wp2
    refine HK.out _ _ ?_
    clear HK
    go_wp2
    go_ret
    exact ⟨by first | rfl | (refine ret_bool ?_; simp; omega) | (refine ret_bool ?_; simp [b1, b2, b3]), hbw.trans (hbU.mono hqs)⟩
  by_cases b2 : t.idx ≤ 1099511627776
  case neg =>
    go_enter Tryd.func108, Tryd.ntmps108
    refine wp_seq_k (fun K hK => ?_)
    have HK := Lib.hid hK
    clear hK
    go_wp2
    refine HK.out _ _ ?_
    clear HK
    have hbw := blw w (Obj.cells #[.int .i64 t.rep, .int .i64 t.reg, .int .i64 t.pla, .int .i64 t.idx, .int .i64 t.inc] 37)
    have hcs := heap_alloc_new w (Obj.cells #[.int .i64 t.rep, .int .i64 t.reg, .int .i64 t.pla, .int .i64 t.idx, .int .i64 t.inc] 37)
    have c0 := under_cell (blk_cell hcs 0 _ rfl)
    have c1 := under_cell (blk_cell hcs 1 _ rfl)
    have c2 := under_cell (blk_cell hcs 2 _ rfl)
    have c3 := under_cell (blk_cell hcs 3 _ rfl)
    have c4 := under_cell (blk_cell hcs 4 _ rfl)
    clear hcs
    have hqs := hbw.size
    generalize w.alloc (Obj.cells #[.int .i64 t.rep, .int .i64 t.reg, .int .i64 t.pla, .int .i64 t.idx, .int .i64 t.inc] 37) = wq at *
    generalize w.heap.size = q at *
    refine wp_seq_k (fun K hK => ?_)
    have HK := Lib.hid hK
    clear hK
    refine wp_seq_k (fun K2 hK2 => ?_)
    have HK2 := Lib.hid hK2
    clear hK2
    refine wp_region_under (by kernel_rfl) (by kernel_rfl) ?_
    repeat (first | go_big_quiet_step ((first
      | (go_at_call 114; exact under_same (rplaces_any _ _)))) | ((with_reducible refine wpQuiet_skip ?_ ?_) ; (focus rfl); (try simp only [Act.put]); (try simp only [List.setIfInBounds_toArray]); (try simp only [List.set_cons_succ]); (try simp only [List.set_cons_zero])))
    refine wpQuiet_nil ?_
    intro _ hw'
    obtain ⟨xU, hw''⟩ := hw'
    subst hw''
    have hbU := under_below wq xU
    refine HK2.out _ _ ?_
    clear HK2
    have d3 := c3 xU
    have d4 := c4 xU
    clear c0 c1 c2 c3 c4
    go_wp2
    refine HK.out _ _ ?_
    clear HK
    go_wp2
    go_ret
    exact ⟨by first | rfl | (refine ret_bool ?_; simp; omega) | (refine ret_bool ?_; simp [b1, b2, b3]), hbw.trans (hbU.mono hqs)⟩
  by_cases b3 : 1 ≤ t.inc
  case neg =>
    go_enter Tryd.func108, Tryd.ntmps108
    refine wp_seq_k (fun K hK => ?_)
    have HK := Lib.hid hK
    clear hK
    go_wp2
    refine HK.out _ _ ?_
    clear HK
    have hbw := blw w (Obj.cells #[.int .i64 t.rep, .int .i64 t.reg, .int .i64 t.pla, .int .i64 t.idx, .int .i64 t.inc] 37)
    have hcs := heap_alloc_new w (Obj.cells #[.int .i64 t.rep, .int .i64 t.reg, .int .i64 t.pla, .int .i64 t.idx, .int .i64 t.inc] 37)
    have c0 := under_cell (blk_cell hcs 0 _ rfl)
    have c1 := under_cell (blk_cell hcs 1 _ rfl)
    have c2 := under_cell (blk_cell hcs 2 _ rfl)
    have c3 := under_cell (blk_cell hcs 3 _ rfl)
    have c4 := under_cell (blk_cell hcs 4 _ rfl)
    clear hcs
    have hqs := hbw.size
    generalize w.alloc (Obj.cells #[.int .i64 t.rep, .int .i64 t.reg, .int .i64 t.pla, .int .i64 t.idx, .int .i64 t.inc] 37) = wq at *
    generalize w.heap.size = q at *
    refine wp_seq_k (fun K hK => ?_)
    have HK := Lib.hid hK
    clear hK
    refine wp_seq_k (fun K2 hK2 => ?_)
    have HK2 := Lib.hid hK2
    clear hK2
    refine wp_region_under (by kernel_rfl) (by kernel_rfl) ?_
    repeat (first | go_big_quiet_step ((first
      | (go_at_call 114; exact under_same (rplaces_any _ _)))) | ((with_reducible refine wpQuiet_skip ?_ ?_) ; (focus rfl); (try simp only [Act.put]); (try simp only [List.setIfInBounds_toArray]); (try simp only [List.set_cons_succ]); (try simp only [List.set_cons_zero])))
    refine wpQuiet_nil ?_
    intro _ hw'
    obtain ⟨xU, hw''⟩ := hw'
    subst hw''
    have hbU := under_below wq xU
    refine HK2.out _ _ ?_
    clear HK2
    have d3 := c3 xU
    have d4 := c4 xU
    clear c0 c1 c2 c3 c4
    go_wp2
    refine HK.out _ _ ?_
    clear HK
    go_wp2
    go_ret
    exact ⟨by first | rfl | (refine ret_bool ?_; simp; omega) | (refine ret_bool ?_; simp [b1, b2, b3]), hbw.trans (hbU.mono hqs)⟩
  by_cases b4 : t.inc ≤ 1099511627776
  case neg =>
    go_enter Tryd.func108, Tryd.ntmps108
    refine wp_seq_k (fun K hK => ?_)
    have HK := Lib.hid hK
    clear hK
    go_wp2
    refine HK.out _ _ ?_
    clear HK
    have hbw := blw w (Obj.cells #[.int .i64 t.rep, .int .i64 t.reg, .int .i64 t.pla, .int .i64 t.idx, .int .i64 t.inc] 37)
    have hcs := heap_alloc_new w (Obj.cells #[.int .i64 t.rep, .int .i64 t.reg, .int .i64 t.pla, .int .i64 t.idx, .int .i64 t.inc] 37)
    have c0 := under_cell (blk_cell hcs 0 _ rfl)
    have c1 := under_cell (blk_cell hcs 1 _ rfl)
    have c2 := under_cell (blk_cell hcs 2 _ rfl)
    have c3 := under_cell (blk_cell hcs 3 _ rfl)
    have c4 := under_cell (blk_cell hcs 4 _ rfl)
    clear hcs
    have hqs := hbw.size
    generalize w.alloc (Obj.cells #[.int .i64 t.rep, .int .i64 t.reg, .int .i64 t.pla, .int .i64 t.idx, .int .i64 t.inc] 37) = wq at *
    generalize w.heap.size = q at *
    refine wp_seq_k (fun K hK => ?_)
    have HK := Lib.hid hK
    clear hK
    refine wp_seq_k (fun K2 hK2 => ?_)
    have HK2 := Lib.hid hK2
    clear hK2
    refine wp_region_under (by kernel_rfl) (by kernel_rfl) ?_
    repeat (first | go_big_quiet_step ((first
      | (go_at_call 114; exact under_same (rplaces_any _ _)))) | ((with_reducible refine wpQuiet_skip ?_ ?_) ; (focus rfl); (try simp only [Act.put]); (try simp only [List.setIfInBounds_toArray]); (try simp only [List.set_cons_succ]); (try simp only [List.set_cons_zero])))
    refine wpQuiet_nil ?_
    intro _ hw'
    obtain ⟨xU, hw''⟩ := hw'
    subst hw''
    have hbU := under_below wq xU
    refine HK2.out _ _ ?_
    clear HK2
    have d3 := c3 xU
    have d4 := c4 xU
    clear c0 c1 c2 c3 c4
    go_wp2
    refine HK.out _ _ ?_
    clear HK
    go_wp2
    go_ret
    exact ⟨by first | rfl | (refine ret_bool ?_; simp; omega) | (refine ret_bool ?_; simp [b1, b2, b3]), hbw.trans (hbU.mono hqs)⟩
  go_enter Tryd.func108, Tryd.ntmps108
  refine wp_seq_k (fun K hK => ?_)
  have HK := Lib.hid hK
  clear hK
  go_wp2
  refine HK.out _ _ ?_
  clear HK
  have hbw := blw w (Obj.cells #[.int .i64 t.rep, .int .i64 t.reg, .int .i64 t.pla, .int .i64 t.idx, .int .i64 t.inc] 37)
  have hcs := heap_alloc_new w (Obj.cells #[.int .i64 t.rep, .int .i64 t.reg, .int .i64 t.pla, .int .i64 t.idx, .int .i64 t.inc] 37)
  have c0 := under_cell (blk_cell hcs 0 _ rfl)
  have c1 := under_cell (blk_cell hcs 1 _ rfl)
  have c2 := under_cell (blk_cell hcs 2 _ rfl)
  have c3 := under_cell (blk_cell hcs 3 _ rfl)
  have c4 := under_cell (blk_cell hcs 4 _ rfl)
  clear hcs
  have hqs := hbw.size
  generalize w.alloc (Obj.cells #[.int .i64 t.rep, .int .i64 t.reg, .int .i64 t.pla, .int .i64 t.idx, .int .i64 t.inc] 37) = wq at *
  generalize w.heap.size = q at *
  refine wp_seq_k (fun K hK => ?_)
  have HK := Lib.hid hK
  clear hK
  refine wp_seq_k (fun K2 hK2 => ?_)
  have HK2 := Lib.hid hK2
  clear hK2
  refine wp_region_under (by kernel_rfl) (by kernel_rfl) ?_
  repeat (first | go_big_quiet_step ((first
    | (go_at_call 114; exact under_same (rplaces_any _ _)))) | ((with_reducible refine wpQuiet_skip ?_ ?_) ; (focus rfl); (try simp only [Act.put]); (try simp only [List.setIfInBounds_toArray]); (try simp only [List.set_cons_succ]); (try simp only [List.set_cons_zero])))
  refine wpQuiet_nil ?_
  intro _ hw'
  obtain ⟨xU, hw''⟩ := hw'
  subst hw''
  have hbU := under_below wq xU
  refine HK2.out _ _ ?_
  clear HK2
  have d3 := c3 xU
  have d4 := c4 xU
  clear c0 c1 c2 c3 c4
  go_wp2
  refine HK.out _ _ ?_
  clear HK
  go_wp2
  go_ret
  exact ⟨by first | rfl | (refine ret_bool ?_; simp; omega) | (refine ret_bool ?_; simp [b1, b2, b3]), hbw.trans (hbU.mono hqs)⟩
end Go.Proofs.YtejjneamngkmoaaDoor

namespace Go.Proofs.YtejjneamngkmoaaDoor
open Go.RowKit

def tagR (t : Tg) : List UInt8 := if mayTg t = true then tagB t else []
theorem owns_gb {w w' : World} {base n size : Nat} {e : TypeId} {v : Value} {xs : List Value} {r : Option Nat} (h : w.ownsRow base e size v n xs) (hg : w.grownBy w' r) (hr : ∀ k, r = some k → k < base) : w'.ownsRow base e size v n xs := by
  obtain ⟨hl, h | ⟨k, cap, cur, hv, hk, hc, r'⟩⟩ := h
  · exact ⟨hl, .inl h⟩
  · exact ⟨hl, .inr ⟨k, cap, cur, hv, hk, tr_gb hg hc (fun e => by have := hr k e; omega), r'⟩⟩
theorem three_new (w : World) (x y z : UInt8) : (w.alloc (.cells #[byv x, byv y, byv z] 5)).ownsRow w.heap.size 5 1 (.slice (some ⟨w.heap.size, 0, none⟩) 3 3) 3 (bys [x, y, z]) :=
  owns_of_cur (cur := [byv x, byv y, byv z]) (heap_alloc_new w _) (Nat.le_refl _) (Nat.le_refl _) (by unfold maxLen; omega) rfl rfl
set_option maxRecDepth 100000 in
set_option maxHeartbeats 1000000 in
theorem rtprint_any (t : Tg) (w : World) : Calls Tryd.prog 88 #[tgV t] w fun e w' => (∃ v, e = .returned (.tuple #[v, .int .i64 (if mayTg t = true then 0 else 2)]) ∧ w'.ownsRow w.heap.size 5 1 v (tagR t).length (bys (tagR t))) ∧ Below w.heap.size w w' := by
  have hm := rtmay_any t (w.alloc (Obj.cells #[.int .i64 t.rep, .int .i64 t.reg, .int .i64 t.pla, .int .i64 t.idx, .int .i64 t.inc] 37))
  have hbw := blw w (Obj.cells #[.int .i64 t.rep, .int .i64 t.reg, .int .i64 t.pla, .int .i64 t.idx, .int .i64 t.inc] 37)
  have B0 := heap_alloc_new w (Obj.cells #[.int .i64 t.rep, .int .i64 t.reg, .int .i64 t.pla, .int .i64 t.idx, .int .i64 t.inc] 37)
  have hqs := hbw.size
  have c0 : (w.alloc (Obj.cells #[.int .i64 t.rep, .int .i64 t.reg, .int .i64 t.pla, .int .i64 t.idx, .int .i64 t.inc] 37)).cell? ⟨w.heap.size, 0, none⟩ = some (.int .i64 t.rep) := blk_cell B0 0 _ rfl
  have c1 : (w.alloc (Obj.cells #[.int .i64 t.rep, .int .i64 t.reg, .int .i64 t.pla, .int .i64 t.idx, .int .i64 t.inc] 37)).cell? ⟨w.heap.size, 1, none⟩ = some (.int .i64 t.reg) := blk_cell B0 1 _ rfl
  have c2 : (w.alloc (Obj.cells #[.int .i64 t.rep, .int .i64 t.reg, .int .i64 t.pla, .int .i64 t.idx, .int .i64 t.inc] 37)).cell? ⟨w.heap.size, 2, none⟩ = some (.int .i64 t.pla) := blk_cell B0 2 _ rfl
  have c3 : (w.alloc (Obj.cells #[.int .i64 t.rep, .int .i64 t.reg, .int .i64 t.pla, .int .i64 t.idx, .int .i64 t.inc] 37)).cell? ⟨w.heap.size, 3, none⟩ = some (.int .i64 t.idx) := blk_cell B0 3 _ rfl
  have c4 : (w.alloc (Obj.cells #[.int .i64 t.rep, .int .i64 t.reg, .int .i64 t.pla, .int .i64 t.idx, .int .i64 t.inc] 37)).cell? ⟨w.heap.size, 4, none⟩ = some (.int .i64 t.inc) := blk_cell B0 4 _ rfl
  clear B0
  cases ht : mayTg t
  case false =>
    rw [show tagR t = [] by unfold tagR; rw [ht]; rfl, if_neg (by decide)]
    rw [ht] at hm
    clear ht
    go_enter Tryd.func88, Tryd.ntmps88
    refine wp_seq_k (fun K hK => ?_)
    have HK := Lib.hid hK
    clear hK
    go_wp2
    refine HK.out _ _ ?_
    clear HK
    generalize w.alloc (Obj.cells #[.int .i64 t.rep, .int .i64 t.reg, .int .i64 t.pla, .int .i64 t.idx, .int .i64 t.inc] 37) = w0 at *
    generalize w.heap.size = q at *
    go_wp2_with (go_at_call 108; refine hm.mono ?_; rintro e w1 ⟨rfl, hb1⟩)
    go_ret2
    exact ⟨⟨_, rfl, World.ownsRow_nil _ _ _ _⟩, hbw.trans (hb1.mono hqs)⟩
  case true =>
    rw [show tagR t = tagB t by unfold tagR; rw [ht]; rfl, if_pos rfl, tagB_len]
    rw [ht] at hm
    obtain ⟨h1, h2, h3, h4, h5, h6, h7, h8⟩ := mayTg_parts ht
    obtain ⟨g1, g2, g3⟩ := mayTg_small ht
    clear ht h4
    have L3 := Lib.hid (show oputL 6 t.idx = le 6 t.idx.toNat from oput_one (k := 6) (by omega) (by show _ < 281474976710656; omega))
    have L4 := Lib.hid (show oputL 6 t.inc = le 6 t.inc.toNat from oput_one (k := 6) (by omega) (by show _ < 281474976710656; omega))
    have E := Lib.hid (show tagB t = ([UInt8.ofNat t.rep.toNat, UInt8.ofNat t.reg.toNat, UInt8.ofNat t.pla.toNat] ++ le 6 t.idx.toNat) ++ le 6 t.inc.toNat by
      unfold tagB
      simp only [le, List.cons_append, List.nil_append]
      rw [Nat.mod_eq_of_lt (show t.rep.toNat < 256 by omega), Nat.mod_eq_of_lt (show t.reg.toNat < 256 by omega), Nat.mod_eq_of_lt (show t.pla.toNat < 256 by omega)])
    have V0 := Lib.hid (show byv (UInt8.ofNat t.rep.toNat) = .int .u8 t.rep by unfold byv; congr 1; rw [UInt8.toNat_ofNat', Nat.mod_eq_of_lt (show t.rep.toNat < 256 by omega)]; omega)
    have V1 := Lib.hid (show byv (UInt8.ofNat t.reg.toNat) = .int .u8 t.reg by unfold byv; congr 1; rw [UInt8.toNat_ofNat', Nat.mod_eq_of_lt (show t.reg.toNat < 256 by omega)]; omega)
    have V2 := Lib.hid (show byv (UInt8.ofNat t.pla.toNat) = .int .u8 t.pla by unfold byv; congr 1; rw [UInt8.toNat_ofNat', Nat.mod_eq_of_lt (show t.pla.toNat < 256 by omega)]; omega)
    have M0 : t.rep % 256 = t.rep := by omega
    have M1 : t.reg % 256 = t.reg := by omega
    have M2 : t.pla % 256 = t.pla := by omega
    go_enter Tryd.func88, Tryd.ntmps88
    refine wp_seq_k (fun K hK => ?_)
    have HK := Lib.hid hK
    clear hK
    go_wp2
    refine HK.out _ _ ?_
    clear HK
    generalize w.alloc (Obj.cells #[.int .i64 t.rep, .int .i64 t.reg, .int .i64 t.pla, .int .i64 t.idx, .int .i64 t.inc] 37) = w0 at *
    generalize w.heap.size = q at *
    refine wp_seq_k (fun K hK => ?_)
    have HK := Lib.hid hK
    clear hK
    go_wp2_with (go_at_call 108; refine hm.mono ?_; rintro e w1 ⟨rfl, hb1⟩)
    refine HK.out _ _ ?_
    clear HK
    replace c0 := cell_later hb1 c0
    replace c1 := cell_later hb1 c1
    replace c2 := cell_later hb1 c2
    replace c3 := cell_later hb1 c3
    replace c4 := cell_later hb1 c4
    refine wp_seq_k (fun K hK => ?_)
    have HK := Lib.hid hK
    clear hK
    go_wp2
    refine HK.out _ _ ?_
    clear HK
    have o3 := three_new w1 (UInt8.ofNat t.rep.toNat) (UInt8.ofNat t.reg.toNat) (UInt8.ofNat t.pla.toNat)
    rw [V0.out, V1.out, V2.out] at o3
    have hb2 := blw w1 (Obj.cells #[.int .u8 t.rep, .int .u8 t.reg, .int .u8 t.pla] 5)
    replace c3 := cell_later hb2 c3
    replace c4 := cell_later hb2 c4
    have hb3 := hbw.trans ((hb1.trans (hb2.mono hb1.size)).mono hqs)
    have hqb : q ≤ w1.heap.size := Nat.le_trans hqs hb1.size
    have hbs : w1.heap.size < (w1.alloc (Obj.cells #[.int .u8 t.rep, .int .u8 t.reg, .int .u8 t.pla] 5)).heap.size := by simp
    clear c0 c1 c2 V0 V1 V2 M0 M1 M2 hb2 hb1 hm hbw h1 h2 h3 g1 g2 g3
    generalize w1.alloc (Obj.cells #[.int .u8 t.rep, .int .u8 t.reg, .int .u8 t.pla] 5) = w2 at *
    generalize w1.heap.size = base at *
    refine wp_seq_k (fun K hK => ?_)
    have HK := Lib.hid hK
    clear hK
    go_wp2_with (go_at_call 90; refine (rput_any 6 t.idx _ (by omega)).mono ?_; rintro e w3 ⟨⟨v3, rfl, p3⟩, hb4⟩)
    refine HK.out _ _ ?_
    clear HK
    rw [L3.out] at p3
    obtain ⟨a3, k3, rfl, s3⟩ := SlB.of_owns p3
    replace o3 := owns_bl o3 hb4
    replace c4 := cell_later hb4 c4
    have hb5 := hb3.trans (hb4.mono (by have := hb3.size; omega))
    have hbs3 := Nat.le_trans hbs hb4.size
    clear p3 c3 hb3 hb4 hbs
    refine wp_seq_k (fun K hK => ?_)
    have HK := Lib.hid hK
    clear hK
    go_wp2_with (go_at_call 90; refine (rput_any 6 t.inc _ (by omega)).mono ?_; rintro e w4 ⟨⟨v4, rfl, p4⟩, hb6⟩)
    refine HK.out _ _ ?_
    clear HK
    rw [L4.out] at p4
    replace o3 := owns_bl o3 hb6
    replace s3 := s3.below hb6
    have hb7 := hb5.trans (hb6.mono (by omega))
    have hbs4 := Nat.le_trans hbs3 hb6.size
    clear c4 hb5 hb6
    have m3 := le_len 6 t.idx.toNat
    have m4 := le_len 6 t.inc.toNat
    generalize le 6 t.idx.toNat = l3 at *
    generalize le 6 t.inc.toNat = l4 at *
    have M3 := Lib.hid m3
    have M4 := Lib.hid m4
    clear m3 m4
    obtain ⟨b3, f3, rfl, r3⟩ := s3.row.at (k := 0) (by have := M3.out; rw [bys_len]; omega)
    obtain ⟨a4, k4, rfl, s4⟩ := SlB.of_owns p4
    refine wp_seq_k (fun K hK => ?_)
    have HK := Lib.hid hK
    clear hK
    go_wp2_with (at_builtin; refine wpList_appendN' rfl _ _ 38 38 5 5 elByte Tryd.underlying38 rfl base _ 3 _ rfl o3 ⟨b3, f3, none⟩ l3.length k3 (bys l3) rfl (by rw [bys_len]; simp) (fun j u hu => by rw [addr_add]; exact r3 j u hu) bys_one (by have := M3.out; omega) (by decide) (by omega) ?_; intro v5 w5 o5 g5)
    refine HK.out _ _ ?_
    clear HK
    rw [← bys_app] at o5
    have g5' : w4.grownBy w5 (some base) := g5
    have q4 := owns_gb p4 g5' (fun k e => by cases e; omega)
    have hb8 := hb7.grown g5' (by have := hb7.size; omega) (fun k e => by cases e; omega)
    have hbs5 := g5'.size
    obtain ⟨_, _, e4, s4'⟩ := SlB.of_owns q4
    cases e4
    clear s4 p4 q4 g5 g5' r3 s3 o3 hb7
    refine wp_seq_k (fun K hK => ?_)
    have HK := Lib.hid hK
    clear hK
    go_wp2_with (at_builtin; refine wpList_append_row rfl _ _ 38 5 elByte rfl base v5 (3 + l3.length) _ rfl o5 a4 l4.length k4 (bys l4) rfl (by rw [bys_len]; simp) s4'.row bys_one (by have := M3.out; have := M4.out; omega) (by decide) (by omega) ?_; intro v6 w6 o6 hb9)
    refine HK.out _ _ ?_
    clear HK
    rw [← bys_app, ← E.out] at o6
    go_wp2
    go_ret2
    exact ⟨⟨v6, rfl, by rw [show (15 : Nat) = 3 + l3.length + l4.length by have := M3.out; have := M4.out; omega]; exact owns_mono o6 hqb⟩, hb8.trans (hb9.mono hqb)⟩
set_option maxRecDepth 100000 in
theorem rroom_any (n : Nat) (w : World) : Calls Tryd.prog 89 #[.int .i64 (n : Int)] w fun e w' => e = .returned (.int .i64 (roomN (64 * n) : Nat)) ∧ w = w' := by
  by_cases h1 : n = 1
  · subst h1
    go_enter Tryd.func89, Tryd.ntmps89
    go_wp2
    go_ret
    exact ⟨rfl, rfl⟩
  by_cases h2 : n = 2
  · subst h2
    go_enter Tryd.func89, Tryd.ntmps89
    go_wp2
    go_ret
    exact ⟨rfl, rfl⟩
  have e : roomN (64 * n) = 0 := by unfold roomN; rw [if_neg (by omega), if_neg (by omega)]
  rw [e]
  have i1 : ((n : Int) == 1) = false := by rw [beq_eq_false_iff_ne]; omega
  have i2 : ((n : Int) == 2) = false := by rw [beq_eq_false_iff_ne]; omega
  clear e h1 h2
  go_enter Tryd.func89, Tryd.ntmps89
  go_wp2
  go_ret
  exact ⟨rfl, rfl⟩
def slLen : Value → Nat
  | .slice _ n _ => n
  | _ => 0
theorem oput2 {n : Nat} (h : n < 65536) : oputL 2 (n : Int) = le 2 n := oput_one (k := 2) (by omega) (by show _ < 65536; omega)
theorem oput4b {z : Nat} (h : z < 4294967296) : oputL 4 (z : Int) = le 4 z := oput_one (k := 4) (by omega) (by show _ < 4294967296; omega)
set_option maxRecDepth 100000 in
set_option maxHeartbeats 2000000 in
theorem rseal_any (t : Tg) (a : Option Addr) (cap : Nat) (body : List UInt8) (n : Nat) (w : World) (hs : SlB w a cap body) (hl : body.length ≤ 1000) (hn : n ≤ 1000) :
    Calls Tryd.prog 58 #[tgV t, .slice a body.length cap, .int .i64 (n : Int)] w fun e w' => (∃ v, e = .returned (.tuple #[v, .int .i64 (sealE t body n)]) ∧ w'.ownsRow w.heap.size 5 1 v (sealR t body n).length (bys (sealR t body n))) ∧ Below w.heap.size w w' := by
  have hpr := rtprint_any t (w.alloc (Obj.cells #[.int .i64 t.rep, .int .i64 t.reg, .int .i64 t.pla, .int .i64 t.idx, .int .i64 t.inc] 37))
  have hro := fun w => rroom_any n w
  have hbw := blw w (Obj.cells #[.int .i64 t.rep, .int .i64 t.reg, .int .i64 t.pla, .int .i64 t.idx, .int .i64 t.inc] 37)
  have B0 := heap_alloc_new w (Obj.cells #[.int .i64 t.rep, .int .i64 t.reg, .int .i64 t.pla, .int .i64 t.idx, .int .i64 t.inc] 37)
  have hqs := hbw.size
  have hs0 := hs.below hbw
  have c0 : (w.alloc (Obj.cells #[.int .i64 t.rep, .int .i64 t.reg, .int .i64 t.pla, .int .i64 t.idx, .int .i64 t.inc] 37)).cell? ⟨w.heap.size, 0, none⟩ = some (.int .i64 t.rep) := blk_cell B0 0 _ rfl
  have c1 : (w.alloc (Obj.cells #[.int .i64 t.rep, .int .i64 t.reg, .int .i64 t.pla, .int .i64 t.idx, .int .i64 t.inc] 37)).cell? ⟨w.heap.size, 1, none⟩ = some (.int .i64 t.reg) := blk_cell B0 1 _ rfl
  have c2 : (w.alloc (Obj.cells #[.int .i64 t.rep, .int .i64 t.reg, .int .i64 t.pla, .int .i64 t.idx, .int .i64 t.inc] 37)).cell? ⟨w.heap.size, 2, none⟩ = some (.int .i64 t.pla) := blk_cell B0 2 _ rfl
  have c3 : (w.alloc (Obj.cells #[.int .i64 t.rep, .int .i64 t.reg, .int .i64 t.pla, .int .i64 t.idx, .int .i64 t.inc] 37)).cell? ⟨w.heap.size, 3, none⟩ = some (.int .i64 t.idx) := blk_cell B0 3 _ rfl
  have c4 : (w.alloc (Obj.cells #[.int .i64 t.rep, .int .i64 t.reg, .int .i64 t.pla, .int .i64 t.idx, .int .i64 t.inc] 37)).cell? ⟨w.heap.size, 4, none⟩ = some (.int .i64 t.inc) := blk_cell B0 4 _ rfl
  obtain ⟨sr, hsr⟩ : ∃ sr, sealR t body n = sr := ⟨_, rfl⟩
  obtain ⟨se, hse⟩ : ∃ se, sealE t body n = se := ⟨_, rfl⟩
  rw [hsr, hse]
  have HSR := Lib.hid hsr
  have HSE := Lib.hid hse
  clear hsr hse B0
  cases ht : mayTg t
  case false =>
    have e1 : sr = [] := by rw [← HSR.out]; unfold sealR; rw [ht]; simp
    have e2 : se = 2 := by rw [← HSE.out]; unfold sealE; rw [ht]; simp
    subst e1 e2
    rw [ht] at hpr
    have HT := Lib.hid ht
    clear ht hro HSR HSE
    go_enter Tryd.func58, Tryd.ntmps58
    refine wp_seq_k (fun K hK => ?_)
    have HK := Lib.hid hK
    clear hK
    go_wp2
    refine HK.out _ _ ?_
    clear HK
    generalize w.alloc (Obj.cells #[.int .i64 t.rep, .int .i64 t.reg, .int .i64 t.pla, .int .i64 t.idx, .int .i64 t.inc] 37) = w0 at *
    generalize w.heap.size = q at *
    go_wp2_with (go_at_call 88; refine hpr.mono ?_; rintro e w1 ⟨⟨v1, rfl, p1⟩, hb1⟩)
    go_ret2
    exact ⟨⟨_, rfl, World.ownsRow_nil _ _ _ _⟩, hbw.trans (hb1.mono hqs)⟩
  case true =>
  rw [ht] at hpr
  rw [show tagR t = tagB t by unfold tagR; rw [ht]; rfl, if_pos rfl] at hpr
  have HT := Lib.hid ht
  by_cases hr0 : roomN (64 * n) = 0
  case pos =>
    have e1 : sr = [] := by rw [← HSR.out]; unfold sealR; rw [ht, hr0]; simp
    have e2 : se = 2 := by rw [← HSE.out]; unfold sealE; rw [hr0]; simp
    subst e1 e2
    rw [hr0] at hro
    clear ht hr0 HSR HSE
    go_enter Tryd.func58, Tryd.ntmps58
    refine wp_seq_k (fun K hK => ?_)
    have HK := Lib.hid hK
    clear hK
    go_wp2
    refine HK.out _ _ ?_
    clear HK
    generalize w.alloc (Obj.cells #[.int .i64 t.rep, .int .i64 t.reg, .int .i64 t.pla, .int .i64 t.idx, .int .i64 t.inc] 37) = w0 at *
    generalize w.heap.size = q at *
    go_wp2_with (first
      | (go_at_call 88; refine hpr.mono ?_; rintro e w1 ⟨⟨v1, rfl, p1⟩, hb1⟩)
      | (go_at_call 89; refine (hro _).mono ?_; rintro e w2 ⟨rfl, rfl⟩))
    go_ret2
    exact ⟨⟨_, rfl, World.ownsRow_nil _ _ _ _⟩, hbw.trans (hb1.mono hqs)⟩
  case neg =>
  have hn12 := (roomN_of (n := 64 * n) (by omega))
  obtain ⟨m, hm⟩ : ∃ m, roomN (64 * n) = m := ⟨_, rfl⟩
  rw [hm] at hro hn12
  have hm0 : ((m : Int) == 0) = false := by rw [beq_eq_false_iff_ne]; omega
  have HM := Lib.hid hm
  by_cases hbl : m < body.length
  case pos =>
    have e1 : sr = [] := by rw [← HSR.out]; unfold sealR; rw [if_neg (by omega)]
    have e2 : se = 3 := by rw [← HSE.out]; unfold sealE; rw [if_neg (by simp [ht, hm]; omega), if_pos (by omega)]
    subst e1 e2
    have hI : (m : Int) < body.length := by omega
    clear ht hr0 HSR HSE hm hn12
    go_enter Tryd.func58, Tryd.ntmps58
    refine wp_seq_k (fun K hK => ?_)
    have HK := Lib.hid hK
    clear hK
    go_wp2
    refine HK.out _ _ ?_
    clear HK
    generalize w.alloc (Obj.cells #[.int .i64 t.rep, .int .i64 t.reg, .int .i64 t.pla, .int .i64 t.idx, .int .i64 t.inc] 37) = w0 at *
    generalize w.heap.size = q at *
    go_wp2_with (first
      | (go_at_call 88; refine hpr.mono ?_; rintro e w1 ⟨⟨v1, rfl, p1⟩, hb1⟩)
      | (go_at_call 89; refine (hro _).mono ?_; rintro e w2 ⟨rfl, rfl⟩))
    go_ret2
    exact ⟨⟨_, rfl, World.ownsRow_nil _ _ _ _⟩, hbw.trans (hb1.mono hqs)⟩
  case neg =>
  have e1 : sr = sealF t body (64 * n) := by rw [← HSR.out]; unfold sealR; rw [if_pos ⟨ht, hr0, by omega⟩]
  have e2 : se = 0 := by rw [← HSE.out]; unfold sealE; rw [if_neg (by simp [ht, hm]; omega), if_neg (by omega)]
  subst e2
  have hI : ¬ (m : Int) < body.length := by omega
  have hn2 : n ≤ 2 := by omega
  have hn1 : 21 + body.length ≤ 64 * n := by omega
  clear ht hr0 HSR HSE hm hn12 hn
  go_enter Tryd.func58, Tryd.ntmps58
  refine wp_seq_k (fun K hK => ?_)
  have HK := Lib.hid hK
  clear hK
  go_wp2
  refine HK.out _ _ ?_
  clear HK
  generalize w.alloc (Obj.cells #[.int .i64 t.rep, .int .i64 t.reg, .int .i64 t.pla, .int .i64 t.idx, .int .i64 t.inc] 37) = w0 at *
  generalize w.heap.size = q at *
  refine wp_seq_k (fun K hK => ?_)
  have HK := Lib.hid hK
  clear hK
  go_wp2_with (go_at_call 88; refine hpr.mono ?_; rintro e w1 ⟨⟨v1, rfl, p1⟩, hb1⟩)
  refine HK.out _ _ ?_
  clear HK
  have hb2 := hbw.trans (hb1.mono hqs)
  have hs1 := hs0.below hb1
  have hq1 := Nat.le_trans hqs hb1.size
  obtain ⟨a1, k1, rfl, s1⟩ := SlB.of_owns p1
  clear hpr hbw hb1 hs0 hqs c0 c1 c2 c3 c4 p1 hs
  refine wp_seq_k (fun K hK => ?_)
  have HK := Lib.hid hK
  clear hK
  go_wp2_with (go_at_call 89; refine (hro _).mono ?_; rintro e w2 ⟨rfl, rfl⟩)
  refine HK.out _ _ ?_
  clear HK
  refine wp_seq_k (fun K hK => ?_)
  have HK := Lib.hid hK
  clear hK
  go_wp2_with (go_at_call 89; refine (hro _).mono ?_; rintro e w2 ⟨rfl, rfl⟩)
  refine HK.out _ _ ?_
  clear HK
  refine wp_seq_k (fun K hK => ?_)
  have HK := Lib.hid hK
  clear hK
  go_wp2_with (go_at_call 90; refine (rput_any 2 (body.length : Int) _ (by omega)).mono ?_; rintro e w3 ⟨⟨v3, rfl, o3⟩, hb3⟩)
  refine HK.out _ _ ?_
  clear HK
  rw [oput2 (by omega)] at o3
  have s3 := s1.below hb3
  have hs3 := hs1.below hb3
  have hl3 := hb3.size
  refine wp_seq_k (fun K hK => ?_)
  have HK := Lib.hid hK
  clear hK
  go_wp2_with (at_builtin; refine wpList_append_row rfl _ _ 38 5 elByte rfl w1.heap.size v3 _ _ rfl o3 a1 (tagB t).length k1 (bys (tagB t)) rfl (by rw [bys_len]; simp) s3.row bys_one (by rw [le_len, tagB_len]; omega) (by decide) hl3 ?_; intro v4 w4 o4 hb4)
  refine HK.out _ _ ?_
  clear HK
  replace o4 : w4.ownsRow w1.heap.size 5 1 v4 17 (bys (le 2 body.length ++ tagB t)) := by
    rw [bys_app]
    rw [le_len, tagB_len] at o4
    exact o4
  have hb5 := hb3.trans hb4
  have hs4 := hs1.below hb5
  have hl4 := hb5.size
  clear hb4 hb3 hs3 s3 o3 s1 hl3
  refine wp_seq_k (fun K hK => ?_)
  have HK := Lib.hid hK
  clear hK
  go_wp2_with (at_builtin; refine wpList_append_row rfl _ _ 38 5 elByte rfl w1.heap.size v4 17 _ rfl o4 a body.length cap (bys body) rfl (by rw [bys_len]; simp) hs4.row bys_one (by omega) (by decide) hl4 ?_; intro v6 w6 o6 hb6)
  refine HK.out _ _ ?_
  clear HK
  rw [← bys_app] at o6
  have hb7 := hb5.trans hb6
  clear hb6 hb5 hs4 o4 hl4 hs1
  refine wp_seq_k (fun K hK => ?_)
  have HK := Lib.hid hK
  clear hK
  obtain ⟨pad, hpad⟩ : ∃ pad, 64 * n - 21 - body.length = pad := ⟨_, rfl⟩
  have hpn : 21 + body.length + pad = 64 * n := by omega
  have HP := Lib.hid hpad
  clear hpad
  go_wp2_with fail
  go_loopw [10] (fun o wr => ∃ j : Nat, j ≤ pad ∧ wr.ownsRow w1.heap.size 5 1 o (17 + body.length + j) (bys ((le 2 body.length ++ tagB t ++ body) ++ List.replicate j 0)) ∧ Below w1.heap.size w1 wr) (fun o _ => 64 * n - slLen o)
  case atStart => exact ⟨0, by omega, by simpa using o6, hb7⟩
  case round =>
    clear o6 hb7
    obtain ⟨j, hj, hown, hbr⟩ := hrel
    obtain ⟨ao, co, rfl, _, _, _⟩ := Row.of_owns hown
    have hlr := hbr.size
    by_cases hlt : j < pad
    case pos =>
      have hlI : ((17 + body.length + j : Nat) : Int) < 64 * (n : Int) - 4 := by omega
      go_wp2_with (at_builtin; refine wpList_append1 rfl _ _ 38 5 elByte rfl w1.heap.size _ (17 + body.length + j) _ rfl hown #[.int .u8 0] rfl (by simp; rfl) _ rfl (by omega) (by omega) (by omega) ?_; intro v8 w8 o8 hb8 _)
      obtain ⟨a8, c8, rfl, _, _, _⟩ := Row.of_owns o8
      go_roundw
      case rel => exact ⟨j + 1, by omega, by rw [List.replicate_succ', ← List.append_assoc, bys_app]; exact o8, hbr.trans hb8⟩
      case measure => simp [slLen]; omega
    case neg =>
      obtain rfl : j = pad := by omega
      have hlI : ¬ ((17 + body.length + j : Nat) : Int) < 64 * (n : Int) - 4 := by omega
      have hhd : (le 2 body.length ++ tagB t ++ body) ++ List.replicate j 0 = headF t body (64 * n) := by
        unfold headF
        rw [HP.out]
        simp only [List.append_assoc]
      have hhl : (headF t body (64 * n)).length = 17 + body.length + j := by rw [← hhd]; simp [le_len, tagB_len]; omega
      rw [hhd, ← hhl] at hown
      have hwe := hown
      obtain ⟨a9, c9, e9, s9⟩ := SlB.of_owns hwe
      rw [hhl] at e9
      cases e9
      have hsum := rsum_any ao co (headF t body (64 * n)) wr s9
      rw [hhl] at hsum
      go_wp2
      refine HK.out _ _ ?_
      clear HK
      obtain ⟨z, hz⟩ : ∃ z, crcS (headF t body (64 * n)) = z := ⟨_, rfl⟩
      have hz2 := crcS_lt (headF t body (64 * n))
      rw [hz] at hsum hz2
      have HZ := Lib.hid hz
      have HHL := Lib.hid hhl
      clear hz hhd hhl hwe s9
      refine wp_seq_k (fun K hK => ?_)
      have HK := Lib.hid hK
      clear hK
      go_wp2_with (first
              | (go_at_call 91; refine hsum.mono ?_; rintro e w9 ⟨rfl, rfl⟩)
              | (go_at_call 90; refine (rput_any 4 (z : Int) _ (by omega)).mono ?_; rintro e w10 ⟨⟨v10, rfl, o10⟩, hb10⟩; rw [oput4b hz2] at o10; obtain ⟨a10, k10, rfl, s10⟩ := SlB.of_owns o10))
      refine HK.out _ _ ?_
      clear HK
      replace hown := owns_bl hown hb10
      rw [HHL.out] at hown
      have hb11 := hbr.trans (hb10.mono hlr)
      have hl11 := hb11.size
      refine wp_seq_k (fun K hK => ?_)
      have HK := Lib.hid hK
      clear hK
      go_wp2_with (at_builtin; refine wpList_append_row rfl _ _ 38 5 elByte rfl w1.heap.size _ (17 + body.length + j) _ rfl hown a10 (le 4 z).length k10 (bys (le 4 z)) rfl (by rw [bys_len]; simp) s10.row bys_one (by rw [le_len]; omega) (by decide) hl11 ?_; intro v12 w12 o12 hb12)
      refine HK.out _ _ ?_
      clear HK
      have hfin : w12.ownsRow w1.heap.size 5 1 v12 sr.length (bys sr) := by
        rw [e1]
        unfold sealF
        rw [HZ.out, bys_app, List.length_append, HHL.out]
        exact o12
      go_wp2
      go_ret2
      exact ⟨⟨v12, rfl, owns_mono hfin hq1⟩, hb2.trans ((hb11.trans hb12).mono hq1)⟩
end Go.Proofs.YtejjneamngkmoaaDoor

