/- Texts that the claim leans on, part 11: D49, S6, S7, S8, S9, X15, G10, O3. -/
import Derived.Test.YtbdonjenekhmdaaGreatDoorZ1
import Derived.Test.YtbdonjenekhmdaaGreatDoorZ2
import Derived.Test.YtbdonjenekhmdaaGreatDoorZ3
import Derived.Test.YtbdonjenekhmdaaGreatDoorZ4
import Derived.Test.YtbdonjenekhmdaaGreatDoorZ5
import Derived.Test.YtbdonjenekhmdaaGreatDoorZ6
import Derived.Test.YtbdonjenekhmdaaGreatDoorZ7
import Derived.Test.YtbdonjenekhmdaaGreatDoorZ8
import Derived.Test.YtbdonjenekhmdaaGreatDoorZ9
import Derived.Test.YtbdonjenekhmdaaGreatDoorZ10
import Derived.Test.YtbdonjenekhmdaaGreatDoorRows
import Derived.WalkKit
import Derived.WalkSpells
import Derived.WalkLawsBesides
import Derived.Handy
import Derived.Deep.QuietTactic
import Derived.BigQuiet
import Derived.Deep.DeepCutAuto
import Derived.Lib.Hide
import Derived.RegionTactic
import Derived.ChangeAlike
import Derived.Laws.ResultCell
import Derived.Outline
import Derived.IntWalk
import Derived.Laws.BitsAllLaws
import Derived.Laws.IdiomStrings
import Derived.Laws.BytesArg
import Derived.Carry
import Derived.Maps.Own
import Derived.Maps.Keyed
import Derived.RangeFuncNested
import Derived.RangeFuncBound
import Derived.RangeFuncCalls
import Derived.RangeFuncLeaves
import Derived.RangeFuncBox
import Derived.RangeFuncRecord
import Derived.Shelf.Abstract
import Derived.Shelf.RegionOpen
import Derived.OwnWalkIn
import Derived.TacticsInMore
import Derived.LoopNIn
import Derived.LoopIn
import Derived.OrdersIn
import Derived.OrdersHeld
import Derived.Maps.AppendAt
import Derived.Lib.SliceRun
import Derived.Laws.MakeOwn
import Derived.Great.BuildSlice
import Derived.Great.FillDense
import Derived.Laws.Rows
import Derived.Deep.Quiet
import Derived.Deep.RegionHeld3
import Derived.ProofKit
import Derived.OpenShut
import Derived.Deep.RegionHeld
import Derived.Laws.CopyOwn
import Derived.Laws.CopyRow
import Derived.Laws.NewBlocks
import Derived.Deep.RegionLaw
namespace Go.Proofs.YtbdonjenekhmdaaGreatDoor
open Go.RowKit
theorem step_bl {w w1 w2 : World} (h : Below w.heap.size w w1) (h2 : Below w1.heap.size w1 w2) : Below w.heap.size w w2 := h.trans (h2.mono h.size)
theorem coA_new (st : Nat) (t : Tg) (a : Option Addr) (n k : Nat) : (Value.agg (coA st t (.slice a n k))).cells = coA st t (.slice a n k) ∧ (coA st t (.slice a n k)).size = 7 ∧ ∀ u ∈ (coA st t (.slice a n k)).toList, u.oneCell' = true := ⟨rfl, rfl, by simp [coA, Value.oneCell']⟩
theorem loaded_st {c0 c1 : Cp} {i : Nat} {er : Int} (h : loadedC c0 c1 = (i, true, er)) : (i = 0 → c0.st = 1) ∧ (i = 1 → c1.st = 1) := by
 unfold loadedC at h
 split at h
 ·rename_i ho
  cases h
  exact ⟨by omega, fun _ => over_good ho⟩
 ·split at h
  ·rename_i h0
   cases h
   exact ⟨fun _ => h0, by omega⟩
  ·split at h <;> cases h
theorem sameC_iff (c x : Cp) : sameC c x = true ↔ (c.st = x.st ∧ c.tg.idx = x.tg.idx ∧ c.body = x.body) := by
 unfold sameC
 simp only [Bool.and_eq_true, decide_eq_true_eq]
section
variable {B g gp : Nat} {wv : Value} {d : Dk} {w : World}
theorem cstore_any (h : DiskB B g gp wv d w) (hb : B ≤ w.heap.size) (rep reg inc : Int) (a : Option Addr) (c : Nat) (body : List UInt8) (hs : ∀ w', Kt B w w' → SlB w' a c body) (hl : body.length ≤ 1000) (hw : d.waits.length ≤ 1000) :
  Calls Tryz.prog 46 #[.pointer (some ⟨g, 0, none⟩), .int .i64 rep, .int .i64 reg, .int .i64 inc, .slice a body.length c] w fun e w' => e = .returned (.int .i64 (storeC d rep reg inc body).2) ∧ (∃ wv', DiskB B g gp wv' (storeC d rep reg inc body).1 w') ∧ Kt B w w' := by
 by_cases h1 : openC d rep reg ≠ 0 ∨ inc < 1 ∨ 1099511627776 < inc ∨ 43 < body.length
 ·exact cstore_err h hb rep reg inc a c body hl h1
 ·have ho : openC d rep reg = 0 := by
   by_cases h0 : openC d rep reg = 0
   ·exact h0
   ·exact absurd (.inl h0) h1
  exact cstore_ok h hb rep reg inc a c body hs ho (by omega) (by omega) (by omega) hw
set_option maxRecDepth 100000 in
set_option maxHeartbeats 8000000 in
theorem cheal_any (h : DiskB B g gp wv d w) (hb : B ≤ w.heap.size) (rep reg : Int) (hw : d.waits.length ≤ 1000) :
  Calls Tryz.prog 37 #[.pointer (some ⟨g, 0, none⟩), .int .i64 rep, .int .i64 reg] w fun e w' => e = .returned (.int .i64 (healC d rep reg).2) ∧ (∃ wv', DiskB B g gp wv' (healC d rep reg).1 w') ∧ Kt B w w' := by
 unfold healC
 simp only
 by_cases ho : openC d rep reg = 0
 case neg =>
  rw [if_pos ho]
  have hop := copen_bad h rep reg ho
  generalize openC d rep reg = x at *
  have e1 : (x != 0) = true := by rw [bne_iff_ne]; exact ho
  clear ho
  go_enter Tryz.func37, Tryz.ntmps37
  go_wp2_with (go_at_call 97; refine hop.mono ?_; rintro e w1 ⟨rfl, hb1⟩)
  go_ret
  exact ⟨rfl, ⟨_, h.below hb1⟩, Kt.of hb1 hb⟩
 case pos =>
  rw [if_neg (by simpa using ho)]
  have hop := copen_good h rep reg ho
  obtain ⟨hrg, hrp⟩ : (reg = 1 ∨ reg = 2) ∧ (0 ≤ rep ∧ rep ≤ 6) := by
   unfold openC at ho
   split at ho
   ·cases ho
   ·split at ho
    ·cases ho
    ·omega
  have ht0 := copy_tag h rep reg 0
  have ht1 := copy_tag h rep reg 1
  generalize copyC d rep reg 0 = c0 at *
  generalize copyC d rep reg 1 = c1 at *
  have hlo := fun q a0 n0 k0 a1 n1 k1 w => loaded_any q g rep reg c0 c1 a0 a1 n0 k0 n1 k1 w
  obtain ⟨i, ok, er, hld⟩ : ∃ i ok er, loadedC c0 c1 = (i, ok, er) := ⟨_, _, _, rfl⟩
  have hok := loaded_ok hld
  cases ok
  case false =>
   obtain ⟨hlt, hlf, hle⟩ := hok
   simp only [hld] at hlo ⊢
   clear hld ho hlf hle ht0 ht1
   rw [if_pos trivial]
   go_enter Tryz.func37, Tryz.ntmps37
   refine seqH (fun K HK => ?_)
   go_wp2
   refine HK.out _ _ ?_
   clear HK
   refine seqH (fun K HK => ?_)
   go_wp2_with (go_at_call 97; refine hop.mono ?_; rintro e w1 ⟨⟨q, a0, k0, a1, k1, rfl, hq, Q1, o0, o1⟩, hb1⟩)
   refine HK.out _ _ ?_
   clear HK
   refine seqH (fun K HK => ?_)
   go_wp2
   refine HK.out _ _ ?_
   clear HK
   refine seqH (fun K HK => ?_)
   go_wp2_with (go_at_call 98; refine (hlo q a0 _ k0 a1 _ k1 _ Q1).mono ?_; rintro e w2 ⟨rfl, hb2⟩)
   refine HK.out _ _ ?_
   clear HK
   have Q2 := tr_bl hb2 Q1
   have hb3 := hb1.trans (hb2.mono hb1.size)
   have p0 := o0.below hb2
   have p1 := o1.below hb2
   clear Q1 o0 o1 hb1 hb2 hlo hop
   refine seqH (fun K HK => ?_)
   go_wp2_with fail
   have hbd := (Below.refl w2.heap.size w2).drew
   refine wp_region_cls (C := fun w' => Below w2.heap.size w2 w') (by kernel_rfl) (by kernel_rfl) hbd ?_
   clear hbd
   iterate 3
    refine wpQuiet_val (by rfl) ?_ ?_ ?_; rotate_left
    ·intro wS hSw; go_simp; (try with_reducible rfl)
    (try simp only [Act.put]); (try simp only [List.setIfInBounds_toArray]); (try simp only [List.set_cons_succ]); (try simp only [List.set_cons_zero])
   iterate 14
    with_reducible refine wpQuiet_skip ?_ ?_
    ·rfl
    (try simp only [Act.put]); (try simp only [List.setIfInBounds_toArray]); (try simp only [List.set_cons_succ]); (try simp only [List.set_cons_zero])
   refine wpQuiet_val (by rfl) ?_ ?_ ?_; rotate_left
   ·intro wS hSw; go_simp; (try with_reducible rfl)
   (try simp only [Act.put]); (try simp only [List.setIfInBounds_toArray]); (try simp only [List.set_cons_succ]); (try simp only [List.set_cons_zero])
   refine wpQuiet_nil ?_
   intro wE hE
   have hb4 := hb3.trans (hE.mono hb3.size)
   go_wp2
   go_ret
   exact ⟨rfl, ⟨_, h.below hb4⟩, Kt.of hb4 hb⟩
  case true =>
   obtain ⟨hlt, _, hle⟩ := hok
   have hst := loaded_st hld
   obtain rfl := hle rfl
   simp only [hld] at hlo ⊢
   clear hld ho hle
   rw [if_neg (by simp)]
   rcases (show i = 0 ∨ i = 1 by omega) with rfl | rfl
   ·have h1 := hst.1 rfl
    obtain ⟨hmay, hbl⟩ : mayTg c0.tg = true ∧ c0.body.length ≤ 43 := by
     rcases ht0 with ⟨_, hh, _⟩ | ⟨_, h⟩
     ·exact absurd h1 hh
     ·exact h
    obtain ⟨_, _, _, _, m1, m2, m3, m4⟩ := mayTg_parts hmay
    have hmt := may_cell2 (rep := rep) (reg := reg) (v := c0.tg.idx) (c := c0.tg.inc) (i := 1) hrp hrg (by omega) m1 m2 m3 m4
    simp only [Int.natCast_one] at hmt
    clear hst h1 hmay ht0 ht1 hlt
    have z01 : ((0 : Nat) = 1) = False := by simp
    simp only [z01, if_false, show (1 : Int) - ((0 : Nat) : Int) = 1 from rfl]
    clear z01
    by_cases hsm : c0.st = c1.st ∧ c0.tg.idx = c1.tg.idx ∧ c0.body = c1.body
    case pos =>
     rw [if_pos hsm]
     have hsc := (sameC_iff c0 c1).2 hsm
     have HSC := Lib.hid hsc
     clear hsm hsc
     go_enter Tryz.func37, Tryz.ntmps37
     refine seqH (fun K HK => ?_)
     go_wp2
     refine HK.out _ _ ?_
     clear HK
     refine seqH (fun K HK => ?_)
     go_wp2_with (go_at_call 97; refine hop.mono ?_; rintro e w1 ⟨⟨q, a0, k0, a1, k1, rfl, hq, Q1, o0, o1⟩, hb1⟩)
     refine HK.out _ _ ?_
     clear HK
     refine seqH (fun K HK => ?_)
     go_wp2
     refine HK.out _ _ ?_
     clear HK
     refine seqH (fun K HK => ?_)
     go_wp2_with (go_at_call 98; refine (hlo q a0 _ k0 a1 _ k1 _ Q1).mono ?_; rintro e w2 ⟨rfl, hb2⟩)
     refine HK.out _ _ ?_
     clear HK
     have Q2 := tr_bl hb2 Q1
     have hb3 := hb1.trans (hb2.mono hb1.size)
     have p0 := o0.below hb2
     have p1 := o1.below hb2
     clear Q1 o0 o1 hb1 hb2 hlo hop
     refine seqH (fun K HK => ?_)
     go_wp2_with fail
     have hbd := (Below.refl w2.heap.size w2).drew
     refine wp_region_cls (C := fun w' => Below w2.heap.size w2 w') (by kernel_rfl) (by kernel_rfl) hbd ?_
     clear hbd
     have pother := p1
     iterate 8
      refine wpQuiet_val (by rfl) ?_ ?_ ?_; rotate_left
      ·intro wS hSw; go_simp; (try with_reducible rfl)
      (try simp only [Act.put]); (try simp only [List.setIfInBounds_toArray]); (try simp only [List.set_cons_succ]); (try simp only [List.set_cons_zero])
     refine wpQuiet_val (by rfl) (.agg (coA c0.st c0.tg (.slice a0 c0.body.length k0))) (fun wS hSw => exec_ldB 178 _ ⟨_, _, _, _, _, Tryz.isAgg178, Tryz.sizeOf178, rfl, tr_bl hSw Q2, ceA_ld0 _ _ _ _ _ _ _ _ _⟩) ?_
     iterate 2
      (try simp only [Act.put]); (try simp only [List.setIfInBounds_toArray]); (try simp only [List.set_cons_succ]); (try simp only [List.set_cons_zero])
      refine wpQuiet_val (by rfl) ?_ ?_ ?_; rotate_left
      ·intro wS hSw; go_simp; (try with_reducible rfl)
     (try simp only [Act.put]); (try simp only [List.setIfInBounds_toArray]); (try simp only [List.set_cons_succ]); (try simp only [List.set_cons_zero])
     refine wpQuiet_val (by rfl) (.int .i64 1) (fun wS hSw => ?_) ?_
     ·go_simp; (try rfl)
     iterate 3
      (try simp only [Act.put]); (try simp only [List.setIfInBounds_toArray]); (try simp only [List.set_cons_succ]); (try simp only [List.set_cons_zero])
      refine wpQuiet_val (by rfl) ?_ ?_ ?_; rotate_left
      ·intro wS hSw; go_simp; (try with_reducible rfl)
     (try simp only [Act.put]); (try simp only [List.setIfInBounds_toArray]); (try simp only [List.set_cons_succ]); (try simp only [List.set_cons_zero])
     refine wpQuiet_val (by rfl) (.agg (coA c1.st c1.tg (.slice a1 c1.body.length k1))) (fun wS hSw => exec_ldB 178 _ ⟨_, _, _, _, _, Tryz.isAgg178, Tryz.sizeOf178, rfl, tr_bl hSw Q2, ceA_ld1 _ _ _ _ _ _ _ _ _⟩) ?_
     (try simp only [Act.put]); (try simp only [List.setIfInBounds_toArray]); (try simp only [List.set_cons_succ]); (try simp only [List.set_cons_zero])
     refine wpQuiet_gen (by rfl) (.bool (sameC c0 c1)) (fun wS hSw => ?_) ?_
     ·unfold Oper.quietAt
      go_simp
      (try refine ⟨rfl, ?_⟩)
      exact (same_any c0 c1 a0 a1 k0 k1 wS (p0.below hSw).slb (pother.below hSw).slb).mono fun _ _ h => ⟨h.1, step_bl hSw h.2⟩
     (try simp only [Act.put]); (try simp only [List.setIfInBounds_toArray]); (try simp only [List.set_cons_succ]); (try simp only [List.set_cons_zero])
     clear pother
     rw [HSC.out]
     refine wpQuiet_val (by rfl) ?_ ?_ ?_; rotate_left
     ·intro wS hSw; go_simp; (try with_reducible rfl)
     (try simp only [Act.put]); (try simp only [List.setIfInBounds_toArray]); (try simp only [List.set_cons_succ]); (try simp only [List.set_cons_zero])
     refine wpQuiet_nil ?_
     intro wE hE
     have hb4 := hb3.trans (hE.mono hb3.size)
     go_wp2
     go_ret
     exact ⟨rfl, ⟨_, h.below hb4⟩, Kt.of hb4 hb⟩
    case neg =>
     rw [if_neg hsm]
     have hsc : sameC c0 c1 = false := by
      cases hh : sameC c0 c1
      ·rfl
      ·exact absurd ((sameC_iff c0 c1).1 hh) hsm
     have HSC := Lib.hid hsc
     clear hsm hsc
     go_enter Tryz.func37, Tryz.ntmps37
     refine seqH (fun K HK => ?_)
     go_wp2
     refine HK.out _ _ ?_
     clear HK
     refine seqH (fun K HK => ?_)
     go_wp2_with (go_at_call 97; refine hop.mono ?_; rintro e w1 ⟨⟨q, a0, k0, a1, k1, rfl, hq, Q1, o0, o1⟩, hb1⟩)
     refine HK.out _ _ ?_
     clear HK
     refine seqH (fun K HK => ?_)
     go_wp2
     refine HK.out _ _ ?_
     clear HK
     refine seqH (fun K HK => ?_)
     go_wp2_with (go_at_call 98; refine (hlo q a0 _ k0 a1 _ k1 _ Q1).mono ?_; rintro e w2 ⟨rfl, hb2⟩)
     refine HK.out _ _ ?_
     clear HK
     have Q2 := tr_bl hb2 Q1
     have hb3 := hb1.trans (hb2.mono hb1.size)
     have p0 := o0.below hb2
     have p1 := o1.below hb2
     clear Q1 o0 o1 hb1 hb2 hlo hop
     refine seqH (fun K HK => ?_)
     go_wp2_with fail
     have hbd := (Below.refl w2.heap.size w2).drew
     refine wp_region_cls (C := fun w' => Below w2.heap.size w2 w') (by kernel_rfl) (by kernel_rfl) hbd ?_
     clear hbd
     have pother := p1
     iterate 8
      refine wpQuiet_val (by rfl) ?_ ?_ ?_; rotate_left
      ·intro wS hSw; go_simp; (try with_reducible rfl)
      (try simp only [Act.put]); (try simp only [List.setIfInBounds_toArray]); (try simp only [List.set_cons_succ]); (try simp only [List.set_cons_zero])
     refine wpQuiet_val (by rfl) (.agg (coA c0.st c0.tg (.slice a0 c0.body.length k0))) (fun wS hSw => exec_ldB 178 _ ⟨_, _, _, _, _, Tryz.isAgg178, Tryz.sizeOf178, rfl, tr_bl hSw Q2, ceA_ld0 _ _ _ _ _ _ _ _ _⟩) ?_
     iterate 2
      (try simp only [Act.put]); (try simp only [List.setIfInBounds_toArray]); (try simp only [List.set_cons_succ]); (try simp only [List.set_cons_zero])
      refine wpQuiet_val (by rfl) ?_ ?_ ?_; rotate_left
      ·intro wS hSw; go_simp; (try with_reducible rfl)
     (try simp only [Act.put]); (try simp only [List.setIfInBounds_toArray]); (try simp only [List.set_cons_succ]); (try simp only [List.set_cons_zero])
     refine wpQuiet_val (by rfl) (.int .i64 1) (fun wS hSw => ?_) ?_
     ·go_simp; (try rfl)
     iterate 3
      (try simp only [Act.put]); (try simp only [List.setIfInBounds_toArray]); (try simp only [List.set_cons_succ]); (try simp only [List.set_cons_zero])
      refine wpQuiet_val (by rfl) ?_ ?_ ?_; rotate_left
      ·intro wS hSw; go_simp; (try with_reducible rfl)
     (try simp only [Act.put]); (try simp only [List.setIfInBounds_toArray]); (try simp only [List.set_cons_succ]); (try simp only [List.set_cons_zero])
     refine wpQuiet_val (by rfl) (.agg (coA c1.st c1.tg (.slice a1 c1.body.length k1))) (fun wS hSw => exec_ldB 178 _ ⟨_, _, _, _, _, Tryz.isAgg178, Tryz.sizeOf178, rfl, tr_bl hSw Q2, ceA_ld1 _ _ _ _ _ _ _ _ _⟩) ?_
     (try simp only [Act.put]); (try simp only [List.setIfInBounds_toArray]); (try simp only [List.set_cons_succ]); (try simp only [List.set_cons_zero])
     refine wpQuiet_gen (by rfl) (.bool (sameC c0 c1)) (fun wS hSw => ?_) ?_
     ·unfold Oper.quietAt
      go_simp
      (try refine ⟨rfl, ?_⟩)
      exact (same_any c0 c1 a0 a1 k0 k1 wS (p0.below hSw).slb (pother.below hSw).slb).mono fun _ _ h => ⟨h.1, step_bl hSw h.2⟩
     (try simp only [Act.put]); (try simp only [List.setIfInBounds_toArray]); (try simp only [List.set_cons_succ]); (try simp only [List.set_cons_zero])
     clear pother
     rw [HSC.out]
     refine wpQuiet_val (by rfl) ?_ ?_ ?_; rotate_left
     ·intro wS hSw; go_simp; (try with_reducible rfl)
     (try simp only [Act.put]); (try simp only [List.setIfInBounds_toArray]); (try simp only [List.set_cons_succ]); (try simp only [List.set_cons_zero])
     refine wpQuiet_nil ?_
     intro wE hE
     have Q3 := tr_bl hE Q2
     have hb4 := hb3.trans (hE.mono hb3.size)
     have p2 := p0.below hE
     have hd4 := h.below hb4
     have hk4 := Kt.of hb4 hb
     clear hE hb3 Q2 p0 p1
     go_wp2_with fail
     refine HK.out _ _ ?_
     clear HK
     refine seqH (fun K HK => ?_)
     go_wp2_with (first
      | ((with_reducible refine wpList_ldB 178 _ ?_); refine ⟨rfl, _, ⟨_, _, _, _, _, Tryz.isAgg178, Tryz.sizeOf178, rfl, ‹_›, ceA_ld0 _ _ _ _ _ _ _ _ _⟩, ?_⟩)
      | ((first | (with_reducible refine wpList_stNew 178 _ _ ?_) | (with_reducible refine wp_stNew 178 _ _ ?_)); refine ⟨_, _, ⟨Tryz.sizeOf178, rfl, coA_new _ _ _ _ _⟩, rfl, ?_⟩))
     refine HK.out _ _ ?_
     clear HK
     have X5 := heap_alloc_new wE (Obj.cells (coA c0.st c0.tg (.slice a0 c0.body.length k0)) 178)
     have Q5 := tr_al (Obj.cells (coA c0.st c0.tg (.slice a0 c0.body.length k0)) 178) Q3
     have hbn := blw wE (Obj.cells (coA c0.st c0.tg (.slice a0 c0.body.length k0)) 178)
     have hd5 := hd4.below hbn
     have hs5 := (p2.below hbn).slb
     have hk5 := hk4.trans (Kt.of hbn (Nat.le_trans hb hk4.bl.size))
     clear Q3 p2 hd4 hk4 hbn
     generalize wE.alloc (Obj.cells (coA c0.st c0.tg (.slice a0 c0.body.length k0)) 178) = w5 at *
     generalize wE.heap.size = xb at *
     have x4 := coA_4 X5
     have x5 := coA_5 X5
     have x6 := coA_6 X5
     have hput := cput_any hd5 (Nat.le_trans hb hk5.bl.size) q rep reg _ _ _ _ _ _ Q5 1 c0.tg.idx c0.tg.inc hmt _ _ c0.body hs5 hbl (by omega)
     go_wp2_with (go_at_call 101; refine hput.mono ?_; rintro e w7 ⟨rfl, hd7, hk7⟩)
     go_ret
     exact ⟨rfl, hd7, hk5.trans hk7⟩
   ·have h1 := hst.2 rfl
    obtain ⟨hmay, hbl⟩ : mayTg c1.tg = true ∧ c1.body.length ≤ 43 := by
     rcases ht1 with ⟨_, hh, _⟩ | ⟨_, h⟩
     ·exact absurd h1 hh
     ·exact h
    obtain ⟨_, _, _, _, m1, m2, m3, m4⟩ := mayTg_parts hmay
    have hmt := may_cell2 (rep := rep) (reg := reg) (v := c1.tg.idx) (c := c1.tg.inc) (i := 0) hrp hrg (by omega) m1 m2 m3 m4
    simp only [Int.natCast_zero] at hmt
    clear hst h1 hmay ht0 ht1 hlt
    simp only [if_true, show (1 : Int) - ((1 : Nat) : Int) = 0 from rfl]
    by_cases hsm : c1.st = c0.st ∧ c1.tg.idx = c0.tg.idx ∧ c1.body = c0.body
    case pos =>
     rw [if_pos hsm]
     have hsc := (sameC_iff c1 c0).2 hsm
     have HSC := Lib.hid hsc
     clear hsm hsc
     go_enter Tryz.func37, Tryz.ntmps37
     refine seqH (fun K HK => ?_)
     go_wp2
     refine HK.out _ _ ?_
     clear HK
     refine seqH (fun K HK => ?_)
     go_wp2_with (go_at_call 97; refine hop.mono ?_; rintro e w1 ⟨⟨q, a0, k0, a1, k1, rfl, hq, Q1, o0, o1⟩, hb1⟩)
     refine HK.out _ _ ?_
     clear HK
     refine seqH (fun K HK => ?_)
     go_wp2
     refine HK.out _ _ ?_
     clear HK
     refine seqH (fun K HK => ?_)
     go_wp2_with (go_at_call 98; refine (hlo q a0 _ k0 a1 _ k1 _ Q1).mono ?_; rintro e w2 ⟨rfl, hb2⟩)
     refine HK.out _ _ ?_
     clear HK
     have Q2 := tr_bl hb2 Q1
     have hb3 := hb1.trans (hb2.mono hb1.size)
     have p0 := o0.below hb2
     have p1 := o1.below hb2
     clear Q1 o0 o1 hb1 hb2 hlo hop
     refine seqH (fun K HK => ?_)
     go_wp2_with fail
     have hbd := (Below.refl w2.heap.size w2).drew
     refine wp_region_cls (C := fun w' => Below w2.heap.size w2 w') (by kernel_rfl) (by kernel_rfl) hbd ?_
     clear hbd
     have pother := p0
     iterate 8
      refine wpQuiet_val (by rfl) ?_ ?_ ?_; rotate_left
      ·intro wS hSw; go_simp; (try with_reducible rfl)
      (try simp only [Act.put]); (try simp only [List.setIfInBounds_toArray]); (try simp only [List.set_cons_succ]); (try simp only [List.set_cons_zero])
     refine wpQuiet_val (by rfl) (.agg (coA c1.st c1.tg (.slice a1 c1.body.length k1))) (fun wS hSw => exec_ldB 178 _ ⟨_, _, _, _, _, Tryz.isAgg178, Tryz.sizeOf178, rfl, tr_bl hSw Q2, ceA_ld1 _ _ _ _ _ _ _ _ _⟩) ?_
     iterate 2
      (try simp only [Act.put]); (try simp only [List.setIfInBounds_toArray]); (try simp only [List.set_cons_succ]); (try simp only [List.set_cons_zero])
      refine wpQuiet_val (by rfl) ?_ ?_ ?_; rotate_left
      ·intro wS hSw; go_simp; (try with_reducible rfl)
     (try simp only [Act.put]); (try simp only [List.setIfInBounds_toArray]); (try simp only [List.set_cons_succ]); (try simp only [List.set_cons_zero])
     refine wpQuiet_val (by rfl) (.int .i64 0) (fun wS hSw => ?_) ?_
     ·go_simp; (try rfl)
     iterate 3
      (try simp only [Act.put]); (try simp only [List.setIfInBounds_toArray]); (try simp only [List.set_cons_succ]); (try simp only [List.set_cons_zero])
      refine wpQuiet_val (by rfl) ?_ ?_ ?_; rotate_left
      ·intro wS hSw; go_simp; (try with_reducible rfl)
     (try simp only [Act.put]); (try simp only [List.setIfInBounds_toArray]); (try simp only [List.set_cons_succ]); (try simp only [List.set_cons_zero])
     refine wpQuiet_val (by rfl) (.agg (coA c0.st c0.tg (.slice a0 c0.body.length k0))) (fun wS hSw => exec_ldB 178 _ ⟨_, _, _, _, _, Tryz.isAgg178, Tryz.sizeOf178, rfl, tr_bl hSw Q2, ceA_ld0 _ _ _ _ _ _ _ _ _⟩) ?_
     (try simp only [Act.put]); (try simp only [List.setIfInBounds_toArray]); (try simp only [List.set_cons_succ]); (try simp only [List.set_cons_zero])
     refine wpQuiet_gen (by rfl) (.bool (sameC c1 c0)) (fun wS hSw => ?_) ?_
     ·unfold Oper.quietAt
      go_simp
      (try refine ⟨rfl, ?_⟩)
      exact (same_any c1 c0 a1 a0 k1 k0 wS (p1.below hSw).slb (pother.below hSw).slb).mono fun _ _ h => ⟨h.1, step_bl hSw h.2⟩
     (try simp only [Act.put]); (try simp only [List.setIfInBounds_toArray]); (try simp only [List.set_cons_succ]); (try simp only [List.set_cons_zero])
     clear pother
     rw [HSC.out]
     refine wpQuiet_val (by rfl) ?_ ?_ ?_; rotate_left
     ·intro wS hSw; go_simp; (try with_reducible rfl)
     (try simp only [Act.put]); (try simp only [List.setIfInBounds_toArray]); (try simp only [List.set_cons_succ]); (try simp only [List.set_cons_zero])
     refine wpQuiet_nil ?_
     intro wE hE
     have hb4 := hb3.trans (hE.mono hb3.size)
     go_wp2
     go_ret
     exact ⟨rfl, ⟨_, h.below hb4⟩, Kt.of hb4 hb⟩
    case neg =>
     rw [if_neg hsm]
     have hsc : sameC c1 c0 = false := by
      cases hh : sameC c1 c0
      ·rfl
      ·exact absurd ((sameC_iff c1 c0).1 hh) hsm
     have HSC := Lib.hid hsc
     clear hsm hsc
     go_enter Tryz.func37, Tryz.ntmps37
     refine seqH (fun K HK => ?_)
     go_wp2
     refine HK.out _ _ ?_
     clear HK
     refine seqH (fun K HK => ?_)
     go_wp2_with (go_at_call 97; refine hop.mono ?_; rintro e w1 ⟨⟨q, a0, k0, a1, k1, rfl, hq, Q1, o0, o1⟩, hb1⟩)
     refine HK.out _ _ ?_
     clear HK
     refine seqH (fun K HK => ?_)
     go_wp2
     refine HK.out _ _ ?_
     clear HK
     refine seqH (fun K HK => ?_)
     go_wp2_with (go_at_call 98; refine (hlo q a0 _ k0 a1 _ k1 _ Q1).mono ?_; rintro e w2 ⟨rfl, hb2⟩)
     refine HK.out _ _ ?_
     clear HK
     have Q2 := tr_bl hb2 Q1
     have hb3 := hb1.trans (hb2.mono hb1.size)
     have p0 := o0.below hb2
     have p1 := o1.below hb2
     clear Q1 o0 o1 hb1 hb2 hlo hop
     refine seqH (fun K HK => ?_)
     go_wp2_with fail
     have hbd := (Below.refl w2.heap.size w2).drew
     refine wp_region_cls (C := fun w' => Below w2.heap.size w2 w') (by kernel_rfl) (by kernel_rfl) hbd ?_
     clear hbd
     have pother := p0
     iterate 8
      refine wpQuiet_val (by rfl) ?_ ?_ ?_; rotate_left
      ·intro wS hSw; go_simp; (try with_reducible rfl)
      (try simp only [Act.put]); (try simp only [List.setIfInBounds_toArray]); (try simp only [List.set_cons_succ]); (try simp only [List.set_cons_zero])
     refine wpQuiet_val (by rfl) (.agg (coA c1.st c1.tg (.slice a1 c1.body.length k1))) (fun wS hSw => exec_ldB 178 _ ⟨_, _, _, _, _, Tryz.isAgg178, Tryz.sizeOf178, rfl, tr_bl hSw Q2, ceA_ld1 _ _ _ _ _ _ _ _ _⟩) ?_
     iterate 2
      (try simp only [Act.put]); (try simp only [List.setIfInBounds_toArray]); (try simp only [List.set_cons_succ]); (try simp only [List.set_cons_zero])
      refine wpQuiet_val (by rfl) ?_ ?_ ?_; rotate_left
      ·intro wS hSw; go_simp; (try with_reducible rfl)
     (try simp only [Act.put]); (try simp only [List.setIfInBounds_toArray]); (try simp only [List.set_cons_succ]); (try simp only [List.set_cons_zero])
     refine wpQuiet_val (by rfl) (.int .i64 0) (fun wS hSw => ?_) ?_
     ·go_simp; (try rfl)
     iterate 3
      (try simp only [Act.put]); (try simp only [List.setIfInBounds_toArray]); (try simp only [List.set_cons_succ]); (try simp only [List.set_cons_zero])
      refine wpQuiet_val (by rfl) ?_ ?_ ?_; rotate_left
      ·intro wS hSw; go_simp; (try with_reducible rfl)
     (try simp only [Act.put]); (try simp only [List.setIfInBounds_toArray]); (try simp only [List.set_cons_succ]); (try simp only [List.set_cons_zero])
     refine wpQuiet_val (by rfl) (.agg (coA c0.st c0.tg (.slice a0 c0.body.length k0))) (fun wS hSw => exec_ldB 178 _ ⟨_, _, _, _, _, Tryz.isAgg178, Tryz.sizeOf178, rfl, tr_bl hSw Q2, ceA_ld0 _ _ _ _ _ _ _ _ _⟩) ?_
     (try simp only [Act.put]); (try simp only [List.setIfInBounds_toArray]); (try simp only [List.set_cons_succ]); (try simp only [List.set_cons_zero])
     refine wpQuiet_gen (by rfl) (.bool (sameC c1 c0)) (fun wS hSw => ?_) ?_
     ·unfold Oper.quietAt
      go_simp
      (try refine ⟨rfl, ?_⟩)
      exact (same_any c1 c0 a1 a0 k1 k0 wS (p1.below hSw).slb (pother.below hSw).slb).mono fun _ _ h => ⟨h.1, step_bl hSw h.2⟩
     (try simp only [Act.put]); (try simp only [List.setIfInBounds_toArray]); (try simp only [List.set_cons_succ]); (try simp only [List.set_cons_zero])
     clear pother
     rw [HSC.out]
     refine wpQuiet_val (by rfl) ?_ ?_ ?_; rotate_left
     ·intro wS hSw; go_simp; (try with_reducible rfl)
     (try simp only [Act.put]); (try simp only [List.setIfInBounds_toArray]); (try simp only [List.set_cons_succ]); (try simp only [List.set_cons_zero])
     refine wpQuiet_nil ?_
     intro wE hE
     have Q3 := tr_bl hE Q2
     have hb4 := hb3.trans (hE.mono hb3.size)
     have p2 := p1.below hE
     have hd4 := h.below hb4
     have hk4 := Kt.of hb4 hb
     clear hE hb3 Q2 p0 p1
     go_wp2_with fail
     refine HK.out _ _ ?_
     clear HK
     refine seqH (fun K HK => ?_)
     go_wp2_with (first
      | ((with_reducible refine wpList_ldB 178 _ ?_); refine ⟨rfl, _, ⟨_, _, _, _, _, Tryz.isAgg178, Tryz.sizeOf178, rfl, ‹_›, ceA_ld1 _ _ _ _ _ _ _ _ _⟩, ?_⟩)
      | ((first | (with_reducible refine wpList_stNew 178 _ _ ?_) | (with_reducible refine wp_stNew 178 _ _ ?_)); refine ⟨_, _, ⟨Tryz.sizeOf178, rfl, coA_new _ _ _ _ _⟩, rfl, ?_⟩))
     refine HK.out _ _ ?_
     clear HK
     have X5 := heap_alloc_new wE (Obj.cells (coA c1.st c1.tg (.slice a1 c1.body.length k1)) 178)
     have Q5 := tr_al (Obj.cells (coA c1.st c1.tg (.slice a1 c1.body.length k1)) 178) Q3
     have hbn := blw wE (Obj.cells (coA c1.st c1.tg (.slice a1 c1.body.length k1)) 178)
     have hd5 := hd4.below hbn
     have hs5 := (p2.below hbn).slb
     have hk5 := hk4.trans (Kt.of hbn (Nat.le_trans hb hk4.bl.size))
     clear Q3 p2 hd4 hk4 hbn
     generalize wE.alloc (Obj.cells (coA c1.st c1.tg (.slice a1 c1.body.length k1)) 178) = w5 at *
     generalize wE.heap.size = xb at *
     have x4 := coA_4 X5
     have x5 := coA_5 X5
     have x6 := coA_6 X5
     have hput := cput_any hd5 (Nat.le_trans hb hk5.bl.size) q rep reg _ _ _ _ _ _ Q5 0 c1.tg.idx c1.tg.inc hmt _ _ c1.body hs5 hbl (by omega)
     go_wp2_with (go_at_call 101; refine hput.mono ?_; rintro e w7 ⟨rfl, hd7, hk7⟩)
     go_ret
     exact ⟨rfl, hd7, hk5.trans hk7⟩
end
end Go.Proofs.YtbdonjenekhmdaaGreatDoor
namespace Go.Proofs.YtbdonjenekhmdaaGreatDoor
open Go.RowKit
def ShB (w : World) (q g : Nat) (s : Sh) : Prop := w.heap[q]? = some (.cells #[.int .i64 s.idx, .int .i64 s.area, .int .i64 s.cnt, .pointer (some ⟨g, 0, none⟩), .int .i64 s.rep, .int .i64 s.inc] 101 (0, 0))
section
variable {w w' : World} {q g : Nat} {s : Sh}
theorem ShB.below (h : ShB w q g s) (hb : Below w.heap.size w w') : ShB w' q g s := tr_bl hb h
theorem ShB.kt {B : Nat} (h : ShB w q g s) (hk : Kt B w w') : ShB w' q g s := hk.ty _ _ _ h (by decide) (by decide) (by decide)
theorem ShB.al (h : ShB w q g s) (o : Obj) : ShB (w.alloc o) q g s := tr_al o h
theorem ShB.c0 (h : ShB w q g s) : w.cell? ⟨q, 0, none⟩ = some (.int .i64 s.idx) := blk_cell h 0 _ rfl
theorem ShB.c1 (h : ShB w q g s) : w.cell? ⟨q, 1, none⟩ = some (.int .i64 s.area) := blk_cell h 1 _ rfl
theorem ShB.c2 (h : ShB w q g s) : w.cell? ⟨q, 2, none⟩ = some (.int .i64 s.cnt) := blk_cell h 2 _ rfl
theorem ShB.c3 (h : ShB w q g s) : w.cell? ⟨q, 3, none⟩ = some (.pointer (some ⟨g, 0, none⟩)) := blk_cell h 3 _ rfl
theorem ShB.c4 (h : ShB w q g s) : w.cell? ⟨q, 4, none⟩ = some (.int .i64 s.rep) := blk_cell h 4 _ rfl
theorem ShB.c5 (h : ShB w q g s) : w.cell? ⟨q, 5, none⟩ = some (.int .i64 s.inc) := blk_cell h 5 _ rfl
set_option maxRecDepth 100000 in
theorem snone_any (h : ShB w q g s) : Calls Tryz.prog 41 #[.pointer (some ⟨q, 0, none⟩)] w fun e w' => e = .returned (.bool false) ∧ w = w' := by
 have c3 := h.c3
 go_enter Tryz.func41, Tryz.ntmps41
 go_wp2
 go_ret
 exact ⟨ret_bool rfl, rfl⟩
set_option maxRecDepth 100000 in
theorem sindex_any (h : ShB w q g s) : Calls Tryz.prog 66 #[.pointer (some ⟨q, 0, none⟩)] w fun e w' => e = .returned (.int .i64 s.idx) ∧ w = w' := by
 have c0 := h.c0
 go_enter Tryz.func66, Tryz.ntmps66
 go_wp2_with (go_at_call 41; refine (snone_any h).mono ?_; rintro e w1 ⟨rfl, rfl⟩)
 go_ret
 exact ⟨rfl, rfl⟩
set_option maxRecDepth 100000 in
theorem scount_any (h : ShB w q g s) : Calls Tryz.prog 67 #[.pointer (some ⟨q, 0, none⟩)] w fun e w' => e = .returned (.int .i64 s.cnt) ∧ w = w' := by
 have c2 := h.c2
 go_enter Tryz.func67, Tryz.ntmps67
 go_wp2_with (go_at_call 41; refine (snone_any h).mono ?_; rintro e w1 ⟨rfl, rfl⟩)
 go_ret
 exact ⟨rfl, rfl⟩
variable {B gp : Nat} {wv : Value} {d : Dk}
set_option maxRecDepth 100000 in
theorem sasked_any (h : ShB w q g s) (hd : DiskB B g gp wv d w) (k : Int) : Calls Tryz.prog 54 #[.pointer (some ⟨q, 0, none⟩), .int .i64 k] w fun e w' => e = .returned (.int .i64 (askedS d s k)) ∧ w = w' := by
 have c2 := h.c2
 have c3 := h.c3
 unfold askedS
 by_cases h1 : k < 0
 ·rw [if_pos (.inl h1)]
  have HU := Lib.hid (rfl : upD d = upD d)
  go_enter Tryz.func54, Tryz.ntmps54
  go_wp2_with (first
   | (go_at_call 41; refine (snone_any h).mono ?_; rintro e w1 ⟨rfl, rfl⟩)
   | (go_at_call 43; refine (up_any hd).mono ?_; rintro e w2 ⟨rfl, rfl⟩; rw [HU.out]))
  go_ret
  exact ⟨rfl, rfl⟩
 by_cases h2 : s.cnt ≤ k
 ·rw [if_pos (.inr h2)]
  have HU := Lib.hid (rfl : upD d = upD d)
  go_enter Tryz.func54, Tryz.ntmps54
  go_wp2_with (first
   | (go_at_call 41; refine (snone_any h).mono ?_; rintro e w1 ⟨rfl, rfl⟩)
   | (go_at_call 43; refine (up_any hd).mono ?_; rintro e w2 ⟨rfl, rfl⟩; rw [HU.out]))
  go_ret
  exact ⟨rfl, rfl⟩
 rw [if_neg (by omega)]
 have h2' : ¬ s.cnt ≤ k := h2
 cases hu : upD d
 ·rw [if_pos rfl]
  have HU := Lib.hid hu
  clear hu
  go_enter Tryz.func54, Tryz.ntmps54
  go_wp2_with (first
   | (go_at_call 41; refine (snone_any h).mono ?_; rintro e w1 ⟨rfl, rfl⟩)
   | (go_at_call 43; refine (up_any hd).mono ?_; rintro e w2 ⟨rfl, rfl⟩; rw [HU.out]))
  go_ret
  exact ⟨rfl, rfl⟩
 ·rw [if_neg (by simp)]
  have HU := Lib.hid hu
  clear hu
  go_enter Tryz.func54, Tryz.ntmps54
  go_wp2_with (first
   | (go_at_call 41; refine (snone_any h).mono ?_; rintro e w1 ⟨rfl, rfl⟩)
   | (go_at_call 43; refine (up_any hd).mono ?_; rintro e w2 ⟨rfl, rfl⟩; rw [HU.out]))
  go_ret
  exact ⟨rfl, rfl⟩
end
end Go.Proofs.YtbdonjenekhmdaaGreatDoor
namespace Go.Proofs.YtbdonjenekhmdaaGreatDoor
open Go.RowKit
theorem OwnS.of_owns {w : World} {base : Nat} {v : Value} {l : List UInt8} (h : w.ownsRow base 5 1 v l.length (bys l)) : ∃ a c, v = .slice a l.length c ∧ OwnS w base a c l := by
 rcases h.2 with ⟨h1, h2⟩ | ⟨g, c, cur, h1, h2, h3, h4, h5, h6, h7⟩
 ·have h00 : l = [] := List.eq_nil_of_length_eq_zero h2
  subst h00
  exact ⟨none, 0, h1, OwnB.none _ _, Nat.le_refl _, by decide, fun _ => rfl⟩
 ·refine ⟨some ⟨g, 0, none⟩, c, h1, ?_, h4, h5, fun e => by cases e⟩
  refine .inr ⟨g, cur.toList.drop (bys l).length, rfl, h2, Nat.le_refl _, Nat.le_trans h4 h5, ?_⟩
  rw [Nat.mul_one] at h7
  have e : bys l ++ cur.toList.drop (bys l).length = cur.toList := by
   rw [bys_len, ← h7, List.take_append_drop]
  rw [e, Array.toArray_toList]
  exact h3
theorem man_cells {w : World} {q : Nat} {i a c : Int} {T : TypeId} (h : w.heap[q]? = some (.cells #[.int .i64 i, .int .i64 a, .int .i64 c] T (0, 0))) : w.cell? ⟨q, 0, none⟩ = some (.int .i64 i) ∧ w.cell? ⟨q, 1, none⟩ = some (.int .i64 a) ∧ w.cell? ⟨q, 2, none⟩ = some (.int .i64 c) :=
 ⟨blk_cell h 0 _ rfl, blk_cell h 1 _ rfl, blk_cell h 2 _ rfl⟩
set_option maxRecDepth 100000 in
theorem sbody_any (i a c : Int) (hm : mayMan i a c) (w : World) : Calls Tryz.prog 47 #[.agg #[.int .i64 i, .int .i64 a, .int .i64 c]] w fun e w' => (∃ a' c', e = .returned (.slice a' 8 c') ∧ OwnS w' w.heap.size a' c' (manB i a c)) ∧ Below w.heap.size w w' := by
 obtain ⟨h1, h2, h3, h4, h5, h6⟩ := hm
 have HL := Lib.hid (show oputL 6 i = le 6 i.toNat from oput_one (k := 6) (by omega) (by show _ < 281474976710656; omega))
 have W1 : IntKind.u8.wrap a = a := IntWalk.u8_in _ (by omega)
 have W2 : IntKind.u8.wrap c = c := IntWalk.u8_in _ (by omega)
 have hby : bys (le 6 i.toNat) ++ [Value.int .u8 a, .int .u8 c] = bys (manB i a c) := by
  unfold manB
  rw [bys_app]
  unfold bys
  simp only [List.map_cons, List.map_nil]
  unfold byv
  rw [u8_nat a (by omega) (by omega), u8_nat c (by omega) (by omega)]
 have HB := Lib.hid hby
 clear hby
 go_enter Tryz.func47, Tryz.ntmps47
 refine seqH (fun K HK => ?_)
 go_wp2
 refine HK.out _ _ ?_
 clear HK
 have hb0 := blw w (Obj.cells #[.int .i64 i, .int .i64 a, .int .i64 c] 99)
 have B1 := heap_alloc_new w (Obj.cells #[.int .i64 i, .int .i64 a, .int .i64 c] 99)
 obtain ⟨q0, q1, q2⟩ := man_cells B1
 generalize hw0 : w.alloc (Obj.cells #[.int .i64 i, .int .i64 a, .int .i64 c] 99) = w0 at *
 clear hw0
 refine seqH (fun K HK => ?_)
 go_wp2_with (go_at_call 117; refine (put_any 6 i _).mono ?_; rintro e w2 ⟨⟨v2, rfl, ho2⟩, hb2⟩; rw [HL.out, le_len] at ho2)
 refine HK.out _ _ ?_
 clear HK
 have B2 := tr_bl hb2 B1
 obtain ⟨r0, r1, r2⟩ := man_cells B2
 have hb3 := hb0.trans (hb2.mono hb0.size)
 clear q0 q1 q2 B1
 have hbn := blw w2 (Obj.cells #[.int .u8 a, .int .u8 c] 5)
 have ho3 := owns_bl ho2 hbn
 have hrow : Row (w2.alloc (Obj.cells #[.int .u8 a, .int .u8 c] 5)) (some ⟨w2.heap.size, 0, none⟩) [Value.int .u8 a, .int .u8 c] := Row.of_block (heap_alloc_new w2 _) 0 (fun j u hu => by simpa using hu)
 have hsz := Nat.le_trans hb2.size hbn.size
 have hsz0 := hb0.size
 refine seqH (fun K HK => ?_)
 go_wp2_with (at_builtin; refine wpList_append_row rfl _ _ 37 5 elByte rfl w0.heap.size _ 6 (bys (le 6 i.toNat)) rfl ho3 (some ⟨w2.heap.size, 0, none⟩) 2 2 [Value.int .u8 a, .int .u8 c] rfl rfl hrow (by simp [Value.oneCell']) (by omega) (by decide) hsz ?_; intro v4 w4 ho4 hb4)
 refine HK.out _ _ ?_
 clear HK
 rw [HB.out] at ho4
 go_wp2
 go_ret
 obtain ⟨a', c', rfl, hO⟩ := OwnS.of_owns (l := manB i a c) ho4
 exact ⟨⟨a', c', rfl, hO.mono hsz0⟩, hb3.trans ((hbn.mono hb3.size).trans (hb4.mono hsz0))⟩
/-! parse. -/
theorem st3s (x : Array Value) (hx : x.size = 3) (a b c : Int) : 0 + 3 ≤ x.size ∧ (Value.agg #[.int .i64 a, .int .i64 b, .int .i64 c]).cells.size = 3 ∧ (∀ u ∈ (Value.agg #[.int .i64 a, .int .i64 b, .int .i64 c]).cells.toList, u.oneCell' = true) ∧ (x.toList.take 0 ++ (Value.agg #[.int .i64 a, .int .i64 b, .int .i64 c]).cells.toList ++ x.toList.drop (0 + 3)).toArray = #[.int .i64 a, .int .i64 b, .int .i64 c] := by
 refine ⟨by omega, rfl, by simp [Value.cells, Value.oneCell'], ?_⟩
 rw [List.drop_of_length_le (by rw [Array.length_toList]; omega)]
 rfl
theorem ld3s (a b c : Int) : 0 + 3 ≤ (#[Value.int .i64 a, .int .i64 b, .int .i64 c]).size ∧ (#[Value.int .i64 a, .int .i64 b, .int .i64 c]).extract 0 (0 + 3) = #[Value.int .i64 a, .int .i64 b, .int .i64 c] := ⟨Nat.le_refl 3, rfl⟩
theorem new3s (a b c : Int) : (Value.agg #[.int .i64 a, .int .i64 b, .int .i64 c]).cells = #[.int .i64 a, .int .i64 b, .int .i64 c] ∧ (#[Value.int .i64 a, .int .i64 b, .int .i64 c]).size = 3 ∧ ∀ u ∈ (#[Value.int .i64 a, .int .i64 b, .int .i64 c]).toList, u.oneCell' = true := ⟨rfl, rfl, by simp [Value.oneCell']⟩
def manV (m : Int × Int × Int) : Value := .agg #[.int .i64 m.1, .int .i64 m.2.1, .int .i64 m.2.2]
set_option maxRecDepth 100000 in
set_option maxHeartbeats 4000000 in
theorem sparse_any (a : Option Addr) (cap : Nat) (b : List UInt8) (w : World) (hs : SlB w a cap b) (hl : b.length ≤ 1000) : Calls Tryz.prog 36 #[.slice a b.length cap] w fun e w' => e = .returned (.tuple #[manV (parseMan b).1, .int .i64 (parseMan b).2]) ∧ Below w.heap.size w w' := by
 have hbZ := blw w (Obj.cells #[.int .i64 0, .int .i64 0, .int .i64 0] 99)
 have Z0 := heap_alloc_new w (Obj.cells #[.int .i64 0, .int .i64 0, .int .i64 0] 99)
 have hsZ := hs.below hbZ
 by_cases h6 : b.length < 6
 ·have hge : getE b.length 0 6 ≠ 0 := by
   have hm : manyI 6 ≠ 0 := by decide
   unfold getE pieceE
   rw [if_neg hm]
   split
   ·decide
   ·rename_i hh
    simp at hh
    split
    ·decide
    ·rename_i h2
     exact absurd h6 (by omega)
  have HP := Lib.hid (show parseMan b = ((0, 0, 0), 130) by unfold parseMan; rw [if_pos (by omega)])
  have hgb := fun w => get_bad a b.length cap 0 6 w (by unfold maxLen; omega) hge
  generalize getE b.length 0 6 = ge at *
  have hgn : (ge != 0) = true := by rw [bne_iff_ne]; exact hge
  go_enter Tryz.func36, Tryz.ntmps36
  refine seqH (fun K HK => ?_)
  go_wp2
  refine HK.out _ _ ?_
  clear HK
  generalize hw0 : w.alloc (Obj.cells #[.int .i64 0, .int .i64 0, .int .i64 0] 99) = w0 at *
  clear hw0
  go_wp2_with (first
   | (go_at_call 99; refine (hgb _).mono ?_; rintro e w1 ⟨rfl, hb1⟩; have Z1 := tr_bl hb1 Z0)
   | ((with_reducible refine wpList_stB 99 _ _ ?_); refine ⟨_, _, _, ⟨_, _, _, Tryz.sizeOf99, rfl, Z1, st3s _ rfl 0 0 0⟩, ?_⟩; intro w5 Z5 g5))
  refine bodyPost_ret (results_c1t1 rfl rfl (run_loadVar_all Tryz.isAgg99 Tryz.sizeOf99 Z5 rfl)) rfl ⟨?_, bl_st (hbZ.trans (hb1.mono hbZ.size)) g5 (Nat.le_trans hbZ.size hb1.size) (Nat.le_refl _)⟩
  rw [HP.out]
  rfl
 have hgo : ∀ w', SlB w' a cap b → Calls Tryz.prog 99 #[.slice a b.length cap, .int .i64 0, .int .i64 6] w' fun e w'' => e = .returned (.tuple #[.int .i64 (getN b 0 6 : Nat), .int .i64 6, .int .i64 0]) ∧ Below w'.heap.size w' w'' := fun w' h => by
  have := get_ok a cap b 0 6 w' h (by omega) (by omega)
  exact this
 by_cases h8 : b.length = 8
 case neg =>
  have HP := Lib.hid (show parseMan b = ((0, 0, 0), 130) by unfold parseMan; rw [if_pos h8])
  have e8 : ((b.length : Int) != 8) = true := by rw [bne_iff_ne]; omega
  go_enter Tryz.func36, Tryz.ntmps36
  refine seqH (fun K HK => ?_)
  go_wp2
  refine HK.out _ _ ?_
  clear HK
  generalize hw0 : w.alloc (Obj.cells #[.int .i64 0, .int .i64 0, .int .i64 0] 99) = w0 at *
  clear hw0
  go_wp2_with (first
   | (go_at_call 99; refine (hgo _ hsZ).mono ?_; rintro e w1 ⟨rfl, hb1⟩; have Z1 := tr_bl hb1 Z0)
   | ((with_reducible refine wpList_stB 99 _ _ ?_); refine ⟨_, _, _, ⟨_, _, _, Tryz.sizeOf99, rfl, Z1, st3s _ rfl 0 0 0⟩, ?_⟩; intro w5 Z5 g5))
  refine bodyPost_ret (results_c1t1 rfl rfl (run_loadVar_all Tryz.isAgg99 Tryz.sizeOf99 Z5 rfl)) rfl ⟨?_, bl_st (hbZ.trans (hb1.mono hbZ.size)) g5 (Nat.le_trans hbZ.size hb1.size) (Nat.le_refl _)⟩
  rw [HP.out]
  rfl
 case pos =>
  have e8 : ((b.length : Int) != 8) = false := by rw [bne_eq_false_iff_eq]; omega
  obtain ⟨bk, off, rfl, hcs⟩ := hs.row.at (k := 0) (by rw [bys_len]; omega)
  have hxat : ∀ k, k < 8 → (bys b)[k]? = some (.int .u8 ((b.getD k 0).toNat : Int)) := by
   intro k hk
   unfold bys
   rw [List.getElem?_map, List.getD_eq_getElem?_getD, List.getElem?_eq_getElem (by omega)]
   rfl
  have x6 := hcs 6 _ (hxat 6 (by omega))
  have x7 := hcs 7 _ (hxat 7 (by omega))
  have hpm : parseMan b = if (getN b 0 6 : Int) < 1 ∨ 1099511627752 < (getN b 0 6 : Int) ∨ 1 < (b.getD 6 0).toNat ∨ (b.getD 7 0).toNat < 1 ∨ 8 < (b.getD 7 0).toNat then ((0, 0, 0), 130) else
    ((((getN b 0 6 : Nat) : Int), (((b.getD 6 0).toNat : Nat) : Int), (((b.getD 7 0).toNat : Nat) : Int)), 0) := by unfold parseMan; rw [if_neg (by omega)]
  have hn := getN_lt b 0 6
  have k6 := (b.getD 6 0).toNat_lt
  have k7 := (b.getD 7 0).toNat_lt
  generalize getN b 0 6 = n at *
  generalize (b.getD 6 0).toNat = y6 at *
  generalize (b.getD 7 0).toNat = y7 at *
  have W6 : IntKind.i64.wrap (y6 : Int) = y6 := IntWalk.i64_in _ (by omega)
  have W7 : IntKind.i64.wrap (y7 : Int) = y7 := IntWalk.i64_in _ (by omega)
  have W8 : IntKind.i64.wrap 7 = 7 := IntWalk.i64_in _ (by omega)
  obtain ⟨r, hr⟩ : ∃ r, (if (n : Int) < 1 ∨ 1099511627752 < (n : Int) ∨ 1 < y6 ∨ y7 < 1 ∨ 8 < y7 then (((0, 0, 0), 130) : (Int × Int × Int) × Int) else (((n : Int), (y6 : Int), (y7 : Int)), 0)) = r := ⟨_, rfl⟩
  rw [hpm, hr]
  have HR := Lib.hid hr
  clear hr
  have HCS := Lib.hid hcs
  clear hcs hxat hpm
  rw [h8] at hgo ⊢
  clear e8
  go_enter Tryz.func36, Tryz.ntmps36
  refine seqH (fun K HK => ?_)
  go_wp2
  refine HK.out _ _ ?_
  clear HK
  generalize hw0 : w.alloc (Obj.cells #[.int .i64 0, .int .i64 0, .int .i64 0] 99) = w0 at *
  have z6 : w0.cell? ⟨bk, off + 6, none⟩ = some (.int .u8 (y6 : Int)) := by rw [← hw0]; exact cell_later (blw w (Obj.cells #[.int .i64 0, .int .i64 0, .int .i64 0] 99)) x6
  have z7 : w0.cell? ⟨bk, off + 7, none⟩ = some (.int .u8 (y7 : Int)) := by rw [← hw0]; exact cell_later (blw w (Obj.cells #[.int .i64 0, .int .i64 0, .int .i64 0] 99)) x7
  clear hw0 x6 x7
  refine seqH (fun K HK => ?_)
  go_wp2_with (go_at_call 99; refine (hgo _ hsZ).mono ?_; rintro e w1 ⟨rfl, hb1⟩; have Z1 := tr_bl hb1 Z0; have y6c := cell_later hb1 z6; have y7c := cell_later hb1 z7)
  refine HK.out _ _ ?_
  clear HK
  refine seqH (fun K HK => ?_)
  go_wp2
  refine HK.out _ _ ?_
  clear HK
  have hb2 := hbZ.trans (hb1.mono hbZ.size)
  clear z6 z7 Z0 hbZ hgo hsZ
  refine seqH (fun K HK => ?_)
  go_wp2_with fail
  have hbd := (Below.refl w1.heap.size w1).drew
  have Z3 := tr_bl hbd Z1
  have v6 := cell_later hbd y6c
  have v7 := cell_later hbd y7c
  have hb3 := hb2.trans (hbd.mono hb2.size)
  refine wp_region_held_drew (S := fun w' => w'.cell? ⟨bk, off + 6, none⟩ = some (.int .u8 (y6 : Int)) ∧ w'.cell? ⟨bk, off + 7, none⟩ = some (.int .u8 (y7 : Int))) (by kernel_rfl) ⟨v6, v7⟩ (fun hS0 => ?_)
  clear hbd Z1 y6c y7c hb2 hb1
  generalize w1.drew = x0 at *
  refine tkT 0 rfl (by intro wS hSw; go_simp; (try with_reducible rfl)) ?_
  refine tkT 1 rfl (by intro wS hSw; go_simp; (try with_reducible rfl)) ?_
  refine tkT 2 rfl (by intro wS hSw; go_simp; (try with_reducible rfl)) ?_
  refine tkT 3 rfl (by intro wS hSw; go_simp; (try with_reducible rfl)) ?_
  refine tkT 4 rfl (by intro wS hSw; have c := hSw.1; go_simp; (try with_reducible rfl)) ?_
  refine tkT 5 rfl (by intro wS hSw; go_simp; (try with_reducible rfl)) ?_
  refine tkT 6 rfl (by intro wS hSw; go_simp; (try with_reducible rfl)) ?_
  refine tkT 7 rfl (by intro wS hSw; go_simp; (try with_reducible rfl)) ?_
  refine tkT 8 (v := .int .i64 7) rfl (by intro wS hSw; go_simp) ?_
  refine tkT 9 rfl (by intro wS hSw; go_simp; (try with_reducible rfl)) ?_
  refine tkT 10 rfl (by intro wS hSw; have c := hSw.2; go_simp; (try with_reducible rfl)) ?_
  refine tkT 11 rfl (by intro wS hSw; go_simp; (try with_reducible rfl)) ?_
  refine tkT 12 rfl (by intro wS hSw; go_simp; (try with_reducible rfl)) ?_
  refine rdy1 13 rfl (fun K' hK' => ?_)
  go_simp
  change K' _ (World.alloc x0 (Obj.cells #[.int .i64 0, .int .i64 0, .int .i64 0] 99))
  have N3 := heap_alloc_new x0 (Obj.cells #[.int .i64 0, .int .i64 0, .int .i64 0] 99)
  have hbn := blw x0 (Obj.cells #[.int .i64 0, .int .i64 0, .int .i64 0] 99)
  have Z4 := tr_al (Obj.cells #[.int .i64 0, .int .i64 0, .int .i64 0] 99) Z3
  have hqz : w.heap.size ≠ x0.heap.size := by have := lt_blk Z3; omega
  have hb4 := hb3.alloc hb3.size (Obj.cells #[.int .i64 0, .int .i64 0, .int .i64 0] 99)
  refine hK'.out _ _ ⟨cell_later hbn v6, cell_later hbn v7⟩ (fun _ => ?_)
  clear hK' hS0
  (try simp only [Act.put]); (try simp only [List.setIfInBounds_toArray]); (try simp only [List.set_cons_succ]); (try simp only [List.set_cons_zero])
  refine rdy1 14 rfl (fun K' hK' => ?_)
  refine wp_stB 99 _ _ ?_
  refine ⟨_, _, _, ⟨_, _, _, Tryz.sizeOf99, rfl, N3, st3s _ rfl (n : Int) (y6 : Int) (y7 : Int)⟩, ?_⟩
  intro w8 N4 g8
  have Z5 := tr_st g8 Z4 hqz.symm
  have hb08 := hbn.grown g8 hbn.size (fun k e => by cases e; exact Nat.le_refl _)
  have hb8 := hb3.trans (hb08.mono hb3.size)
  refine hK'.out _ _ ⟨cell_later hb08 v6, cell_later hb08 v7⟩ (fun _ => ?_)
  clear hK'
  (try simp only [Act.put]); (try simp only [List.setIfInBounds_toArray]); (try simp only [List.set_cons_succ]); (try simp only [List.set_cons_zero])
  refine wpAnyH_done (by kernel_rfl) ?_ _
  refine HK.out _ _ ?_
  clear HK v6 v7 hb08 hb4 hb3 Z3 Z4 N3 g8 hbn
  obtain ⟨q0, q1, q2⟩ := man_cells N4
  generalize x0.heap.size = qn at *
  by_cases j1 : (n : Int) < 1
  ·have HP := Lib.hid (HR.out.symm.trans (if_pos (.inl j1)))
   go_wp2_with ((with_reducible refine wpList_stB 99 _ _ ?_); refine ⟨_, _, _, ⟨_, _, _, Tryz.sizeOf99, rfl, Z5, st3s _ rfl 0 0 0⟩, ?_⟩; intro w9 Z9 g9)
   refine bodyPost_ret (results_c1t1 rfl rfl (run_loadVar_all Tryz.isAgg99 Tryz.sizeOf99 Z9 rfl)) rfl ⟨?_, bl_st hb8 g9 hb8.size (Nat.le_refl _)⟩
   rw [HP.out]
   rfl
  by_cases j2 : 1099511627752 < (n : Int)
  ·have HP := Lib.hid (HR.out.symm.trans (if_pos (.inr (.inl j2))))
   go_wp2_with ((with_reducible refine wpList_stB 99 _ _ ?_); refine ⟨_, _, _, ⟨_, _, _, Tryz.sizeOf99, rfl, Z5, st3s _ rfl 0 0 0⟩, ?_⟩; intro w9 Z9 g9)
   refine bodyPost_ret (results_c1t1 rfl rfl (run_loadVar_all Tryz.isAgg99 Tryz.sizeOf99 Z9 rfl)) rfl ⟨?_, bl_st hb8 g9 hb8.size (Nat.le_refl _)⟩
   rw [HP.out]
   rfl
  by_cases j3 : 1 < y6
  ·have HP := Lib.hid (HR.out.symm.trans (if_pos (.inr (.inr (.inl j3)))))
   have j3' : (1 : Int) < y6 := by omega
   go_wp2_with ((with_reducible refine wpList_stB 99 _ _ ?_); refine ⟨_, _, _, ⟨_, _, _, Tryz.sizeOf99, rfl, Z5, st3s _ rfl 0 0 0⟩, ?_⟩; intro w9 Z9 g9)
   refine bodyPost_ret (results_c1t1 rfl rfl (run_loadVar_all Tryz.isAgg99 Tryz.sizeOf99 Z9 rfl)) rfl ⟨?_, bl_st hb8 g9 hb8.size (Nat.le_refl _)⟩
   rw [HP.out]
   rfl
  have j3' : ¬ (1 : Int) < y6 := by omega
  by_cases j4 : y7 < 1
  ·have HP := Lib.hid (HR.out.symm.trans (if_pos (.inr (.inr (.inr (.inl j4))))))
   have j4' : (y7 : Int) < 1 := by omega
   go_wp2_with ((with_reducible refine wpList_stB 99 _ _ ?_); refine ⟨_, _, _, ⟨_, _, _, Tryz.sizeOf99, rfl, Z5, st3s _ rfl 0 0 0⟩, ?_⟩; intro w9 Z9 g9)
   refine bodyPost_ret (results_c1t1 rfl rfl (run_loadVar_all Tryz.isAgg99 Tryz.sizeOf99 Z9 rfl)) rfl ⟨?_, bl_st hb8 g9 hb8.size (Nat.le_refl _)⟩
   rw [HP.out]
   rfl
  have j4' : ¬ (y7 : Int) < 1 := by omega
  by_cases j5 : 8 < y7
  ·have HP := Lib.hid (HR.out.symm.trans (if_pos (.inr (.inr (.inr (.inr j5))))))
   have j5' : (8 : Int) < y7 := by omega
   go_wp2_with ((with_reducible refine wpList_stB 99 _ _ ?_); refine ⟨_, _, _, ⟨_, _, _, Tryz.sizeOf99, rfl, Z5, st3s _ rfl 0 0 0⟩, ?_⟩; intro w9 Z9 g9)
   refine bodyPost_ret (results_c1t1 rfl rfl (run_loadVar_all Tryz.isAgg99 Tryz.sizeOf99 Z9 rfl)) rfl ⟨?_, bl_st hb8 g9 hb8.size (Nat.le_refl _)⟩
   rw [HP.out]
   rfl
  have j5' : ¬ (8 : Int) < y7 := by omega
  have HP := Lib.hid (HR.out.symm.trans (if_neg (by omega)))
  refine seqH (fun K HK => ?_)
  go_wp2
  refine HK.out _ _ ?_
  clear HK
  go_wp2_with (first
   | ((with_reducible refine wpList_ldB 99 _ ?_); refine ⟨rfl, _, ⟨_, _, _, _, _, Tryz.isAgg99, Tryz.sizeOf99, rfl, ‹_›, ld3s _ _ _⟩, ?_⟩)
   | ((with_reducible refine wpList_stB 99 _ _ ?_); refine ⟨_, _, _, ⟨_, _, _, Tryz.sizeOf99, rfl, Z5, st3s _ rfl (n : Int) (y6 : Int) (y7 : Int)⟩, ?_⟩; intro w9 Z9 g9))
  refine bodyPost_ret (results_c1t1 rfl rfl (run_loadVar_all Tryz.isAgg99 Tryz.sizeOf99 Z9 rfl)) rfl ⟨?_, bl_st hb8 g9 hb8.size (Nat.le_refl _)⟩
  rw [HP.out]
  rfl
end Go.Proofs.YtbdonjenekhmdaaGreatDoor
namespace Go.Proofs.YtbdonjenekhmdaaGreatDoor
open Go.RowKit
def SRes (base : Nat) (r : List UInt8 × Bool) (e : Ending) (w' : World) : Prop := ∃ a c, e = .returned (.tuple #[.slice a r.1.length c, .bool r.2]) ∧ OwnS w' base a c r.1
theorem SRes.no (base : Nat) (w' : World) : SRes base ([], false) (.returned (.tuple #[.slice none 0 0, .bool false])) w' := ⟨none, 0, rfl, OwnB.none _ _, Nat.le_refl _, by decide, fun _ => rfl⟩
def preS (d : Dk) (f : Int) : Nat → List UInt8
 | 0 => []
 | 1 => (readD d f).1
 | _ => (readD d f).1 ++ (readD d (f + 1)).1
theorem tgV_new (t : Tg) : (tgV t).cells = #[.int .i64 t.rep, .int .i64 t.reg, .int .i64 t.pla, .int .i64 t.idx, .int .i64 t.inc] ∧ (#[Value.int .i64 t.rep, .int .i64 t.reg, .int .i64 t.pla, .int .i64 t.idx, .int .i64 t.inc]).size = 5 ∧ ∀ u ∈ (#[Value.int .i64 t.rep, .int .i64 t.reg, .int .i64 t.pla, .int .i64 t.idx, .int .i64 t.inc]).toList, u.oneCell' = true := ⟨rfl, rfl, by simp [Value.oneCell']⟩
theorem mine_len (b : List UInt8) (rep reg pla : Int) : (mineF b rep reg pla).2.2.length ≤ b.length := by
 unfold mineF openF
 (repeat' split) <;> simp <;> omega
section
variable {B g gp q : Nat} {wv : Value} {d : Dk} {w : World} {s : Sh}
set_option maxRecDepth 100000 in
set_option maxHeartbeats 8000000 in
theorem sread_any (h : ShB w q g s) (hd : DiskB B g gp wv d w) (hok : ShOk s) (k : Int) (hk : 0 ≤ k ∧ k < 8) : Calls Tryz.prog 125 #[.pointer (some ⟨q, 0, none⟩), .int .i64 k] w fun e w' => SRes w.heap.size (readS d s k) e w' ∧ Below w.heap.size w w' := by
 have ha := hok.a
 have hp : 0 ≤ plaS s k ∧ plaS s k < 16 := by unfold plaS; omega
 have hf := first5 hp
 have hsec : secsS d (plaS s k) = (preS d (firstN 5 (plaS s k)) 2, decide ((readD d (firstN 5 (plaS s k))).2 = 0) && decide ((readD d (firstN 5 (plaS s k) + 1)).2 = 0)) := rfl
 unfold readS
 rw [hsec]
 simp only
 obtain ⟨f, hff⟩ : ∃ f, firstN 5 (plaS s k) = f := ⟨_, rfl⟩
 rw [hff] at hf ⊢
 obtain ⟨r, hr⟩ : ∃ r, (if (decide ((readD d f).2 = 0) && decide ((readD d (f + 1)).2 = 0)) = false then (([], false) : List UInt8 × Bool) else frameS s k (mineF (preS d f 2) s.rep 5 (plaS s k))) = r := ⟨_, rfl⟩
 rw [hr]
 have HR := Lib.hid hr
 clear hr
 have hpl : plaS s k = 8 * s.area + k := rfl
 have c1 := h.c1
 go_enter Tryz.func125, Tryz.ntmps125
 refine seqH (fun K HK => ?_)
 go_wp2
 refine HK.out _ _ ?_
 clear HK
 refine seqH (fun K HK => ?_)
 go_wp2
 refine HK.out _ _ ?_
 clear HK
 rw [← hpl]
 obtain ⟨p, hpp⟩ : ∃ p, plaS s k = p := ⟨_, rfl⟩
 rw [hpp] at hff hf hp ⊢
 have HPP := Lib.hid hpp
 have hfb : 0 ≤ f ∧ f < 200 := by omega
 have HF := Lib.hid hff
 clear hf
 clear hff hpl c1 hsec hpp
 refine seqH (fun K HK => ?_)
 go_wp2
 refine HK.out _ _ ?_
 clear HK
 refine seqH (fun K HK => ?_)
 go_wp2_with (go_at_call 111; refine (wide_any 5 _).mono ?_; rintro e w1 ⟨rfl, hb1⟩)
 rw [show wideN 5 = 2 from rfl]
 go_loopw [26, 7] (fun i o wr => ∃ (j : Nat) (v : Value), j ≤ 2 ∧ i = .int .i64 (j : Nat) ∧ o = v ∧ (∀ t : Nat, t < j → (readD d (f + t)).2 = 0) ∧ wr.ownsRow w.heap.size 5 1 v (preS d f j).length (bys (preS d f j)) ∧ Below w.heap.size w wr) (fun i _ _ => 2 - (intOf i).toNat)
 case atStart => exact ⟨0, _, by omega, rfl, rfl, fun t ht => absurd ht (by omega), World.ownsRow_nil _ _ _ _, hb1⟩
 case round =>
  clear hb1
  obtain ⟨j, v, hj, rfl, rfl, hall, hown, hbr⟩ := hrel
  rcases (show j = 0 ∨ j = 1 ∨ j = 2 by omega) with rfl | rfl | rfl
  ·skip
   have hrd := fun w' (h' : DiskB B g gp wv d w') => read_slb h' (f)
   obtain ⟨bs, re, hbs⟩ : ∃ bs re, readD d (f) = (bs, re) := ⟨_, _, rfl⟩
   have hrl := read_len hd (f)
   rw [hbs] at hrl
   simp only [hbs] at hrd
   simp only at hrl
   have HBS := Lib.hid hbs
   clear hbs
   have hdr := hd.below hbr
   have hsr := h.below hbr
   have hpl : (preS d f 0).length = 64 * 0 := rfl
   have HPL := Lib.hid hpl
   have HPS := Lib.hid (show preS d f (0 + 1) = preS d f 0 ++ (readD d (f)).1 from rfl)
   clear hpl
   generalize preS d f 0 = pr at *
   refine seqH (fun K HK => ?_)
   go_wp2
   refine HK.out _ _ ?_
   clear HK
   refine seqH (fun K HK => ?_)
   go_wp2
   refine HK.out _ _ ?_
   clear HK
   refine seqH (fun K HK2 => ?_)
   refine wp_block ?_
   refine seqH (fun K HK => ?_)
   go_wp2
   refine HK.out _ _ ?_
   clear HK
   refine seqH (fun K HK3 => ?_)
   go_wp2_with fail
   have hbd := (Below.refl wr.heap.size wr).drew
   have D1 := hdr.below hbd
   have S1 := hsr.below hbd
   have hb1 := hbr.trans (hbd.mono hbr.size)
   have o1 := owns_bl hown hbd
   refine wp_region_held_drew (S := fun w' => ShB w' q g s) (by kernel_rfl) S1 (fun hS0 => ?_)
   clear hbd hdr hsr hown hbr
   generalize wr.drew = x0 at *
   refine tkT 0 rfl (by intro wS hSw; go_simp; (try with_reducible rfl)) ?_
   refine tkT 1 rfl (by intro wS hSw; go_simp; (try with_reducible rfl)) ?_
   refine tkT 2 rfl (by intro wS hSw; go_simp; (try with_reducible rfl)) ?_
   refine tkT 3 rfl (by intro wS hSw; have c := hSw.c3; go_simp; (try with_reducible rfl)) ?_
   refine tkT 4 rfl (by intro wS hSw; go_simp; (try with_reducible rfl)) ?_
   refine tkT 6 rfl (by intro wS hSw; go_simp; (try with_reducible rfl)) ?_
   refine rdy1 5 rfl (fun K' hK' => ?_)
   go_simp
   refine (first_any 5 p _).mono ?_
   rintro e w2 ⟨rfl, hb2⟩
   rw [HF.out]
   have D2 := D1.below hb2
   have S2 := S1.below hb2
   have o2 := owns_bl o1 hb2
   have hb3 := hb1.trans (hb2.mono hb1.size)
   refine hK'.out _ _ S2 (fun _ => ?_)
   clear hK' D1 S1 o1 hb1 hb2 hS0
   (try simp only [Act.put]); (try simp only [List.setIfInBounds_toArray]); (try simp only [List.set_cons_succ]); (try simp only [List.set_cons_zero])
   refine tkT 7 (v := .int .i64 (f)) rfl (by intro wS hSw; go_simp; (try rw [IntWalk.i64_in _ (by omega)])) ?_
   refine rdy1 8 rfl (fun K' hK' => ?_)
   go_simp
   refine (hrd _ D2).mono ?_
   rintro e w4 ⟨⟨a4, c4, rfl, s4⟩, hb4⟩
   have S4 := S2.below hb4
   have o4 := owns_bl o2 hb4
   have hb5 := hb3.trans (hb4.mono hb3.size)
   refine hK'.out _ _ S4 (fun _ => ?_)
   clear hK' D2 S2 o2 hb3 hb4 hrd
   (try simp only [Act.put]); (try simp only [List.setIfInBounds_toArray]); (try simp only [List.set_cons_succ]); (try simp only [List.set_cons_zero])
   refine tkT 9 rfl (by intro wS hSw; go_simp; (try with_reducible rfl)) ?_
   refine tkT 10 rfl (by intro wS hSw; go_simp; (try with_reducible rfl)) ?_
   refine tkT 11 rfl (by intro wS hSw; go_simp; (try with_reducible rfl)) ?_
   refine tkT 12 rfl (by intro wS hSw; go_simp; (try with_reducible rfl)) ?_
   refine tkT 13 rfl (by intro wS hSw; go_simp; (try with_reducible rfl)) ?_
   refine wpAnyH_done (by kernel_rfl) ?_ _
   refine HK3.out _ _ ?_
   clear HK3
   by_cases h0 : re = 0
   ·subst h0
    have HBL := Lib.hid (hrl.1 rfl)
    clear hrl
    refine seqH (fun K HK => ?_)
    go_wp2
    refine HK.out _ _ ?_
    clear HK
    go_wp2_with (at_builtin; refine wpList_append_row rfl _ _ 37 5 elByte rfl w.heap.size _ pr.length (bys pr) rfl o4 a4 bs.length c4 (bys bs) rfl (by rw [bys_len]; omega) s4.row bys_one (by have := HPL.out; have := HBL.out; omega) (by decide) hb5.size ?_; intro v6 w6 ho6 hb6)
    (try simp only [Exit.inBlock, Exit.then])
    refine HK2.out _ _ ?_
    clear HK2
    go_wp2
    go_roundw
    case rel =>
     refine ⟨0 + 1, _, by omega, by rfl, rfl, fun t ht => ?_, ?_, hb5.trans hb6⟩
     ·by_cases htj : t < 0
      ·exact hall t htj
      ·obtain rfl : t = 0 := by omega
       rw [show f + ((0 : Nat) : Int) = f by omega, HBS.out]
     ·rw [HPS.out, HBS.out, List.length_append, bys_app]
      exact ho6
    case measure => simp [intOf]
   ·have hn : (re != 0) = true := by rw [bne_iff_ne]; exact h0
    have hr0 : r = ([], false) := by
     rw [← HR.out, if_pos]
     rw [HBS.out]; simp [h0]
    clear HK HR HPS
    subst hr0
    go_wp2
    go_ret2
    exact ⟨SRes.no _ _, hb5⟩
  ·have hr0 := hall 0 (by omega)
   rw [show f + ((0 : Nat) : Int) = f by omega] at hr0
   skip
   have hrd := fun w' (h' : DiskB B g gp wv d w') => read_slb h' (f + 1)
   obtain ⟨bs, re, hbs⟩ : ∃ bs re, readD d (f + 1) = (bs, re) := ⟨_, _, rfl⟩
   have hrl := read_len hd (f + 1)
   rw [hbs] at hrl
   simp only [hbs] at hrd
   simp only at hrl
   have HBS := Lib.hid hbs
   clear hbs
   have hdr := hd.below hbr
   have hsr := h.below hbr
   have hpl : (preS d f 1).length = 64 * 1 := (read_len hd f).1 hr0
   have HPL := Lib.hid hpl
   have HPS := Lib.hid (show preS d f (1 + 1) = preS d f 1 ++ (readD d (f + 1)).1 from rfl)
   clear hpl
   generalize preS d f 1 = pr at *
   refine seqH (fun K HK => ?_)
   go_wp2
   refine HK.out _ _ ?_
   clear HK
   refine seqH (fun K HK => ?_)
   go_wp2
   refine HK.out _ _ ?_
   clear HK
   refine seqH (fun K HK2 => ?_)
   refine wp_block ?_
   refine seqH (fun K HK => ?_)
   go_wp2
   refine HK.out _ _ ?_
   clear HK
   refine seqH (fun K HK3 => ?_)
   go_wp2_with fail
   have hbd := (Below.refl wr.heap.size wr).drew
   have D1 := hdr.below hbd
   have S1 := hsr.below hbd
   have hb1 := hbr.trans (hbd.mono hbr.size)
   have o1 := owns_bl hown hbd
   refine wp_region_held_drew (S := fun w' => ShB w' q g s) (by kernel_rfl) S1 (fun hS0 => ?_)
   clear hbd hdr hsr hown hbr
   generalize wr.drew = x0 at *
   refine tkT 0 rfl (by intro wS hSw; go_simp; (try with_reducible rfl)) ?_
   refine tkT 1 rfl (by intro wS hSw; go_simp; (try with_reducible rfl)) ?_
   refine tkT 2 rfl (by intro wS hSw; go_simp; (try with_reducible rfl)) ?_
   refine tkT 3 rfl (by intro wS hSw; have c := hSw.c3; go_simp; (try with_reducible rfl)) ?_
   refine tkT 4 rfl (by intro wS hSw; go_simp; (try with_reducible rfl)) ?_
   refine tkT 6 rfl (by intro wS hSw; go_simp; (try with_reducible rfl)) ?_
   refine rdy1 5 rfl (fun K' hK' => ?_)
   go_simp
   refine (first_any 5 p _).mono ?_
   rintro e w2 ⟨rfl, hb2⟩
   rw [HF.out]
   have D2 := D1.below hb2
   have S2 := S1.below hb2
   have o2 := owns_bl o1 hb2
   have hb3 := hb1.trans (hb2.mono hb1.size)
   refine hK'.out _ _ S2 (fun _ => ?_)
   clear hK' D1 S1 o1 hb1 hb2 hS0
   (try simp only [Act.put]); (try simp only [List.setIfInBounds_toArray]); (try simp only [List.set_cons_succ]); (try simp only [List.set_cons_zero])
   refine tkT 7 (v := .int .i64 (f + 1)) rfl (by intro wS hSw; go_simp; (try rw [IntWalk.i64_in _ (by omega)])) ?_
   refine rdy1 8 rfl (fun K' hK' => ?_)
   go_simp
   refine (hrd _ D2).mono ?_
   rintro e w4 ⟨⟨a4, c4, rfl, s4⟩, hb4⟩
   have S4 := S2.below hb4
   have o4 := owns_bl o2 hb4
   have hb5 := hb3.trans (hb4.mono hb3.size)
   refine hK'.out _ _ S4 (fun _ => ?_)
   clear hK' D2 S2 o2 hb3 hb4 hrd
   (try simp only [Act.put]); (try simp only [List.setIfInBounds_toArray]); (try simp only [List.set_cons_succ]); (try simp only [List.set_cons_zero])
   refine tkT 9 rfl (by intro wS hSw; go_simp; (try with_reducible rfl)) ?_
   refine tkT 10 rfl (by intro wS hSw; go_simp; (try with_reducible rfl)) ?_
   refine tkT 11 rfl (by intro wS hSw; go_simp; (try with_reducible rfl)) ?_
   refine tkT 12 rfl (by intro wS hSw; go_simp; (try with_reducible rfl)) ?_
   refine tkT 13 rfl (by intro wS hSw; go_simp; (try with_reducible rfl)) ?_
   refine wpAnyH_done (by kernel_rfl) ?_ _
   refine HK3.out _ _ ?_
   clear HK3
   by_cases h0 : re = 0
   ·subst h0
    have HBL := Lib.hid (hrl.1 rfl)
    clear hrl
    refine seqH (fun K HK => ?_)
    go_wp2
    refine HK.out _ _ ?_
    clear HK
    go_wp2_with (at_builtin; refine wpList_append_row rfl _ _ 37 5 elByte rfl w.heap.size _ pr.length (bys pr) rfl o4 a4 bs.length c4 (bys bs) rfl (by rw [bys_len]; omega) s4.row bys_one (by have := HPL.out; have := HBL.out; omega) (by decide) hb5.size ?_; intro v6 w6 ho6 hb6)
    (try simp only [Exit.inBlock, Exit.then])
    refine HK2.out _ _ ?_
    clear HK2
    go_wp2
    go_roundw
    case rel =>
     refine ⟨1 + 1, _, by omega, by rfl, rfl, fun t ht => ?_, ?_, hb5.trans hb6⟩
     ·by_cases htj : t < 1
      ·exact hall t htj
      ·obtain rfl : t = 1 := by omega
       rw [show f + ((1 : Nat) : Int) = f + 1 by omega, HBS.out]
     ·rw [HPS.out, HBS.out, List.length_append, bys_app]
      exact ho6
    case measure => simp [intOf]
   ·have hn : (re != 0) = true := by rw [bne_iff_ne]; exact h0
    have hr0 : r = ([], false) := by
     rw [← HR.out, if_pos]
     rw [HBS.out]; simp [h0]
    clear HK HR HPS
    subst hr0
    go_wp2
    go_ret2
    exact ⟨SRes.no _ _, hb5⟩
  ·have hr0 := hall 0 (by omega)
   have hr1 := hall 1 (by omega)
   rw [show f + ((0 : Nat) : Int) = f by omega] at hr0
   rw [show f + ((1 : Nat) : Int) = f + 1 by omega] at hr1
   have hrr := HR.out
   rw [hr0, hr1, if_neg (by simp)] at hrr
   have hlen : (preS d f 2).length = 128 := by
    show ((readD d f).1 ++ (readD d (f + 1)).1).length = 128
    rw [List.length_append, (read_len hd f).1 hr0, (read_len hd (f + 1)).1 hr1]
   clear hall hr0 hr1 HR
   generalize preS d f 2 = b at *
   obtain ⟨a2, c2, rfl, s2⟩ := SlB.of_owns hown
   have hmi := mine_any a2 c2 b s.rep 5 p wr s2 (by omega)
   have hml := mine_len b s.rep 5 p
   obtain ⟨st, tg, body, hmm⟩ : ∃ st tg body, mineF b s.rep 5 p = (st, tg, body) := ⟨_, _, _, rfl⟩
   have hppv : plaS s k = p := HPP.out
   rw [hppv, hmm] at hrr
   rw [hmm] at hmi hml
   simp only at hml
   have hbl : body.length ≤ 1000 := by omega
   have hsr := h.below hbr
   have cr4 := hsr.c4
   clear hppv hmm hml hown hlen
   generalize hbn : b.length = bn at *
   clear hbn
   go_wp2
   refine HK.out _ _ ?_
   clear HK
   refine seqH (fun K HK => ?_)
   go_wp2_with (first
       | (go_at_call 171; refine hmi.mono ?_; rintro e w2 ⟨⟨a3, c3, rfl, hO⟩, hb2⟩)
       | ((first | (with_reducible refine wpList_stNew 39 _ _ ?_) | (with_reducible refine wp_stNew 39 _ _ ?_)); refine ⟨_, _, ⟨Tryz.sizeOf39, rfl, tgV_new _⟩, rfl, ?_⟩))
   refine HK.out _ _ ?_
   clear HK
   have hb3 := hbr.trans (hb2.mono hbr.size)
   have hbn := blw w2 (Obj.cells #[.int .i64 tg.rep, .int .i64 tg.reg, .int .i64 tg.pla, .int .i64 tg.idx, .int .i64 tg.inc] 39)
   have T3 := heap_alloc_new w2 (Obj.cells #[.int .i64 tg.rep, .int .i64 tg.reg, .int .i64 tg.pla, .int .i64 tg.idx, .int .i64 tg.inc] 39)
   have S3 := (hsr.below hb2).below hbn
   have O3 := hO.below hbn
   have hb4 := hb3.trans (hbn.mono hb3.size)
   clear hbr hb2 hb3 hsr hO cr4 hmi s2 hbn
   generalize w2.alloc (Obj.cells #[.int .i64 tg.rep, .int .i64 tg.reg, .int .i64 tg.pla, .int .i64 tg.idx, .int .i64 tg.inc] 39) = w3 at *
   generalize w2.heap.size = tb at *
   obtain ⟨n, c, pe, hpk⟩ : ∃ n c pe, parseCk body = (n, c, pe) := ⟨_, _, _, rfl⟩
   have hpn := parse_ck_le body
   have hkp : Calls Tryz.prog 186 #[.slice a3 body.length c3] w3 fun e w' => (∃ a4 c4, e = .returned (.tuple #[.int .i64 (n : Nat), .slice a4 c.length c4, .int .i64 pe]) ∧ OwnS w' w3.heap.size a4 c4 c) ∧ Below w3.heap.size w3 w' := by
    have := kparse_any a3 c3 body w3 O3.slb hbl
    unfold CkRes at this
    simp only [hpk] at this
    exact this
   unfold frameS at hrr
   rw [hpk] at hrr hpn
   simp only at hrr hpn
   clear hpk
   refine seqH (fun K HK => ?_)
   go_wp2_with (go_at_call 186; refine hkp.mono ?_; rintro e w4 ⟨⟨a4, c4, rfl, O4⟩, hb5⟩)
   refine HK.out _ _ ?_
   clear HK
   have S4 := S3.below hb5
   have T4 := tr_bl hb5 T3
   have hb6 := hb4.trans (hb5.mono hb4.size)
   have u0 := under_cell S4.c0
   have u2 := under_cell S4.c2
   have ut : ∀ x, (Under w4 x).cell? ⟨tb, 3, none⟩ = some (.int .i64 tg.idx) := under_cell (blk_cell T4 3 _ rfl)
   have hO4 := O4.mono hb4.size
   clear S3 T3 O3 hkp hb5 hb4 S4 T4 hbl
   by_cases g1 : st = 1
   case neg =>
    have e1 : ((st : Int) == 1) = false := by rw [beq_eq_false_iff_ne]; omega
    rw [decide_eq_false g1, Bool.false_and] at hrr
    clear g1
    subst hrr
    have HFI := fun x => sfits_any k (n : Int) a4 c4 c (Under w4 x) (O4.slb.below (under_below w4 x))
    refine seqH (fun K HK5 => ?_)
    refine wp_region_under (by kernel_rfl) (by kernel_rfl) ?_
    repeat (first | go_big_quiet_step ((first
     | (go_at_call 55; exact under_call (HFI _)))) | ((with_reducible refine wpQuiet_skip ?_ ?_) ; (focus rfl); (try simp only [Act.put]); (try simp only [List.setIfInBounds_toArray]); (try simp only [List.set_cons_succ]); (try simp only [List.set_cons_zero])))
    refine wpQuiet_nil ?_
    intro _ hw'
    obtain ⟨xU, hw''⟩ := hw'
    subst hw''
    have hbU := under_below w4 xU
    refine HK5.out _ _ ?_
    clear HK5
    go_wp2
    go_ret2
    exact ⟨⟨a4, c4, rfl, hO4.below hbU⟩, hb6.trans (hbU.mono hb6.size)⟩
   case pos =>
    subst g1
    by_cases g2 : tg.idx = s.idx
    case neg =>
     have e2 : (tg.idx == s.idx) = false := by rw [beq_eq_false_iff_ne]; exact g2
     rw [decide_eq_false g2, Bool.false_and, Bool.and_false] at hrr
     clear g2
     subst hrr
     have HFI := fun x => sfits_any k (n : Int) a4 c4 c (Under w4 x) (O4.slb.below (under_below w4 x))
     refine seqH (fun K HK5 => ?_)
     refine wp_region_under (by kernel_rfl) (by kernel_rfl) ?_
     repeat (first | go_big_quiet_step ((first
      | (go_at_call 55; exact under_call (HFI _)))) | ((with_reducible refine wpQuiet_skip ?_ ?_) ; (focus rfl); (try simp only [Act.put]); (try simp only [List.setIfInBounds_toArray]); (try simp only [List.set_cons_succ]); (try simp only [List.set_cons_zero])))
     refine wpQuiet_nil ?_
     intro _ hw'
     obtain ⟨xU, hw''⟩ := hw'
     subst hw''
     have hbU := under_below w4 xU
     refine HK5.out _ _ ?_
     clear HK5
     go_wp2
     go_ret2
     exact ⟨⟨a4, c4, rfl, hO4.below hbU⟩, hb6.trans (hbU.mono hb6.size)⟩
    case pos =>
     have e2 : (tg.idx == s.idx) = true := by rw [beq_iff_eq]; exact g2
     rw [decide_eq_true g2, Bool.true_and] at hrr
     clear g2
     by_cases g3 : pe = 0
     case neg =>
      have e3 : (pe == 0) = false := by rw [beq_eq_false_iff_ne]; exact g3
      rw [decide_eq_false g3, Bool.false_and, Bool.and_false] at hrr
      clear g3
      subst hrr
      have HFI := fun x => sfits_any k (n : Int) a4 c4 c (Under w4 x) (O4.slb.below (under_below w4 x))
      refine seqH (fun K HK5 => ?_)
      refine wp_region_under (by kernel_rfl) (by kernel_rfl) ?_
      repeat (first | go_big_quiet_step ((first
       | (go_at_call 55; exact under_call (HFI _)))) | ((with_reducible refine wpQuiet_skip ?_ ?_) ; (focus rfl); (try simp only [Act.put]); (try simp only [List.setIfInBounds_toArray]); (try simp only [List.set_cons_succ]); (try simp only [List.set_cons_zero])))
      refine wpQuiet_nil ?_
      intro _ hw'
      obtain ⟨xU, hw''⟩ := hw'
      subst hw''
      have hbU := under_below w4 xU
      refine HK5.out _ _ ?_
      clear HK5
      go_wp2
      go_ret2
      exact ⟨⟨a4, c4, rfl, hO4.below hbU⟩, hb6.trans (hbU.mono hb6.size)⟩
     case pos =>
      subst g3
      by_cases g4 : (n : Int) = s.cnt
      case neg =>
       have e4 : ((n : Int) == s.cnt) = false := by rw [beq_eq_false_iff_ne]; exact g4
       rw [decide_eq_false g4, Bool.false_and, Bool.and_false, Bool.and_false] at hrr
       clear g4
       subst hrr
       have HFI := fun x => sfits_any k (n : Int) a4 c4 c (Under w4 x) (O4.slb.below (under_below w4 x))
       refine seqH (fun K HK5 => ?_)
       refine wp_region_under (by kernel_rfl) (by kernel_rfl) ?_
       repeat (first | go_big_quiet_step ((first
        | (go_at_call 55; exact under_call (HFI _)))) | ((with_reducible refine wpQuiet_skip ?_ ?_) ; (focus rfl); (try simp only [Act.put]); (try simp only [List.setIfInBounds_toArray]); (try simp only [List.set_cons_succ]); (try simp only [List.set_cons_zero])))
       refine wpQuiet_nil ?_
       intro _ hw'
       obtain ⟨xU, hw''⟩ := hw'
       subst hw''
       have hbU := under_below w4 xU
       refine HK5.out _ _ ?_
       clear HK5
       go_wp2
       go_ret2
       exact ⟨⟨a4, c4, rfl, hO4.below hbU⟩, hb6.trans (hbU.mono hb6.size)⟩
      case pos =>
       have e4 : ((n : Int) == s.cnt) = true := by rw [beq_iff_eq]; exact g4
       rw [decide_eq_true g4] at hrr
       simp only [Bool.true_and, decide_true] at hrr
       clear g4
       subst hrr
       have HFI := fun x => sfits_any k (n : Int) a4 c4 c (Under w4 x) (O4.slb.below (under_below w4 x))
       refine seqH (fun K HK5 => ?_)
       refine wp_region_under (by kernel_rfl) (by kernel_rfl) ?_
       repeat (first | go_big_quiet_step ((first
        | (go_at_call 55; exact under_call (HFI _)))) | ((with_reducible refine wpQuiet_skip ?_ ?_) ; (focus rfl); (try simp only [Act.put]); (try simp only [List.setIfInBounds_toArray]); (try simp only [List.set_cons_succ]); (try simp only [List.set_cons_zero])))
       refine wpQuiet_nil ?_
       intro _ hw'
       obtain ⟨xU, hw''⟩ := hw'
       subst hw''
       have hbU := under_below w4 xU
       refine HK5.out _ _ ?_
       clear HK5
       go_wp2
       go_ret2
       exact ⟨⟨a4, c4, rfl, hO4.below hbU⟩, hb6.trans (hbU.mono hb6.size)⟩
end
end Go.Proofs.YtbdonjenekhmdaaGreatDoor
namespace Go.Proofs.YtbdonjenekhmdaaGreatDoor
open Go.RowKit
theorem elInt : ElemT Tryz.prog 136 3 1 8 := ElemT.of (.int .i64 0) Tryz.underlying136 (by kernel_rfl) rfl (by decide)
theorem hurtS_yes {d : Dk} {s : Sh} {n : Nat} (h : (readS d s (n : Int)).2 = false) : hurtS d s (n + 1) = hurtS d s n ++ [(n : Int)] := by
 unfold hurtS
 rw [List.range_succ, List.filter_append, List.map_append]
 simp [h]
theorem hurtS_no {d : Dk} {s : Sh} {n : Nat} (h : (readS d s (n : Int)).2 = true) : hurtS d s (n + 1) = hurtS d s n := by
 unfold hurtS
 rw [List.range_succ, List.filter_append, List.map_append]
 simp [h]
theorem hurtS_len (d : Dk) (s : Sh) (n : Nat) : (hurtS d s n).length ≤ n := by
 unfold hurtS
 rw [List.length_map]
 exact Nat.le_trans (List.length_filter_le _ _) (by simp)
theorem allS_succ (d : Dk) (s : Sh) (n : Nat) : allS d s (n + 1) = allS d s n ++ (readS d s (n : Int)).1 := by
 unfold allS
 rw [List.range_succ, List.flatMap_append]
 simp
theorem allS_len (d : Dk) (s : Sh) (n : Nat) : (allS d s n).length ≤ 80 * n := by
 induction n with
 | zero => simp [allS]
 | succ n ih => rw [allS_succ, List.length_append]; have := read_len2 d s (n : Int); omega
section
variable {B g gp q : Nat} {wv : Value} {d : Dk} {w : World} {s : Sh}
set_option maxRecDepth 100000 in
theorem sbroken_any (h : ShB w q g s) (hd : DiskB B g gp wv d w) (hok : ShOk s) (k : Int) (hk : 0 ≤ k ∧ k < 8) : Calls Tryz.prog 56 #[.pointer (some ⟨q, 0, none⟩), .int .i64 k] w fun e w' => e = .returned (.bool (!(readS d s k).2)) ∧ Below w.heap.size w w' := by
 have hr := sread_any h hd hok k hk
 obtain ⟨r1, r2, hrr⟩ : ∃ r1 r2, readS d s k = (r1, r2) := ⟨_, _, rfl⟩
 rw [hrr] at hr ⊢
 clear hrr
 go_enter Tryz.func56, Tryz.ntmps56
 go_wp2_with (go_at_call 125; refine hr.mono ?_; rintro e w1 ⟨⟨a, c, rfl, hO⟩, hb1⟩)
 go_ret
 exact ⟨rfl, hb1⟩
set_option maxRecDepth 100000 in
set_option maxHeartbeats 4000000 in
theorem swhich_any (h : ShB w q g s) (hd : DiskB B g gp wv d w) (hok : ShOk s) : Calls Tryz.prog 148 #[.pointer (some ⟨q, 0, none⟩), .func (.func 56) #[.pointer (some ⟨q, 0, none⟩)] #[]] w fun e w' => (∃ a c, e = .returned (.slice a (hurtS d s s.cnt.toNat).length c) ∧ Row w' a ((hurtS d s s.cnt.toNat).map (Value.int .i64))) ∧ Below w.heap.size w w' := by
 have hc := hok.c
 obtain ⟨n, hn⟩ : ∃ n : Nat, s.cnt = (n : Int) := ⟨s.cnt.toNat, by omega⟩
 have hcn := scount_any h
 rw [hn] at hcn hc
 rw [hn, Int.toNat_natCast]
 have HN := Lib.hid hn
 clear hn
 go_enter Tryz.func148, Tryz.ntmps148
 refine seqH (fun K HK => ?_)
 go_wp2
 refine HK.out _ _ ?_
 clear HK
 refine seqH (fun K HK => ?_)
 go_wp2
 refine HK.out _ _ ?_
 clear HK
 refine seqH (fun K HK => ?_)
 go_wp2_with (go_at_call 67; refine hcn.mono ?_; rintro e w1 ⟨rfl, rfl⟩)
 go_loopw [9, 5] (fun i o wr => ∃ (j : Nat) (v : Value), j ≤ n ∧ i = .int .i64 (j : Nat) ∧ o = v ∧ wr.ownsRow w.heap.size 3 1 v (hurtS d s j).length ((hurtS d s j).map (Value.int .i64)) ∧ Below w.heap.size w wr) (fun i _ _ => n - (intOf i).toNat)
 case atStart => exact ⟨0, _, by omega, rfl, rfl, World.ownsRow_nil _ _ _ _, Below.refl _ _⟩
 case round =>
  obtain ⟨j, v, hj, rfl, rfl, hown, hbr⟩ := hrel
  by_cases hlt : j < n
  case neg =>
   obtain rfl : j = n := by omega
   obtain ⟨a2, c2, rfl, hrw, _⟩ := Row.of_owns hown
   go_wp2
   refine HK.out _ _ ?_
   clear HK
   go_wp2
   go_ret
   exact ⟨⟨a2, c2, rfl, hrw⟩, hbr⟩
  case pos =>
   have hbk := sbroken_any (h.below hbr) (hd.below hbr) hok (j : Int) (by omega)
   have hI : (j : Int) < (n : Int) := by omega
   have hlen := hurtS_len d s j
   obtain ⟨rb, hrb⟩ : ∃ rb, (readS d s (j : Int)).2 = rb := ⟨_, rfl⟩
   rw [hrb] at hbk
   cases rb
   case true =>
    have HS := Lib.hid (hurtS_no hrb)
    clear hrb
    go_wp2_with (go_at_call 56; refine hbk.mono ?_; rintro e w2 ⟨rfl, hb2⟩)
    go_roundw
    case rel => exact ⟨j + 1, _, by omega, by go_num, rfl, by rw [HS.out]; exact owns_bl hown hb2, hbr.trans (hb2.mono hbr.size)⟩
    case measure => simp [intOf]; omega
   case false =>
    have HS := Lib.hid (hurtS_yes hrb)
    clear hrb
    generalize hurtS d s j = hu at *
    go_wp2_with (first
     | (go_at_call 56; refine hbk.mono ?_; rintro e w2 ⟨rfl, hb2⟩; have o2 := owns_bl hown hb2; have hb3 := hbr.trans (hb2.mono hbr.size))
     | (at_builtin; refine wpList_append1 rfl _ _ 136 3 elInt rfl w.heap.size _ hu.length _ rfl o2 #[.int .i64 (j : Int)] rfl (by simp; rfl) _ rfl (by omega) (by decide) hb3.size ?_; intro v4 w4 ho4 hb4 _))
    go_roundw
    case rel => exact ⟨j + 1, _, by omega, by go_num, rfl, by rw [HS.out, List.length_append, List.map_append]; exact ho4, hb3.trans hb4⟩
    case measure => simp [intOf]; omega
set_option maxRecDepth 100000 in
theorem shurt_any (h : ShB w q g s) (hd : DiskB B g gp wv d w) (hok : ShOk s) : Calls Tryz.prog 69 #[.pointer (some ⟨q, 0, none⟩)] w fun e w' => (∃ a c, e = .returned (.slice a (hurtS d s s.cnt.toNat).length c) ∧ Row w' a ((hurtS d s s.cnt.toNat).map (Value.int .i64))) ∧ Below w.heap.size w w' := by
 have hwh := swhich_any h hd hok
 go_enter Tryz.func69, Tryz.ntmps69
 go_wp2_with (go_at_call 148; refine hwh.mono ?_; rintro e w1 ⟨⟨a, c, rfl, hrw⟩, hb1⟩)
 go_ret
 exact ⟨⟨a, c, rfl, hrw⟩, hb1⟩
end
end Go.Proofs.YtbdonjenekhmdaaGreatDoor
namespace Go.Proofs.YtbdonjenekhmdaaGreatDoor
def half1 (y : Nat) : Nat := (y / 2) ^^^ (if y % 2 = 1 then 2197175160 else 0)
def inR (r b : Nat) : Nat := if r % 2 = b then r / 2 else (r / 2) ^^^ 2197175160
def halfs : Nat → Nat → Nat
 | 0, y => y
 | k + 1, y => half1 (halfs k y)
theorem xor_half (a b : Nat) : (a ^^^ b) / 2 = a / 2 ^^^ b / 2 := Nat.xor_div_two_pow (n := 1)
theorem xor_low (a b : Nat) : (a ^^^ b) % 2 = a % 2 ^^^ b % 2 := Nat.xor_mod_two_pow (n := 1)
theorem half1_xor (a b : Nat) : half1 (a ^^^ b) = half1 a ^^^ half1 b := by
 unfold half1
 rw [xor_half, xor_low]
 rcases (show a % 2 = 0 ∨ a % 2 = 1 by omega) with h | h <;> rcases (show b % 2 = 0 ∨ b % 2 = 1 by omega) with k | k <;> rw [h, k] <;> simp only [Nat.xor_self, Nat.xor_zero, Nat.zero_xor, if_true, if_false, Nat.zero_ne_one]
 ·rw [Nat.xor_assoc]
 ·rw [Nat.xor_assoc, Nat.xor_assoc, Nat.xor_comm (b / 2)]
 ·rw [Nat.xor_assoc, ← Nat.xor_assoc 2197175160, Nat.xor_comm 2197175160 (b / 2), Nat.xor_assoc, Nat.xor_self, Nat.xor_zero]
theorem halfs_xor (a b : Nat) : ∀ k, halfs k (a ^^^ b) = halfs k a ^^^ halfs k b
 | 0 => rfl
 | k + 1 => by
  show half1 (halfs k (a ^^^ b)) = half1 (halfs k a) ^^^ half1 (halfs k b)
  rw [halfs_xor a b k, half1_xor]
theorem half1_two (y : Nat) : half1 (2 * y) = y := by
 unfold half1
 rw [if_neg (by omega), Nat.xor_zero]
 omega
theorem halfs_16 (q : Nat) : halfs 4 (16 * q) = q := by
 show half1 (half1 (half1 (half1 (16 * q)))) = q
 rw [show 16 * q = 2 * (2 * (2 * (2 * q))) by omega, half1_two, half1_two, half1_two, half1_two]
theorem halfs_low : ∀ m, m < 16 → halfs 4 m = half m := by decide
theorem split16 (y : Nat) : y = 16 * (y / 16) ^^^ (y % 16) := by
 have h1 : (16 * (y / 16) ^^^ (y % 16)) / 16 = y / 16 := by
  have := Nat.xor_div_two_pow (a := 16 * (y / 16)) (b := y % 16) (n := 4)
  rw [show (2 : Nat) ^ 4 = 16 from rfl] at this
  rw [this, show y % 16 / 16 = 0 by omega, Nat.xor_zero]
  omega
 have h2 : (16 * (y / 16) ^^^ (y % 16)) % 16 = y % 16 := by
  have := Nat.xor_mod_two_pow (a := 16 * (y / 16)) (b := y % 16) (n := 4)
  rw [show (2 : Nat) ^ 4 = 16 from rfl] at this
  rw [this, show 16 * (y / 16) % 16 = 0 by omega, Nat.zero_xor]
  omega
 generalize 16 * (y / 16) ^^^ (y % 16) = z at *
 omega
theorem halfs_nib (y : Nat) : halfs 4 y = nib y := by
 have h := halfs_xor (16 * (y / 16)) (y % 16) 4
 rw [← split16] at h
 rw [h, halfs_16, halfs_low _ (by omega)]
 rfl
theorem halfs_add (y : Nat) : ∀ a b, halfs (a + b) y = halfs a (halfs b y)
 | 0, b => by rw [Nat.zero_add]; rfl
 | a + 1, b => by
  rw [show a + 1 + b = (a + b) + 1 by omega]
  show half1 (halfs (a + b) y) = half1 (halfs a (halfs b y))
  rw [halfs_add y a b]
theorem halfs_8 (r : Nat) (x : UInt8) : halfs 8 (r ^^^ x.toNat) = stepC r x := by
 rw [show (8 : Nat) = 4 + 4 from rfl, halfs_add, halfs_nib, halfs_nib]
 rfl
theorem inR_step {r x y k : Nat} (h : r ^^^ x = halfs k y) : inR r (x % 2) ^^^ (x / 2) = halfs (k + 1) y := by
 show _ = half1 (halfs k y)
 rw [← h]
 unfold half1 inR
 rw [xor_half, xor_low]
 rcases (show r % 2 = 0 ∨ r % 2 = 1 by omega) with h | h <;> rcases (show x % 2 = 0 ∨ x % 2 = 1 by omega) with k | k <;> rw [h, k] <;> simp only [Nat.xor_self, Nat.xor_zero, Nat.zero_xor, if_true, if_false, Nat.zero_ne_one, Nat.one_ne_zero]
 ·rw [Nat.xor_assoc, Nat.xor_assoc, Nat.xor_comm (x / 2)]
 ·rw [Nat.xor_assoc, Nat.xor_assoc, Nat.xor_comm (x / 2)]
theorem inR_lt {r b : Nat} (h : r < 4294967296) : inR r b < 4294967296 := by
 unfold inR
 split
 ·omega
 ·exact Nat.xor_lt_two_pow (n := 32) (show r / 2 < 2 ^ 32 by omega) (by decide)
end Go.Proofs.YtbdonjenekhmdaaGreatDoor
namespace Go.Proofs.YtbdonjenekhmdaaGreatDoor
open Go.RowKit
set_option maxRecDepth 100000 in
theorem rin_any (r b : Nat) (w : World) (hr : r < 4294967296) (hb : b < 2) : Calls Tryz.prog 217 #[.int .u32 (r : Int), .int .u32 (b : Int)] w fun e w' => e = .returned (.int .u32 (inR r b : Nat)) ∧ w = w' := by
 have hx := u32_xor_nat (r / 2) 2197175160 (by omega) (by decide)
 rw [show ((r / 2 : Nat) : Int) = (r : Int) / 2 by omega] at hx
 obtain ⟨p, hp, hp2⟩ : ∃ p : Nat, r % 2 = p ∧ p < 2 := ⟨_, rfl, by omega⟩
 have e1 : (r : Int) % 2 = (p : Int) := by omega
 have e2 : (r : Int).tmod 2 = (p : Int) := by rw [Int.tmod_eq_emod_of_nonneg (by omega)]; exact e1
 have E2 := Lib.hid e2
 unfold inR
 rw [hp]
 by_cases h : p = b
 ·subst h
  rw [if_pos rfl]
  clear hp hx e2
  go_enter Tryz.func217, Tryz.ntmps217
  go_wp2
  go_ret
  exact ⟨ret_int (by omega), rfl⟩
 ·rw [if_neg h]
  have hne : ((p : Int) == (b : Int)) = false := by rw [beq_eq_false_iff_ne]; omega
  have HX := Lib.hid hx
  clear hp h hx e2
  go_enter Tryz.func217, Tryz.ntmps217
  go_wp2
  go_ret
  exact ⟨ret_int HX.out, rfl⟩
theorem u32_flip {r : Nat} (h : r < 4294967296) : ((r ^^^ ones : Nat) : Int) = 4294967295 - (r : Int) := by
 have e : r ^^^ ones = 2 ^ 32 - (r + 1) := by
  apply Nat.eq_of_testBit_eq
  intro i
  rw [Nat.testBit_two_pow_sub_succ (by omega), Nat.testBit_xor, show ones = 2 ^ 32 - 1 from rfl, Nat.testBit_two_pow_sub_one]
  by_cases hi : i < 32
  ·simp [hi]
  ·have : r.testBit i = false := Nat.testBit_lt_two_pow (Nat.lt_of_lt_of_le (show r < 2 ^ 32 by omega) (Nat.pow_le_pow_right (by decide) (by omega)))
   simp [hi, this]
 rw [e]
 omega
theorem runC_snoc2 (r : Nat) (l : List UInt8) (j : Nat) (h : j < l.length) : runC r (l.take (j + 1)) = stepC (runC r (l.take j)) l[j] := by
 rw [List.take_succ_eq_append_getElem h, runC_app]
 rfl
set_option maxRecDepth 100000 in
set_option maxHeartbeats 4000000 in
theorem rextend_any (a : Option Addr) (cap : Nat) (l : List UInt8) (w : World) (hs : SlB w a cap l) : Calls Tryz.prog 190 #[.int .u32 0, .slice a l.length cap] w fun e w' => e = .returned (.int .u32 (crcS l : Nat)) ∧ w = w' := by
 have hmx := hs.max
 have hle := hs.le
 unfold maxLen at hmx
 obtain ⟨z, hz⟩ : ∃ z, crcS l = z := ⟨_, rfl⟩
 rw [hz]
 have HZ := Lib.hid hz
 clear hz
 go_enter Tryz.func190, Tryz.ntmps190
 refine seqH (fun K HK => ?_)
 go_wp2
 refine HK.out _ _ ?_
 clear HK
 refine seqH (fun K HK => ?_)
 go_wp2
 refine HK.out _ _ ?_
 clear HK
 refine seqH (fun K HK => ?_)
 go_wp2_with fail
 go_loopw [6, 5, 7, 8] (fun i r _ _ wr => ∃ j : Nat, j ≤ l.length ∧ i = .int .i64 (j : Nat) ∧ r = .int .u32 (runC ones (l.take j) : Nat) ∧ wr = w) (fun i _ _ _ _ => l.length - (intOf i).toNat)
 case atStart => exact ⟨0, by omega, rfl, rfl, rfl⟩
 case round =>
  obtain ⟨j, hj, rfl, rfl, rfl⟩ := hrel
  have hlt0 := runC_lt (l.take j) (r := ones) (by decide)
  by_cases hlt : j < l.length
  case neg =>
   obtain rfl : j = l.length := by omega
   rw [List.take_length] at hlt0 ⊢
   have hfl := u32_flip hlt0
   have hcr : z = runC ones l ^^^ ones := by rw [← HZ.out]; rfl
   subst hcr
   have HFL := Lib.hid hfl
   clear hfl HZ
   generalize runC ones l = r at *
   go_wp2
   refine HK.out _ _ ?_
   clear HK
   go_wp2
   go_ret
   exact ⟨ret_int (by rw [HFL.out]), rfl⟩
  case pos =>
   obtain ⟨b, off, rfl, hc⟩ := hs.row.byte hlt
   have hsn := Lib.hid (runC_snoc2 ones l j hlt)
   generalize l[j] = x at *
   have hx := x.toNat_lt
   generalize runC ones (l.take j) = r at *
   refine seqH (fun K HK => ?_)
   go_wp2
   refine HK.out _ _ ?_
   clear HK
   refine wp_seq_k (fun K2 hK2 => ?_)
   have HK2 := Lib.hid hK2
   clear hK2
   refine wp_block ?_
   refine seqH (fun K HK => ?_)
   go_wp2
   refine HK.out _ _ ?_
   clear HK
   refine seqH (fun K HK => ?_)
   go_wp2
   refine HK.out _ _ ?_
   clear HK
   go_wp2_with fail
   go_loopw [8, 5, 7] (fun i rr xx wq => ∃ k rk xk : Nat, k ≤ 8 ∧ i = .int .i64 (k : Nat) ∧ rr = .int .u32 (rk : Nat) ∧ xx = .int .u32 (xk : Nat) ∧ rk < 4294967296 ∧ xk < 256 ∧ Hid (xk < 2 ^ (8 - k)) ∧ Hid (rk ^^^ xk = halfs k (r ^^^ x.toNat)) ∧ wq = wr) (fun i _ _ _ => 8 - (intOf i).toNat)
   case atStart => exact ⟨0, r, x.toNat, by omega, rfl, rfl, rfl, hlt0, by omega, Lib.hid (by simpa using hx), Lib.hid rfl, rfl⟩
   case round =>
    obtain ⟨k, rk, xk, hk, rfl, rfl, rfl, hrk, hxk, hxp, hst, rfl⟩ := hrel
    by_cases hk8 : k < 8
    case pos =>
     have hin := rin_any rk (xk % 2) wr hrk (by omega)
     have hst2 := Lib.hid (inR_step hst.out)
     have hlt2 := inR_lt (b := xk % 2) hrk
     have hxp2 := Lib.hid (show xk / 2 < 2 ^ (8 - (k + 1)) by
      have h1 := hxp.out
      rw [show 8 - k = 8 - (k + 1) + 1 by omega, Nat.pow_succ] at h1
      omega)
     obtain ⟨p, hp, hp2⟩ : ∃ p : Nat, xk % 2 = p ∧ p < 2 := ⟨_, rfl, by omega⟩
     rw [hp] at hin hst2 hlt2
     have e1 : (xk : Int) % 2 = (p : Int) := by omega
     have e2 : (xk : Int).tmod 2 = (p : Int) := by rw [Int.tmod_eq_emod_of_nonneg (by omega)]; exact e1
     clear hp hst hxp
     generalize inR rk p = r2 at *
     go_wp2_with (go_at_call 217; refine hin.mono ?_; rintro e w3 ⟨rfl, rfl⟩)
     go_roundw
     case rel => exact ⟨k + 1, r2, xk / 2, by omega, by go_num, rfl, by first | rfl | (exact int_eq (by omega)), hlt2, by omega, hxp2, hst2, by first | trivial | rfl⟩
     case measure => simp [intOf]; omega
    case neg =>
     obtain rfl : k = 8 := by omega
     have hx0 : xk = 0 := by have := hxp.out; simpa using this
     subst hx0
     have hfin := Lib.hid (show rk = runC ones (l.take (j + 1)) by
      rw [hsn.out, ← halfs_8, ← hst.out, Nat.xor_zero])
     clear hxp hst
     go_wp2
     (try simp only [Exit.inBlock, Exit.then])
     refine HK2.out _ _ ?_
     clear HK2
     go_wp2
     go_roundw
     case rel => exact ⟨j + 1, by omega, by go_num, by rw [hfin.out], by first | trivial | rfl⟩
     case measure => simp [intOf]; omega
set_option maxRecDepth 100000 in
theorem rsum_any (a : Option Addr) (cap : Nat) (l : List UInt8) (w : World) (hs : SlB w a cap l) : Calls Tryz.prog 138 #[.slice a l.length cap] w fun e w' => e = .returned (.int .u32 (crcS l : Nat)) ∧ w = w' := by
 go_enter Tryz.func138, Tryz.ntmps138
 go_wp2_with (go_at_call 190; refine (rextend_any a cap l _ hs).mono ?_; rintro e w1 ⟨rfl, rfl⟩)
 go_ret
 exact ⟨rfl, rfl⟩
end Go.Proofs.YtbdonjenekhmdaaGreatDoor
namespace Go.Proofs.YtbdonjenekhmdaaGreatDoor
open Go.RowKit
def widthB (k : Int) : Bool := k == 1 || k == 2 || k == 4 || k == 6
theorem width_any (k : Int) (w : World) : Calls Tryz.prog 105 #[.int .i64 k] w fun e w' => e = .returned (.bool (widthB k)) ∧ w = w' := by
 by_cases h : k = 1 ∨ k = 2 ∨ k = 4 ∨ k = 6
 ·rcases h with rfl | rfl | rfl | rfl
  all_goals
   go_enter Tryz.func105, Tryz.ntmps105
   go_wp2
   go_ret
   exact ⟨rfl, rfl⟩
 ·have h1 : (k == 1) = false := by rw [beq_eq_false_iff_ne]; omega
  have h2 : (k == 2) = false := by rw [beq_eq_false_iff_ne]; omega
  have h3 : (k == 4) = false := by rw [beq_eq_false_iff_ne]; omega
  have h4 : (k == 6) = false := by rw [beq_eq_false_iff_ne]; omega
  go_enter Tryz.func105, Tryz.ntmps105
  go_wp2
  go_ret
  exact ⟨ret_bool (by simp [widthB, h1, h2, h3, h4]), rfl⟩
theorem widthB_many (k : Int) : widthB k = !(manyI k == 0) := by
 unfold widthB manyI
 by_cases h1 : k = 1; · subst h1; rfl
 by_cases h2 : k = 2; · subst h2; rfl
 by_cases h3 : k = 4; · subst h3; rfl
 by_cases h4 : k = 6; · subst h4; rfl
 simp [h1, h2, h3, h4]
theorem fits_pow {kk nn : Nat} (hk : kk = 1 ∨ kk = 2 ∨ kk = 4 ∨ kk = 6) : fitsB kk nn = (((nn / 256 ^ kk : Nat) : Int) == 0) := by
 have h : (((nn / 256 ^ kk : Nat) : Int) == 0) = decide (nn < 256 ^ kk) := by
  rw [Bool.eq_iff_iff]
  simp only [beq_iff_eq, decide_eq_true_eq]
  rw [show (((nn / 256 ^ kk : Nat) : Int) = 0 ↔ nn / 256 ^ kk = 0) from by omega, Nat.div_eq_zero_iff]
  constructor
  ·rintro (h | h)
   ·have := Nat.pow_pos (n := kk) (show 0 < 256 by omega)
    omega
   ·exact h
  ·intro h; exact .inr h
 rw [h]
 unfold fitsB manyI
 rcases hk with rfl | rfl | rfl | rfl
 all_goals
  rw [Bool.eq_iff_iff]
  simp
  try omega
set_option maxHeartbeats 4000000 in
theorem rfits_any (k n : Int) (w : World) (hn : n ≤ 9223372036854775807) : Calls Tryz.prog 122 #[.int .i64 k, .int .i64 n] w fun e w' => e = .returned (.bool (fitsB k n)) ∧ w = w' := by
 by_cases hk : k = 1 ∨ k = 2 ∨ k = 4 ∨ k = 6
 ·have hw : widthB k = true := by rcases hk with rfl | rfl | rfl | rfl <;> rfl
  have HW := Lib.hid hw
  clear hw
  by_cases h0 : 0 ≤ n
  ·obtain ⟨kk, rfl⟩ : ∃ kk : Nat, k = kk := ⟨k.toNat, by omega⟩
   obtain ⟨nn, rfl⟩ : ∃ nn : Nat, n = nn := ⟨n.toNat, by omega⟩
   have hk6 : kk ≤ 6 := by omega
   rw [fits_pow (show kk = 1 ∨ kk = 2 ∨ kk = 4 ∨ kk = 6 by omega)]
   go_enter Tryz.func122, Tryz.ntmps122
   refine seqH (fun K HK => ?_)
   go_wp2
   refine HK.out _ _ ?_
   clear HK
   refine seqH (fun K HK => ?_)
   go_wp2_with (go_at_call 105; refine (width_any _ _).mono ?_; rintro e w' ⟨rfl, rfl⟩; rw [HW.out])
   refine HK.out _ _ ?_
   clear HK
   refine wp_seq_k (fun K hK => ?_)
   go_cut [1] (fun n wx => n = .int .i64 ((nn / 256 ^ kk : Nat) : Int) ∧ wx = w)
   case first =>
    go_wp2_with fail
    go_loopw [1, 5] (fun n i wr => ∃ j : Nat, j ≤ kk ∧ i = .int .i64 j ∧ n = .int .i64 ((nn / 256 ^ j : Nat) : Int) ∧ wr = w) (fun _ i _ => kk - (intOf i).toNat)
    case atStart => exact ⟨0, by omega, rfl, by simp, rfl⟩
    case round =>
     obtain ⟨j, hj, rfl, rfl, rfl⟩ := hrel
     have hq : nn / 256 ^ (j + 1) = nn / 256 ^ j / 256 := by rw [Nat.pow_succ, Nat.div_div_eq_div_mul]
     have hqn : nn / 256 ^ j ≤ nn := Nat.div_le_self _ _
     by_cases hlt : j < kk
     ·generalize nn / 256 ^ j = q at *
      have HQ := Lib.hid hq
      clear hq
      go_wp2
      refine ⟨⟨j + 1, by omega, by go_num, ?_, by first | trivial | rfl⟩, by simp [intOf]; omega⟩
      rw [HQ.out]
      exact int_eq (by omega)
     ·obtain rfl : j = kk := by omega
      clear hq
      generalize nn / 256 ^ j = q at *
      go_wp2
      go_meet
      exact ⟨rfl, by first | trivial | rfl⟩
   obtain ⟨rfl, rfl⟩ := hcut
   refine hK _ _ ?_; clear hK
   generalize nn / 256 ^ kk = q at *
   go_wp2
   go_ret
   exact ⟨rfl, rfl⟩
  ·go_enter Tryz.func122, Tryz.ntmps122
   go_wp2_with (go_at_call 105; refine (width_any _ _).mono ?_; rintro e w' ⟨rfl, rfl⟩; rw [HW.out])
   go_ret
   exact ⟨ret_bool (by unfold fitsB; rw [decide_eq_false (by omega)]; rfl), rfl⟩
 ·have hm : manyI k = 0 := by unfold manyI; rw [if_neg (by omega), if_neg (by omega), if_neg (by omega), if_neg (by omega)]
  have hw : widthB k = false := by rw [widthB_many, hm]; rfl
  have HW := Lib.hid hw
  have hf : fitsB k n = false := by unfold fitsB; rw [hm]; simp
  have HF := Lib.hid hf
  clear hw hm hf
  go_enter Tryz.func122, Tryz.ntmps122
  go_wp2_with (go_at_call 105; refine (width_any _ _).mono ?_; rintro e w' ⟨rfl, rfl⟩; rw [HW.out])
  go_ret
  exact ⟨ret_bool HF.out.symm, rfl⟩
end Go.Proofs.YtbdonjenekhmdaaGreatDoor
