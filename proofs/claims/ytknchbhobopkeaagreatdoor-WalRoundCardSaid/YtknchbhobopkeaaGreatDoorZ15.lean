/- Texts that the claim leans on, part 15: V2, V6, V7, V8, Rng, Rng2, Rng4, V11. -/
import Derived.Test.YtknchbhobopkeaaGreatDoorZ1
import Derived.Test.YtknchbhobopkeaaGreatDoorZ2
import Derived.Test.YtknchbhobopkeaaGreatDoorZ3
import Derived.Test.YtknchbhobopkeaaGreatDoorZ4
import Derived.Test.YtknchbhobopkeaaGreatDoorZ5
import Derived.Test.YtknchbhobopkeaaGreatDoorZ6
import Derived.Test.YtknchbhobopkeaaGreatDoorZ7
import Derived.Test.YtknchbhobopkeaaGreatDoorZ8
import Derived.Test.YtknchbhobopkeaaGreatDoorZ9
import Derived.Test.YtknchbhobopkeaaGreatDoorZ10
import Derived.Test.YtknchbhobopkeaaGreatDoorZ11
import Derived.Test.YtknchbhobopkeaaGreatDoorZ12
import Derived.Test.YtknchbhobopkeaaGreatDoorZ13
import Derived.Test.YtknchbhobopkeaaGreatDoorZ14
import Derived.Test.YtknchbhobopkeaaGreatDoorRows
import Derived.WalkKit
import Derived.WalkSpells
import Derived.WalkLawsBesides
import Derived.Handy
import Derived.Deep.QuietTactic
import Derived.BigQuiet
import Derived.Deep.DeepCutAuto
import Derived.Lib.Hide
import Derived.RegionTactic
import Derived.ChangeAlike
import Derived.Laws.ResultCell
import Derived.Outline
import Derived.IntWalk
import Derived.RangeFuncNested
import Derived.RangeFuncBound
import Derived.RangeFuncCalls
import Derived.RangeFuncLeaves
import Derived.RangeFuncBox
import Derived.RangeFuncRecord
import Derived.Shelf.Abstract
import Derived.Shelf.RegionOpen
import Derived.OwnWalkIn
import Derived.TacticsInMore
import Derived.LoopNIn
import Derived.LoopIn
import Derived.Laws.IdiomStrings
import Derived.Laws.BytesArg
import Derived.Laws.MakeOwn
import Derived.Lib.SliceRun
import Derived.Laws.BitsAllLaws
import Derived.Great.BuildSlice
import Derived.Great.FillDense
import Derived.Laws.Rows
import Derived.Deep.Quiet
import Derived.Deep.RegionHeld3
import Derived.Lib.AppendStr
import Derived.ProofKit
import Derived.OpenShut
import Derived.Laws.Strings
import Derived.Laws.CopyOwn
import Derived.Laws.CopyRow
import Derived.Laws.NewBlocks
import Derived.Deep.RegionLaw
namespace Go.Proofs.YtknchbhobopkeaaGreatDoor
open Go.RowKit
section
variable {B g gp q : Nat} {wv : Value} {d : Dk} {w : World} {s : Lg}
set_option maxRecDepth 100000 in
set_option maxHeartbeats 1000000 in
theorem frame1_any (h : LgB w q g s) (hd : DiskB B g gp wv d w) (p : Int) (hp : 0 ≤ p ∧ p < 24) : Calls Tryz.prog 80 #[.pointer (some ⟨q, 0, none⟩), .int .i64 3, .int .i64 p] w fun e w' => FrRes w.heap.size (fr1 d s.rep 3 p) e w' ∧ Below w.heap.size w w' := by
  have hf := first3 hp
  unfold fr1
  obtain ⟨f, hff⟩ : ∃ f, firstN 3 p = f := ⟨_, rfl⟩
  rw [hff] at hf ⊢
  obtain ⟨r, hr⟩ : ∃ r, (if (readD d f).2 ≠ 0 then ((2 : Nat), zeroTg, ([] : List UInt8)) else mineF (preW d f 1) s.rep 3 p) = r := ⟨_, rfl⟩
  rw [hr]
  have HR := Lib.hid hr
  clear hr
  have hfb : 0 ≤ f ∧ f < 200 := by omega
  have HF := Lib.hid hff
  clear hf hff
  go_enter Tryz.func80, Tryz.ntmps80
  refine wp_seq_k (fun K hK => ?_)
  have HK := Lib.hid hK
  clear hK
  go_wp2
  refine HK.out _ _ ?_
  clear HK
  have hbz := blw w (Obj.cells #[.int .i64 0, .int .i64 0, .int .i64 0, .int .i64 0, .int .i64 0] 108)
  have RZ := heap_alloc_new w (Obj.cells #[.int .i64 0, .int .i64 0, .int .i64 0, .int .i64 0, .int .i64 0] 108)
  generalize w.alloc (Obj.cells #[.int .i64 0, .int .i64 0, .int .i64 0, .int .i64 0, .int .i64 0] 108) = w0 at *
  refine wp_seq_k (fun K hK => ?_)
  have HK := Lib.hid hK
  clear hK
  go_wp2
  refine HK.out _ _ ?_
  clear HK
  refine wp_seq_k (fun K hK => ?_)
  have HK := Lib.hid hK
  clear hK
  go_wp2_with (go_at_call 49; refine (wide_any 3 _).mono ?_; rintro e w1 ⟨rfl, hb1⟩)
  rw [show wideN 3 = 1 from rfl]
  have hbz1 := hbz.trans (hb1.mono hbz.size)
  have RZ1 := tr_bl hb1 RZ
  clear hbz hb1 RZ
  go_loopw [15, 9] (fun i o wr => ∃ (j : Nat) (v : Value), j ≤ 1 ∧ i = .int .i64 (j : Nat) ∧ o = v ∧ (∀ t : Nat, t < j → (readD d (f + t)).2 = 0) ∧ wr.ownsRow (w.heap.size + 1) 5 1 v (preW d f j).length (bys (preW d f j)) ∧ Below w.heap.size w wr ∧ wr.heap[w.heap.size]? = some (.cells #[.int .i64 0, .int .i64 0, .int .i64 0, .int .i64 0, .int .i64 0] 108 (0, 0))) (fun i _ _ => 1 - (intOf i).toNat)
  case atStart => exact ⟨0, _, by omega, rfl, rfl, fun t ht => absurd ht (by omega), World.ownsRow_nil _ _ _ _, hbz1, RZ1⟩
  case' round =>
    clear hbz1 RZ1
    obtain ⟨j, v, hj, rfl, rfl, hall, hown, hbr, RB⟩ := hrel
  rcases (show j = 0 ∨ j = 1 by omega) with rfl | rfl
  · skip
    have hrd := fun w' (h' : DiskB B g gp wv d w') => read_slb h' (f)
    obtain ⟨bs, re, hbs⟩ : ∃ bs re, readD d (f) = (bs, re) := ⟨_, _, rfl⟩
    have hrl := read_len hd (f)
    rw [hbs] at hrl
    simp only [hbs] at hrd
    simp only at hrl
    have HBS := Lib.hid hbs
    clear hbs
    have hdr := hd.below hbr
    have hsr := h.below hbr
    have hpl : (preW d f 0).length = 64 * 0 := rfl
    have HPL := Lib.hid hpl
    have HPS := Lib.hid (show preW d f (0 + 1) = preW d f 0 ++ (readD d (f)).1 from rfl)
    clear hpl
    generalize preW d f 0 = pr at *
    refine wp_seq_k (fun K hK => ?_)
    have HK := Lib.hid hK
    clear hK
    go_wp2
    refine HK.out _ _ ?_
    clear HK
    refine wp_seq_k (fun K hK => ?_)
    have HK := Lib.hid hK
    clear hK
    go_wp2
    refine HK.out _ _ ?_
    clear HK
    refine wp_seq_k (fun K hK => ?_)
    have HK2 := Lib.hid hK
    clear hK
    refine wp_block ?_
    refine wp_seq_k (fun K hK => ?_)
    have HK := Lib.hid hK
    clear hK
    go_wp2
    refine HK.out _ _ ?_
    clear HK
    refine wp_seq_k (fun K hK => ?_)
    have HK3 := Lib.hid hK
    clear hK
    go_wp2_with fail
    have hbd := (Below.refl wr.heap.size wr).drew
    have D1 := hdr.below hbd
    have S1 := hsr.below hbd
    have R1 := tr_bl hbd RB
    have hb1 := hbr.trans (hbd.mono hbr.size)
    have o1 := owns_bl hown hbd
    refine wp_region_held_drew (S := fun w' => LgB w' q g s) (by kernel_rfl) S1 (fun hS0 => ?_)
    clear hbd hdr hsr hown hbr RB
    generalize wr.drew = x0 at *
    refine wpAnyH_take (i := 0) (oi := ⟨_, _, _, _, _, _⟩) (v := ?_) rfl (by kernel_rfl) (by kernel_rfl) (by kernel_rfl) (fun _ _ _ h => h) (Or.inl ⟨by rfl, ?_⟩) (by assumption) ?_
    rotate_left
    · intro wS hSw; go_simp; (try with_reducible rfl)
    (try simp only [Act.put]); (try simp only [List.setIfInBounds_toArray]); (try simp only [List.set_cons_succ]); (try simp only [List.set_cons_zero])
    refine wpAnyH_take (i := 1) (oi := ⟨_, _, _, _, _, _⟩) (v := ?_) rfl (by kernel_rfl) (by kernel_rfl) (by kernel_rfl) (fun _ _ _ h => h) (Or.inl ⟨by rfl, ?_⟩) (by assumption) ?_
    rotate_left
    · intro wS hSw; go_simp; (try with_reducible rfl)
    (try simp only [Act.put]); (try simp only [List.setIfInBounds_toArray]); (try simp only [List.set_cons_succ]); (try simp only [List.set_cons_zero])
    refine wpAnyH_take (i := 2) (oi := ⟨_, _, _, _, _, _⟩) (v := ?_) rfl (by kernel_rfl) (by kernel_rfl) (by kernel_rfl) (fun _ _ _ h => h) (Or.inl ⟨by rfl, ?_⟩) (by assumption) ?_
    rotate_left
    · intro wS hSw; go_simp; (try with_reducible rfl)
    (try simp only [Act.put]); (try simp only [List.setIfInBounds_toArray]); (try simp only [List.set_cons_succ]); (try simp only [List.set_cons_zero])
    refine wpAnyH_take (i := 3) (oi := ⟨_, _, _, _, _, _⟩) (v := ?_) rfl (by kernel_rfl) (by kernel_rfl) (by kernel_rfl) (fun _ _ _ h => h) (Or.inl ⟨by rfl, ?_⟩) (by assumption) ?_
    rotate_left
    · intro wS hSw
      have c := hSw.c0; go_simp; (try with_reducible rfl)
    (try simp only [Act.put]); (try simp only [List.setIfInBounds_toArray]); (try simp only [List.set_cons_succ]); (try simp only [List.set_cons_zero])
    refine wpAnyH_take (i := 4) (oi := ⟨_, _, _, _, _, _⟩) (v := ?_) rfl (by kernel_rfl) (by kernel_rfl) (by kernel_rfl) (fun _ _ _ h => h) (Or.inl ⟨by rfl, ?_⟩) (by assumption) ?_
    rotate_left
    · intro wS hSw; go_simp; (try with_reducible rfl)
    (try simp only [Act.put]); (try simp only [List.setIfInBounds_toArray]); (try simp only [List.set_cons_succ]); (try simp only [List.set_cons_zero])
    refine wpAnyH_take (i := 5) (oi := ⟨_, _, _, _, _, _⟩) (v := ?_) rfl (by kernel_rfl) (by kernel_rfl) (by kernel_rfl) (fun _ _ _ h => h) (Or.inl ⟨by rfl, ?_⟩) (by assumption) ?_
    rotate_left
    · intro wS hSw; go_simp; (try with_reducible rfl)
    (try simp only [Act.put]); (try simp only [List.setIfInBounds_toArray]); (try simp only [List.set_cons_succ]); (try simp only [List.set_cons_zero])
    refine wpAnyH_take (i := 7) (oi := ⟨_, _, _, _, _, _⟩) (v := ?_) rfl (by kernel_rfl) (by kernel_rfl) (by kernel_rfl) (fun _ _ _ h => h) (Or.inl ⟨by rfl, ?_⟩) (by assumption) ?_
    rotate_left
    · intro wS hSw; go_simp; (try with_reducible rfl)
    (try simp only [Act.put]); (try simp only [List.setIfInBounds_toArray]); (try simp only [List.set_cons_succ]); (try simp only [List.set_cons_zero])
    refine wpAnyH_ready (rs := [6]) (by kernel_rfl) (by simp) ?_
    refine AllReadyH.cons (o := ⟨_, _, _, _, _, _⟩) rfl (fun K' hK' => ?_) AllReadyH.nil
    refine (if_pos (by rfl)).mpr ?_
    go_simp
    refine (first_any 3 p _).mono ?_
    rintro e w2 ⟨rfl, hb2⟩
    rw [HF.out]
    have D2 := D1.below hb2
    have S2 := S1.below hb2
    have R2 := tr_bl hb2 R1
    have o2 := owns_bl o1 hb2
    have hb3 := hb1.trans (hb2.mono hb1.size)
    refine hK'.out _ _ S2 (fun _ => ?_)
    clear hK' D1 S1 R1 o1 hb1 hb2 hS0
    (try simp only [Act.put]); (try simp only [List.setIfInBounds_toArray]); (try simp only [List.set_cons_succ]); (try simp only [List.set_cons_zero])
    refine wpAnyH_take (i := 8) (oi := ⟨_, _, _, _, _, _⟩) (v := .int .i64 (f)) rfl (by kernel_rfl) (by kernel_rfl) (by kernel_rfl) (fun _ _ _ h => h) (Or.inl ⟨by rfl, fun wS hSw => ?_⟩) (by assumption) ?_
    · go_simp; (try rw [IntWalk.i64_in _ (by omega)])
    (try simp only [Act.put]); (try simp only [List.setIfInBounds_toArray]); (try simp only [List.set_cons_succ]); (try simp only [List.set_cons_zero])
    refine wpAnyH_ready (rs := [9]) (by kernel_rfl) (by simp) ?_
    refine AllReadyH.cons (o := ⟨_, _, _, _, _, _⟩) rfl (fun K' hK' => ?_) AllReadyH.nil
    refine (if_pos (by rfl)).mpr ?_
    go_simp
    refine (hrd _ D2).mono ?_
    rintro e w4 ⟨⟨a4, c4, rfl, s4⟩, hb4⟩
    have S4 := S2.below hb4
    have R4 := tr_bl hb4 R2
    have o4 := owns_bl o2 hb4
    have hb5 := hb3.trans (hb4.mono hb3.size)
    refine hK'.out _ _ S4 (fun _ => ?_)
    clear hK' D2 S2 R2 o2 hb3 hb4 hrd
    (try simp only [Act.put]); (try simp only [List.setIfInBounds_toArray]); (try simp only [List.set_cons_succ]); (try simp only [List.set_cons_zero])
    refine wpAnyH_take (i := 10) (oi := ⟨_, _, _, _, _, _⟩) (v := ?_) rfl (by kernel_rfl) (by kernel_rfl) (by kernel_rfl) (fun _ _ _ h => h) (Or.inl ⟨by rfl, ?_⟩) (by assumption) ?_
    rotate_left
    · intro wS hSw; go_simp; (try with_reducible rfl)
    (try simp only [Act.put]); (try simp only [List.setIfInBounds_toArray]); (try simp only [List.set_cons_succ]); (try simp only [List.set_cons_zero])
    refine wpAnyH_take (i := 11) (oi := ⟨_, _, _, _, _, _⟩) (v := ?_) rfl (by kernel_rfl) (by kernel_rfl) (by kernel_rfl) (fun _ _ _ h => h) (Or.inl ⟨by rfl, ?_⟩) (by assumption) ?_
    rotate_left
    · intro wS hSw; go_simp; (try with_reducible rfl)
    (try simp only [Act.put]); (try simp only [List.setIfInBounds_toArray]); (try simp only [List.set_cons_succ]); (try simp only [List.set_cons_zero])
    refine wpAnyH_take (i := 12) (oi := ⟨_, _, _, _, _, _⟩) (v := ?_) rfl (by kernel_rfl) (by kernel_rfl) (by kernel_rfl) (fun _ _ _ h => h) (Or.inl ⟨by rfl, ?_⟩) (by assumption) ?_
    rotate_left
    · intro wS hSw; go_simp; (try with_reducible rfl)
    (try simp only [Act.put]); (try simp only [List.setIfInBounds_toArray]); (try simp only [List.set_cons_succ]); (try simp only [List.set_cons_zero])
    refine wpAnyH_take (i := 13) (oi := ⟨_, _, _, _, _, _⟩) (v := ?_) rfl (by kernel_rfl) (by kernel_rfl) (by kernel_rfl) (fun _ _ _ h => h) (Or.inl ⟨by rfl, ?_⟩) (by assumption) ?_
    rotate_left
    · intro wS hSw; go_simp; (try with_reducible rfl)
    (try simp only [Act.put]); (try simp only [List.setIfInBounds_toArray]); (try simp only [List.set_cons_succ]); (try simp only [List.set_cons_zero])
    refine wpAnyH_take (i := 14) (oi := ⟨_, _, _, _, _, _⟩) (v := ?_) rfl (by kernel_rfl) (by kernel_rfl) (by kernel_rfl) (fun _ _ _ h => h) (Or.inl ⟨by rfl, ?_⟩) (by assumption) ?_
    rotate_left
    · intro wS hSw; go_simp; (try with_reducible rfl)
    (try simp only [Act.put]); (try simp only [List.setIfInBounds_toArray]); (try simp only [List.set_cons_succ]); (try simp only [List.set_cons_zero])
    refine wpAnyH_done (by kernel_rfl) ?_ _
    refine HK3.out _ _ ?_
    clear HK3
    by_cases h0 : re = 0
    · subst h0
      have HBL := Lib.hid (hrl.1 rfl)
      clear hrl
      refine wp_seq_k (fun K hK => ?_)
      have HK := Lib.hid hK
      clear hK
      go_wp2
      refine HK.out _ _ ?_
      clear HK
      go_wp2_with (at_builtin; refine wpList_append_row rfl _ _ 75 5 elByte rfl (w.heap.size + 1) _ pr.length (bys pr) rfl o4 a4 bs.length c4 (bys bs) rfl (by rw [bys_len]; omega) s4.row bys_one (by have := HPL.out; have := HBL.out; omega) (by decide) (lt_blk R4) ?_; intro v6 w6 ho6 hb6)
      (try simp only [Exit.inBlock, Exit.then])
      refine HK2.out _ _ ?_
      clear HK2
      go_wp2
      go_roundw
      case rel =>
        refine ⟨0 + 1, _, by omega, by rfl, rfl, fun t ht => ?_, ?_, hb5.trans (hb6.mono (by omega)), (hb6.block _ (by omega)).trans R4⟩
        · by_cases htj : t < 0
          · exact hall t htj
          · obtain rfl : t = 0 := by omega
            rw [show f + ((0 : Nat) : Int) = f by omega, HBS.out]
        · rw [HPS.out, HBS.out, List.length_append, bys_app]
          exact ho6
      case measure => simp [intOf]
    · have hn : (re != 0) = true := by rw [bne_iff_ne]; exact h0
      have hr0 : r = (2, zeroTg, []) := by
        rw [← HR.out, if_pos]
        (rw [HBS.out]; exact h0)
      clear HK HR HPS
      subst hr0
      go_wp2_with ((with_reducible refine wpList_stB 108 _ _ ?_); refine ⟨_, _, _, ⟨_, _, _, Tryz.sizeOf108, rfl, R4, st5 _ rfl 0 0 0 0 0⟩, ?_⟩; intro w8 B8 g8)
      refine bodyPost_ret (results_t1c1t1 rfl rfl (run_loadVar_all Tryz.isAgg108 Tryz.sizeOf108 B8 rfl)) rfl ⟨FrRes.none rfl, bl_st hb5 g8 hb5.size (by omega)⟩
  · have hr0 := hall 0 (by omega)
    rw [show f + ((0 : Nat) : Int) = f by omega] at hr0
    skip
    have hlen : (preW d f 1).length = 64 * 1 := (read_len hd f).1 hr0
    clear hall
    generalize preW d f 1 = b at *
    obtain ⟨a2, c2, rfl, s2⟩ := SlB.of_owns hown
    have hmi := mine_any a2 c2 b s.rep 3 p wr s2 (by omega)
    have hml := mine_len3 b s.rep 3 p
    obtain ⟨st, tg, body, hmm⟩ : ∃ st tg body, mineF b s.rep 3 p = (st, tg, body) := ⟨_, _, _, rfl⟩
    have hrr := HR.out
    rw [if_neg (by simp [hr0]), hmm] at hrr
    rw [hmm] at hmi
    have c1 := (h.below hbr).c1
    clear hmm hown hlen HR hml
    generalize hbn : b.length = bn at *
    clear hbn
    subst hrr
    go_wp2
    refine HK.out _ _ ?_
    clear HK
    go_wp2_with (first
      | (go_at_call 52; refine hmi.mono ?_; rintro e w2 ⟨⟨a3, c3, rfl, hO⟩, hb2⟩; have R2 := tr_bl hb2 RB)
      | ((with_reducible refine wpList_stB 108 _ _ ?_); refine ⟨_, _, _, ⟨_, _, _, Tryz.sizeOf108, rfl, R2, st5 _ rfl tg.rep tg.reg tg.pla tg.idx tg.inc⟩, ?_⟩; intro w8 B8 g8))
    have hb3 := hbr.trans (hb2.mono hbr.size)
    refine bodyPost_ret (results_t1c1t1 rfl rfl (run_loadVar_all Tryz.isAgg108 Tryz.sizeOf108 B8 rfl)) rfl ⟨⟨a3, c3, rfl, (hO.mono hbr.size).st g8 R2 (by decide)⟩, bl_st hb3 g8 hb3.size (Nat.le_refl _)⟩
set_option maxRecDepth 100000 in
set_option maxHeartbeats 1000000 in
theorem frame2_any (h : LgB w q g s) (hd : DiskB B g gp wv d w) (p : Int) (hp : 0 ≤ p ∧ p < 48) : Calls Tryz.prog 80 #[.pointer (some ⟨q, 0, none⟩), .int .i64 4, .int .i64 p] w fun e w' => FrRes w.heap.size (fr2 d s.rep 4 p) e w' ∧ Below w.heap.size w w' := by
  have hf := first4 hp
  unfold fr2
  obtain ⟨f, hff⟩ : ∃ f, firstN 4 p = f := ⟨_, rfl⟩
  rw [hff] at hf ⊢
  obtain ⟨r, hr⟩ : ∃ r, (if (readD d f).2 ≠ 0 ∨ (readD d (f + 1)).2 ≠ 0 then ((2 : Nat), zeroTg, ([] : List UInt8)) else mineF (preW d f 2) s.rep 4 p) = r := ⟨_, rfl⟩
  rw [hr]
  have HR := Lib.hid hr
  clear hr
  have hfb : 0 ≤ f ∧ f < 200 := by omega
  have HF := Lib.hid hff
  clear hf hff
  go_enter Tryz.func80, Tryz.ntmps80
  refine wp_seq_k (fun K hK => ?_)
  have HK := Lib.hid hK
  clear hK
  go_wp2
  refine HK.out _ _ ?_
  clear HK
  have hbz := blw w (Obj.cells #[.int .i64 0, .int .i64 0, .int .i64 0, .int .i64 0, .int .i64 0] 108)
  have RZ := heap_alloc_new w (Obj.cells #[.int .i64 0, .int .i64 0, .int .i64 0, .int .i64 0, .int .i64 0] 108)
  generalize w.alloc (Obj.cells #[.int .i64 0, .int .i64 0, .int .i64 0, .int .i64 0, .int .i64 0] 108) = w0 at *
  refine wp_seq_k (fun K hK => ?_)
  have HK := Lib.hid hK
  clear hK
  go_wp2
  refine HK.out _ _ ?_
  clear HK
  refine wp_seq_k (fun K hK => ?_)
  have HK := Lib.hid hK
  clear hK
  go_wp2_with (go_at_call 49; refine (wide_any 4 _).mono ?_; rintro e w1 ⟨rfl, hb1⟩)
  rw [show wideN 4 = 2 from rfl]
  have hbz1 := hbz.trans (hb1.mono hbz.size)
  have RZ1 := tr_bl hb1 RZ
  clear hbz hb1 RZ
  go_loopw [15, 9] (fun i o wr => ∃ (j : Nat) (v : Value), j ≤ 2 ∧ i = .int .i64 (j : Nat) ∧ o = v ∧ (∀ t : Nat, t < j → (readD d (f + t)).2 = 0) ∧ wr.ownsRow (w.heap.size + 1) 5 1 v (preW d f j).length (bys (preW d f j)) ∧ Below w.heap.size w wr ∧ wr.heap[w.heap.size]? = some (.cells #[.int .i64 0, .int .i64 0, .int .i64 0, .int .i64 0, .int .i64 0] 108 (0, 0))) (fun i _ _ => 2 - (intOf i).toNat)
  case atStart => exact ⟨0, _, by omega, rfl, rfl, fun t ht => absurd ht (by omega), World.ownsRow_nil _ _ _ _, hbz1, RZ1⟩
  case' round =>
    clear hbz1 RZ1
    obtain ⟨j, v, hj, rfl, rfl, hall, hown, hbr, RB⟩ := hrel
  rcases (show j = 0 ∨ j = 1 ∨ j = 2 by omega) with rfl | rfl | rfl
  · skip
    have hrd := fun w' (h' : DiskB B g gp wv d w') => read_slb h' (f)
    obtain ⟨bs, re, hbs⟩ : ∃ bs re, readD d (f) = (bs, re) := ⟨_, _, rfl⟩
    have hrl := read_len hd (f)
    rw [hbs] at hrl
    simp only [hbs] at hrd
    simp only at hrl
    have HBS := Lib.hid hbs
    clear hbs
    have hdr := hd.below hbr
    have hsr := h.below hbr
    have hpl : (preW d f 0).length = 64 * 0 := rfl
    have HPL := Lib.hid hpl
    have HPS := Lib.hid (show preW d f (0 + 1) = preW d f 0 ++ (readD d (f)).1 from rfl)
    clear hpl
    generalize preW d f 0 = pr at *
    refine wp_seq_k (fun K hK => ?_)
    have HK := Lib.hid hK
    clear hK
    go_wp2
    refine HK.out _ _ ?_
    clear HK
    refine wp_seq_k (fun K hK => ?_)
    have HK := Lib.hid hK
    clear hK
    go_wp2
    refine HK.out _ _ ?_
    clear HK
    refine wp_seq_k (fun K hK => ?_)
    have HK2 := Lib.hid hK
    clear hK
    refine wp_block ?_
    refine wp_seq_k (fun K hK => ?_)
    have HK := Lib.hid hK
    clear hK
    go_wp2
    refine HK.out _ _ ?_
    clear HK
    refine wp_seq_k (fun K hK => ?_)
    have HK3 := Lib.hid hK
    clear hK
    go_wp2_with fail
    have hbd := (Below.refl wr.heap.size wr).drew
    have D1 := hdr.below hbd
    have S1 := hsr.below hbd
    have R1 := tr_bl hbd RB
    have hb1 := hbr.trans (hbd.mono hbr.size)
    have o1 := owns_bl hown hbd
    refine wp_region_held_drew (S := fun w' => LgB w' q g s) (by kernel_rfl) S1 (fun hS0 => ?_)
    clear hbd hdr hsr hown hbr RB
    generalize wr.drew = x0 at *
    refine wpAnyH_take (i := 0) (oi := ⟨_, _, _, _, _, _⟩) (v := ?_) rfl (by kernel_rfl) (by kernel_rfl) (by kernel_rfl) (fun _ _ _ h => h) (Or.inl ⟨by rfl, ?_⟩) (by assumption) ?_
    rotate_left
    · intro wS hSw; go_simp; (try with_reducible rfl)
    (try simp only [Act.put]); (try simp only [List.setIfInBounds_toArray]); (try simp only [List.set_cons_succ]); (try simp only [List.set_cons_zero])
    refine wpAnyH_take (i := 1) (oi := ⟨_, _, _, _, _, _⟩) (v := ?_) rfl (by kernel_rfl) (by kernel_rfl) (by kernel_rfl) (fun _ _ _ h => h) (Or.inl ⟨by rfl, ?_⟩) (by assumption) ?_
    rotate_left
    · intro wS hSw; go_simp; (try with_reducible rfl)
    (try simp only [Act.put]); (try simp only [List.setIfInBounds_toArray]); (try simp only [List.set_cons_succ]); (try simp only [List.set_cons_zero])
    refine wpAnyH_take (i := 2) (oi := ⟨_, _, _, _, _, _⟩) (v := ?_) rfl (by kernel_rfl) (by kernel_rfl) (by kernel_rfl) (fun _ _ _ h => h) (Or.inl ⟨by rfl, ?_⟩) (by assumption) ?_
    rotate_left
    · intro wS hSw; go_simp; (try with_reducible rfl)
    (try simp only [Act.put]); (try simp only [List.setIfInBounds_toArray]); (try simp only [List.set_cons_succ]); (try simp only [List.set_cons_zero])
    refine wpAnyH_take (i := 3) (oi := ⟨_, _, _, _, _, _⟩) (v := ?_) rfl (by kernel_rfl) (by kernel_rfl) (by kernel_rfl) (fun _ _ _ h => h) (Or.inl ⟨by rfl, ?_⟩) (by assumption) ?_
    rotate_left
    · intro wS hSw
      have c := hSw.c0; go_simp; (try with_reducible rfl)
    (try simp only [Act.put]); (try simp only [List.setIfInBounds_toArray]); (try simp only [List.set_cons_succ]); (try simp only [List.set_cons_zero])
    refine wpAnyH_take (i := 4) (oi := ⟨_, _, _, _, _, _⟩) (v := ?_) rfl (by kernel_rfl) (by kernel_rfl) (by kernel_rfl) (fun _ _ _ h => h) (Or.inl ⟨by rfl, ?_⟩) (by assumption) ?_
    rotate_left
    · intro wS hSw; go_simp; (try with_reducible rfl)
    (try simp only [Act.put]); (try simp only [List.setIfInBounds_toArray]); (try simp only [List.set_cons_succ]); (try simp only [List.set_cons_zero])
    refine wpAnyH_take (i := 5) (oi := ⟨_, _, _, _, _, _⟩) (v := ?_) rfl (by kernel_rfl) (by kernel_rfl) (by kernel_rfl) (fun _ _ _ h => h) (Or.inl ⟨by rfl, ?_⟩) (by assumption) ?_
    rotate_left
    · intro wS hSw; go_simp; (try with_reducible rfl)
    (try simp only [Act.put]); (try simp only [List.setIfInBounds_toArray]); (try simp only [List.set_cons_succ]); (try simp only [List.set_cons_zero])
    refine wpAnyH_take (i := 7) (oi := ⟨_, _, _, _, _, _⟩) (v := ?_) rfl (by kernel_rfl) (by kernel_rfl) (by kernel_rfl) (fun _ _ _ h => h) (Or.inl ⟨by rfl, ?_⟩) (by assumption) ?_
    rotate_left
    · intro wS hSw; go_simp; (try with_reducible rfl)
    (try simp only [Act.put]); (try simp only [List.setIfInBounds_toArray]); (try simp only [List.set_cons_succ]); (try simp only [List.set_cons_zero])
    refine wpAnyH_ready (rs := [6]) (by kernel_rfl) (by simp) ?_
    refine AllReadyH.cons (o := ⟨_, _, _, _, _, _⟩) rfl (fun K' hK' => ?_) AllReadyH.nil
    refine (if_pos (by rfl)).mpr ?_
    go_simp
    refine (first_any 4 p _).mono ?_
    rintro e w2 ⟨rfl, hb2⟩
    rw [HF.out]
    have D2 := D1.below hb2
    have S2 := S1.below hb2
    have R2 := tr_bl hb2 R1
    have o2 := owns_bl o1 hb2
    have hb3 := hb1.trans (hb2.mono hb1.size)
    refine hK'.out _ _ S2 (fun _ => ?_)
    clear hK' D1 S1 R1 o1 hb1 hb2 hS0
    (try simp only [Act.put]); (try simp only [List.setIfInBounds_toArray]); (try simp only [List.set_cons_succ]); (try simp only [List.set_cons_zero])
    refine wpAnyH_take (i := 8) (oi := ⟨_, _, _, _, _, _⟩) (v := .int .i64 (f)) rfl (by kernel_rfl) (by kernel_rfl) (by kernel_rfl) (fun _ _ _ h => h) (Or.inl ⟨by rfl, fun wS hSw => ?_⟩) (by assumption) ?_
    · go_simp; (try rw [IntWalk.i64_in _ (by omega)])
    (try simp only [Act.put]); (try simp only [List.setIfInBounds_toArray]); (try simp only [List.set_cons_succ]); (try simp only [List.set_cons_zero])
    refine wpAnyH_ready (rs := [9]) (by kernel_rfl) (by simp) ?_
    refine AllReadyH.cons (o := ⟨_, _, _, _, _, _⟩) rfl (fun K' hK' => ?_) AllReadyH.nil
    refine (if_pos (by rfl)).mpr ?_
    go_simp
    refine (hrd _ D2).mono ?_
    rintro e w4 ⟨⟨a4, c4, rfl, s4⟩, hb4⟩
    have S4 := S2.below hb4
    have R4 := tr_bl hb4 R2
    have o4 := owns_bl o2 hb4
    have hb5 := hb3.trans (hb4.mono hb3.size)
    refine hK'.out _ _ S4 (fun _ => ?_)
    clear hK' D2 S2 R2 o2 hb3 hb4 hrd
    (try simp only [Act.put]); (try simp only [List.setIfInBounds_toArray]); (try simp only [List.set_cons_succ]); (try simp only [List.set_cons_zero])
    refine wpAnyH_take (i := 10) (oi := ⟨_, _, _, _, _, _⟩) (v := ?_) rfl (by kernel_rfl) (by kernel_rfl) (by kernel_rfl) (fun _ _ _ h => h) (Or.inl ⟨by rfl, ?_⟩) (by assumption) ?_
    rotate_left
    · intro wS hSw; go_simp; (try with_reducible rfl)
    (try simp only [Act.put]); (try simp only [List.setIfInBounds_toArray]); (try simp only [List.set_cons_succ]); (try simp only [List.set_cons_zero])
    refine wpAnyH_take (i := 11) (oi := ⟨_, _, _, _, _, _⟩) (v := ?_) rfl (by kernel_rfl) (by kernel_rfl) (by kernel_rfl) (fun _ _ _ h => h) (Or.inl ⟨by rfl, ?_⟩) (by assumption) ?_
    rotate_left
    · intro wS hSw; go_simp; (try with_reducible rfl)
    (try simp only [Act.put]); (try simp only [List.setIfInBounds_toArray]); (try simp only [List.set_cons_succ]); (try simp only [List.set_cons_zero])
    refine wpAnyH_take (i := 12) (oi := ⟨_, _, _, _, _, _⟩) (v := ?_) rfl (by kernel_rfl) (by kernel_rfl) (by kernel_rfl) (fun _ _ _ h => h) (Or.inl ⟨by rfl, ?_⟩) (by assumption) ?_
    rotate_left
    · intro wS hSw; go_simp; (try with_reducible rfl)
    (try simp only [Act.put]); (try simp only [List.setIfInBounds_toArray]); (try simp only [List.set_cons_succ]); (try simp only [List.set_cons_zero])
    refine wpAnyH_take (i := 13) (oi := ⟨_, _, _, _, _, _⟩) (v := ?_) rfl (by kernel_rfl) (by kernel_rfl) (by kernel_rfl) (fun _ _ _ h => h) (Or.inl ⟨by rfl, ?_⟩) (by assumption) ?_
    rotate_left
    · intro wS hSw; go_simp; (try with_reducible rfl)
    (try simp only [Act.put]); (try simp only [List.setIfInBounds_toArray]); (try simp only [List.set_cons_succ]); (try simp only [List.set_cons_zero])
    refine wpAnyH_take (i := 14) (oi := ⟨_, _, _, _, _, _⟩) (v := ?_) rfl (by kernel_rfl) (by kernel_rfl) (by kernel_rfl) (fun _ _ _ h => h) (Or.inl ⟨by rfl, ?_⟩) (by assumption) ?_
    rotate_left
    · intro wS hSw; go_simp; (try with_reducible rfl)
    (try simp only [Act.put]); (try simp only [List.setIfInBounds_toArray]); (try simp only [List.set_cons_succ]); (try simp only [List.set_cons_zero])
    refine wpAnyH_done (by kernel_rfl) ?_ _
    refine HK3.out _ _ ?_
    clear HK3
    by_cases h0 : re = 0
    · subst h0
      have HBL := Lib.hid (hrl.1 rfl)
      clear hrl
      refine wp_seq_k (fun K hK => ?_)
      have HK := Lib.hid hK
      clear hK
      go_wp2
      refine HK.out _ _ ?_
      clear HK
      go_wp2_with (at_builtin; refine wpList_append_row rfl _ _ 75 5 elByte rfl (w.heap.size + 1) _ pr.length (bys pr) rfl o4 a4 bs.length c4 (bys bs) rfl (by rw [bys_len]; omega) s4.row bys_one (by have := HPL.out; have := HBL.out; omega) (by decide) (lt_blk R4) ?_; intro v6 w6 ho6 hb6)
      (try simp only [Exit.inBlock, Exit.then])
      refine HK2.out _ _ ?_
      clear HK2
      go_wp2
      go_roundw
      case rel =>
        refine ⟨0 + 1, _, by omega, by rfl, rfl, fun t ht => ?_, ?_, hb5.trans (hb6.mono (by omega)), (hb6.block _ (by omega)).trans R4⟩
        · by_cases htj : t < 0
          · exact hall t htj
          · obtain rfl : t = 0 := by omega
            rw [show f + ((0 : Nat) : Int) = f by omega, HBS.out]
        · rw [HPS.out, HBS.out, List.length_append, bys_app]
          exact ho6
      case measure => simp [intOf]
    · have hn : (re != 0) = true := by rw [bne_iff_ne]; exact h0
      have hr0 : r = (2, zeroTg, []) := by
        rw [← HR.out, if_pos]
        (rw [HBS.out]; exact .inl h0)
      clear HK HR HPS
      subst hr0
      go_wp2_with ((with_reducible refine wpList_stB 108 _ _ ?_); refine ⟨_, _, _, ⟨_, _, _, Tryz.sizeOf108, rfl, R4, st5 _ rfl 0 0 0 0 0⟩, ?_⟩; intro w8 B8 g8)
      refine bodyPost_ret (results_t1c1t1 rfl rfl (run_loadVar_all Tryz.isAgg108 Tryz.sizeOf108 B8 rfl)) rfl ⟨FrRes.none rfl, bl_st hb5 g8 hb5.size (by omega)⟩
  · have hr0 := hall 0 (by omega)
    rw [show f + ((0 : Nat) : Int) = f by omega] at hr0
    skip
    have hrd := fun w' (h' : DiskB B g gp wv d w') => read_slb h' (f + 1)
    obtain ⟨bs, re, hbs⟩ : ∃ bs re, readD d (f + 1) = (bs, re) := ⟨_, _, rfl⟩
    have hrl := read_len hd (f + 1)
    rw [hbs] at hrl
    simp only [hbs] at hrd
    simp only at hrl
    have HBS := Lib.hid hbs
    clear hbs
    have hdr := hd.below hbr
    have hsr := h.below hbr
    have hpl : (preW d f 1).length = 64 * 1 := (read_len hd f).1 hr0
    have HPL := Lib.hid hpl
    have HPS := Lib.hid (show preW d f (1 + 1) = preW d f 1 ++ (readD d (f + 1)).1 from rfl)
    clear hpl
    generalize preW d f 1 = pr at *
    refine wp_seq_k (fun K hK => ?_)
    have HK := Lib.hid hK
    clear hK
    go_wp2
    refine HK.out _ _ ?_
    clear HK
    refine wp_seq_k (fun K hK => ?_)
    have HK := Lib.hid hK
    clear hK
    go_wp2
    refine HK.out _ _ ?_
    clear HK
    refine wp_seq_k (fun K hK => ?_)
    have HK2 := Lib.hid hK
    clear hK
    refine wp_block ?_
    refine wp_seq_k (fun K hK => ?_)
    have HK := Lib.hid hK
    clear hK
    go_wp2
    refine HK.out _ _ ?_
    clear HK
    refine wp_seq_k (fun K hK => ?_)
    have HK3 := Lib.hid hK
    clear hK
    go_wp2_with fail
    have hbd := (Below.refl wr.heap.size wr).drew
    have D1 := hdr.below hbd
    have S1 := hsr.below hbd
    have R1 := tr_bl hbd RB
    have hb1 := hbr.trans (hbd.mono hbr.size)
    have o1 := owns_bl hown hbd
    refine wp_region_held_drew (S := fun w' => LgB w' q g s) (by kernel_rfl) S1 (fun hS0 => ?_)
    clear hbd hdr hsr hown hbr RB
    generalize wr.drew = x0 at *
    refine wpAnyH_take (i := 0) (oi := ⟨_, _, _, _, _, _⟩) (v := ?_) rfl (by kernel_rfl) (by kernel_rfl) (by kernel_rfl) (fun _ _ _ h => h) (Or.inl ⟨by rfl, ?_⟩) (by assumption) ?_
    rotate_left
    · intro wS hSw; go_simp; (try with_reducible rfl)
    (try simp only [Act.put]); (try simp only [List.setIfInBounds_toArray]); (try simp only [List.set_cons_succ]); (try simp only [List.set_cons_zero])
    refine wpAnyH_take (i := 1) (oi := ⟨_, _, _, _, _, _⟩) (v := ?_) rfl (by kernel_rfl) (by kernel_rfl) (by kernel_rfl) (fun _ _ _ h => h) (Or.inl ⟨by rfl, ?_⟩) (by assumption) ?_
    rotate_left
    · intro wS hSw; go_simp; (try with_reducible rfl)
    (try simp only [Act.put]); (try simp only [List.setIfInBounds_toArray]); (try simp only [List.set_cons_succ]); (try simp only [List.set_cons_zero])
    refine wpAnyH_take (i := 2) (oi := ⟨_, _, _, _, _, _⟩) (v := ?_) rfl (by kernel_rfl) (by kernel_rfl) (by kernel_rfl) (fun _ _ _ h => h) (Or.inl ⟨by rfl, ?_⟩) (by assumption) ?_
    rotate_left
    · intro wS hSw; go_simp; (try with_reducible rfl)
    (try simp only [Act.put]); (try simp only [List.setIfInBounds_toArray]); (try simp only [List.set_cons_succ]); (try simp only [List.set_cons_zero])
    refine wpAnyH_take (i := 3) (oi := ⟨_, _, _, _, _, _⟩) (v := ?_) rfl (by kernel_rfl) (by kernel_rfl) (by kernel_rfl) (fun _ _ _ h => h) (Or.inl ⟨by rfl, ?_⟩) (by assumption) ?_
    rotate_left
    · intro wS hSw
      have c := hSw.c0; go_simp; (try with_reducible rfl)
    (try simp only [Act.put]); (try simp only [List.setIfInBounds_toArray]); (try simp only [List.set_cons_succ]); (try simp only [List.set_cons_zero])
    refine wpAnyH_take (i := 4) (oi := ⟨_, _, _, _, _, _⟩) (v := ?_) rfl (by kernel_rfl) (by kernel_rfl) (by kernel_rfl) (fun _ _ _ h => h) (Or.inl ⟨by rfl, ?_⟩) (by assumption) ?_
    rotate_left
    · intro wS hSw; go_simp; (try with_reducible rfl)
    (try simp only [Act.put]); (try simp only [List.setIfInBounds_toArray]); (try simp only [List.set_cons_succ]); (try simp only [List.set_cons_zero])
    refine wpAnyH_take (i := 5) (oi := ⟨_, _, _, _, _, _⟩) (v := ?_) rfl (by kernel_rfl) (by kernel_rfl) (by kernel_rfl) (fun _ _ _ h => h) (Or.inl ⟨by rfl, ?_⟩) (by assumption) ?_
    rotate_left
    · intro wS hSw; go_simp; (try with_reducible rfl)
    (try simp only [Act.put]); (try simp only [List.setIfInBounds_toArray]); (try simp only [List.set_cons_succ]); (try simp only [List.set_cons_zero])
    refine wpAnyH_take (i := 7) (oi := ⟨_, _, _, _, _, _⟩) (v := ?_) rfl (by kernel_rfl) (by kernel_rfl) (by kernel_rfl) (fun _ _ _ h => h) (Or.inl ⟨by rfl, ?_⟩) (by assumption) ?_
    rotate_left
    · intro wS hSw; go_simp; (try with_reducible rfl)
    (try simp only [Act.put]); (try simp only [List.setIfInBounds_toArray]); (try simp only [List.set_cons_succ]); (try simp only [List.set_cons_zero])
    refine wpAnyH_ready (rs := [6]) (by kernel_rfl) (by simp) ?_
    refine AllReadyH.cons (o := ⟨_, _, _, _, _, _⟩) rfl (fun K' hK' => ?_) AllReadyH.nil
    refine (if_pos (by rfl)).mpr ?_
    go_simp
    refine (first_any 4 p _).mono ?_
    rintro e w2 ⟨rfl, hb2⟩
    rw [HF.out]
    have D2 := D1.below hb2
    have S2 := S1.below hb2
    have R2 := tr_bl hb2 R1
    have o2 := owns_bl o1 hb2
    have hb3 := hb1.trans (hb2.mono hb1.size)
    refine hK'.out _ _ S2 (fun _ => ?_)
    clear hK' D1 S1 R1 o1 hb1 hb2 hS0
    (try simp only [Act.put]); (try simp only [List.setIfInBounds_toArray]); (try simp only [List.set_cons_succ]); (try simp only [List.set_cons_zero])
    refine wpAnyH_take (i := 8) (oi := ⟨_, _, _, _, _, _⟩) (v := .int .i64 (f + 1)) rfl (by kernel_rfl) (by kernel_rfl) (by kernel_rfl) (fun _ _ _ h => h) (Or.inl ⟨by rfl, fun wS hSw => ?_⟩) (by assumption) ?_
    · go_simp; (try rw [IntWalk.i64_in _ (by omega)])
    (try simp only [Act.put]); (try simp only [List.setIfInBounds_toArray]); (try simp only [List.set_cons_succ]); (try simp only [List.set_cons_zero])
    refine wpAnyH_ready (rs := [9]) (by kernel_rfl) (by simp) ?_
    refine AllReadyH.cons (o := ⟨_, _, _, _, _, _⟩) rfl (fun K' hK' => ?_) AllReadyH.nil
    refine (if_pos (by rfl)).mpr ?_
    go_simp
    refine (hrd _ D2).mono ?_
    rintro e w4 ⟨⟨a4, c4, rfl, s4⟩, hb4⟩
    have S4 := S2.below hb4
    have R4 := tr_bl hb4 R2
    have o4 := owns_bl o2 hb4
    have hb5 := hb3.trans (hb4.mono hb3.size)
    refine hK'.out _ _ S4 (fun _ => ?_)
    clear hK' D2 S2 R2 o2 hb3 hb4 hrd
    (try simp only [Act.put]); (try simp only [List.setIfInBounds_toArray]); (try simp only [List.set_cons_succ]); (try simp only [List.set_cons_zero])
    refine wpAnyH_take (i := 10) (oi := ⟨_, _, _, _, _, _⟩) (v := ?_) rfl (by kernel_rfl) (by kernel_rfl) (by kernel_rfl) (fun _ _ _ h => h) (Or.inl ⟨by rfl, ?_⟩) (by assumption) ?_
    rotate_left
    · intro wS hSw; go_simp; (try with_reducible rfl)
    (try simp only [Act.put]); (try simp only [List.setIfInBounds_toArray]); (try simp only [List.set_cons_succ]); (try simp only [List.set_cons_zero])
    refine wpAnyH_take (i := 11) (oi := ⟨_, _, _, _, _, _⟩) (v := ?_) rfl (by kernel_rfl) (by kernel_rfl) (by kernel_rfl) (fun _ _ _ h => h) (Or.inl ⟨by rfl, ?_⟩) (by assumption) ?_
    rotate_left
    · intro wS hSw; go_simp; (try with_reducible rfl)
    (try simp only [Act.put]); (try simp only [List.setIfInBounds_toArray]); (try simp only [List.set_cons_succ]); (try simp only [List.set_cons_zero])
    refine wpAnyH_take (i := 12) (oi := ⟨_, _, _, _, _, _⟩) (v := ?_) rfl (by kernel_rfl) (by kernel_rfl) (by kernel_rfl) (fun _ _ _ h => h) (Or.inl ⟨by rfl, ?_⟩) (by assumption) ?_
    rotate_left
    · intro wS hSw; go_simp; (try with_reducible rfl)
    (try simp only [Act.put]); (try simp only [List.setIfInBounds_toArray]); (try simp only [List.set_cons_succ]); (try simp only [List.set_cons_zero])
    refine wpAnyH_take (i := 13) (oi := ⟨_, _, _, _, _, _⟩) (v := ?_) rfl (by kernel_rfl) (by kernel_rfl) (by kernel_rfl) (fun _ _ _ h => h) (Or.inl ⟨by rfl, ?_⟩) (by assumption) ?_
    rotate_left
    · intro wS hSw; go_simp; (try with_reducible rfl)
    (try simp only [Act.put]); (try simp only [List.setIfInBounds_toArray]); (try simp only [List.set_cons_succ]); (try simp only [List.set_cons_zero])
    refine wpAnyH_take (i := 14) (oi := ⟨_, _, _, _, _, _⟩) (v := ?_) rfl (by kernel_rfl) (by kernel_rfl) (by kernel_rfl) (fun _ _ _ h => h) (Or.inl ⟨by rfl, ?_⟩) (by assumption) ?_
    rotate_left
    · intro wS hSw; go_simp; (try with_reducible rfl)
    (try simp only [Act.put]); (try simp only [List.setIfInBounds_toArray]); (try simp only [List.set_cons_succ]); (try simp only [List.set_cons_zero])
    refine wpAnyH_done (by kernel_rfl) ?_ _
    refine HK3.out _ _ ?_
    clear HK3
    by_cases h0 : re = 0
    · subst h0
      have HBL := Lib.hid (hrl.1 rfl)
      clear hrl
      refine wp_seq_k (fun K hK => ?_)
      have HK := Lib.hid hK
      clear hK
      go_wp2
      refine HK.out _ _ ?_
      clear HK
      go_wp2_with (at_builtin; refine wpList_append_row rfl _ _ 75 5 elByte rfl (w.heap.size + 1) _ pr.length (bys pr) rfl o4 a4 bs.length c4 (bys bs) rfl (by rw [bys_len]; omega) s4.row bys_one (by have := HPL.out; have := HBL.out; omega) (by decide) (lt_blk R4) ?_; intro v6 w6 ho6 hb6)
      (try simp only [Exit.inBlock, Exit.then])
      refine HK2.out _ _ ?_
      clear HK2
      go_wp2
      go_roundw
      case rel =>
        refine ⟨1 + 1, _, by omega, by rfl, rfl, fun t ht => ?_, ?_, hb5.trans (hb6.mono (by omega)), (hb6.block _ (by omega)).trans R4⟩
        · by_cases htj : t < 1
          · exact hall t htj
          · obtain rfl : t = 1 := by omega
            rw [show f + ((1 : Nat) : Int) = f + 1 by omega, HBS.out]
        · rw [HPS.out, HBS.out, List.length_append, bys_app]
          exact ho6
      case measure => simp [intOf]
    · have hn : (re != 0) = true := by rw [bne_iff_ne]; exact h0
      have hr0 : r = (2, zeroTg, []) := by
        rw [← HR.out, if_pos]
        (rw [HBS.out]; exact .inr h0)
      clear HK HR HPS
      subst hr0
      go_wp2_with ((with_reducible refine wpList_stB 108 _ _ ?_); refine ⟨_, _, _, ⟨_, _, _, Tryz.sizeOf108, rfl, R4, st5 _ rfl 0 0 0 0 0⟩, ?_⟩; intro w8 B8 g8)
      refine bodyPost_ret (results_t1c1t1 rfl rfl (run_loadVar_all Tryz.isAgg108 Tryz.sizeOf108 B8 rfl)) rfl ⟨FrRes.none rfl, bl_st hb5 g8 hb5.size (by omega)⟩
  · have hr0 := hall 0 (by omega)
    have hr1 := hall 1 (by omega)
    rw [show f + ((0 : Nat) : Int) = f by omega] at hr0
    rw [show f + ((1 : Nat) : Int) = f + 1 by omega] at hr1
    skip
    have hlen : (preW d f 2).length = 64 * 2 := (by show ((readD d f).1 ++ (readD d (f + 1)).1).length = 128; rw [List.length_append, (read_len hd f).1 hr0, (read_len hd (f + 1)).1 hr1])
    clear hall
    generalize preW d f 2 = b at *
    obtain ⟨a2, c2, rfl, s2⟩ := SlB.of_owns hown
    have hmi := mine_any a2 c2 b s.rep 4 p wr s2 (by omega)
    have hml := mine_len3 b s.rep 4 p
    obtain ⟨st, tg, body, hmm⟩ : ∃ st tg body, mineF b s.rep 4 p = (st, tg, body) := ⟨_, _, _, rfl⟩
    have hrr := HR.out
    rw [if_neg (by simp [hr0, hr1]), hmm] at hrr
    rw [hmm] at hmi
    have c1 := (h.below hbr).c1
    clear hmm hown hlen HR hml
    generalize hbn : b.length = bn at *
    clear hbn
    subst hrr
    go_wp2
    refine HK.out _ _ ?_
    clear HK
    go_wp2_with (first
      | (go_at_call 52; refine hmi.mono ?_; rintro e w2 ⟨⟨a3, c3, rfl, hO⟩, hb2⟩; have R2 := tr_bl hb2 RB)
      | ((with_reducible refine wpList_stB 108 _ _ ?_); refine ⟨_, _, _, ⟨_, _, _, Tryz.sizeOf108, rfl, R2, st5 _ rfl tg.rep tg.reg tg.pla tg.idx tg.inc⟩, ?_⟩; intro w8 B8 g8))
    have hb3 := hbr.trans (hb2.mono hbr.size)
    refine bodyPost_ret (results_t1c1t1 rfl rfl (run_loadVar_all Tryz.isAgg108 Tryz.sizeOf108 B8 rfl)) rfl ⟨⟨a3, c3, rfl, (hO.mono hbr.size).st g8 R2 (by decide)⟩, bl_st hb3 g8 hb3.size (Nat.le_refl _)⟩
end
end Go.Proofs.YtknchbhobopkeaaGreatDoor
namespace Go.Proofs.YtknchbhobopkeaaGreatDoor
open Go.RowKit
def zRec (st : Nat) : SRec := ⟨st, 0, zeroL, 0⟩
def zCp (st : Nat) : SCp := ⟨st, 0, zeroL, zeroE 0⟩
def recOf (r : Nat × Tg × List UInt8) : SRec := if r.1 ≠ 1 then zRec r.1 else match parseR r.2.2 with | none => zRec 2 | some (b, k) => ⟨1, r.2.1.idx, b, (k : Nat)⟩
def cpOf (r : Nat × Tg × List UInt8) : SCp := if r.1 ≠ 1 then zCp r.1 else match parseE r.2.2 with | none => zCp 2 | some (b, e) => ⟨1, r.2.1.idx, b, e⟩
def recW (d : Dk) (s : Lg) (i : Int) : SRec := recOf (fr1 d s.rep 3 (plW i))
def cpW (d : Dk) (s : Lg) (i : Int) (k : Nat) : SCp := cpOf (fr2 d s.rep 4 (2 * plW i + k))
theorem recOf_wh (r : Nat × Tg × List UInt8) : (recOf r).wh = 0 ∨ (recOf r).wh = 1 := by
  unfold recOf
  split
  · exact .inl rfl
  · cases h : parseR r.2.2 with
    | none => exact .inl rfl
    | some x =>
      obtain ⟨b, k⟩ := x
      unfold parseR at h
      split at h
      · rename_i hc
        injection h with h
        injection h with _ h
        simp only
        omega
      · cases h
theorem tgV_nw (t : Tg) : (tgV t).cells = #[.int .i64 t.rep, .int .i64 t.reg, .int .i64 t.pla, .int .i64 t.idx, .int .i64 t.inc] ∧ (#[Value.int .i64 t.rep, .int .i64 t.reg, .int .i64 t.pla, .int .i64 t.idx, .int .i64 t.inc]).size = 5 ∧ ∀ u ∈ (#[Value.int .i64 t.rep, .int .i64 t.reg, .int .i64 t.pla, .int .i64 t.idx, .int .i64 t.inc]).toList, u.oneCell' = true := ⟨rfl, rfl, by simp [Value.oneCell']⟩
theorem rec_over (p p' : SRec) : 0 + 5 ≤ (recA p).size ∧ (Value.agg (recA p')).cells.size = 5 ∧ (∀ u ∈ (Value.agg (recA p')).cells.toList, u.oneCell' = true) ∧ ((recA p).toList.take 0 ++ (Value.agg (recA p')).cells.toList ++ (recA p).toList.drop (0 + 5)).toArray = recA p' :=
  ⟨by show _ ≤ 5; omega, rfl, by simp [Value.cells, recA, Value.oneCell'], rfl⟩
theorem cpy_over (p p' : SCp) : 0 + 11 ≤ (cpyA p).size ∧ (Value.agg (cpyA p')).cells.size = 11 ∧ (∀ u ∈ (Value.agg (cpyA p')).cells.toList, u.oneCell' = true) ∧ ((cpyA p).toList.take 0 ++ (Value.agg (cpyA p')).cells.toList ++ (cpyA p).toList.drop (0 + 11)).toArray = cpyA p' :=
  ⟨by show _ ≤ 11; omega, rfl, by simp [Value.cells, cpyA, Value.oneCell'], rfl⟩
theorem build_rec (st : Nat) (x : Int) (b : Bal) (wh : Int) (w : World) : (Instr.build 79 #[(0, .int .u8 (st : Int)), (1, .int .i64 x), (2, .agg (blA b)), (3, .int .i64 wh)]).run Tryz.prog w = .ok (.agg (recA ⟨st, x, b, wh⟩)) w := by kernel_rfl
theorem wpList_brec {a : Act} {w : World} {ops : Array Oper} {rest : List Oper} {Q : Exit → Act → World → Prop} {dst : Option Tmp} {ty' : TypeId} {pos : String} {af : Array Edge} (st : Nat) (x : Int) (b : Bal) (wh : Int) (o0 o1 o2 o3 : Operand) (h0 : a.eval o0 = .int .u8 (st : Int)) (h1 : a.eval o1 = .int .i64 x) (h2 : a.eval o2 = .agg (blA b)) (h3 : a.eval o3 = .int .i64 wh)
    (h : wpList Tryz.prog ops Q rest (a.put dst (.agg (recA ⟨st, x, b, wh⟩))) w) : wpList Tryz.prog ops Q (Oper.mk dst (.build 79 #[(0, o0), (1, o1), (2, o2), (3, o3)]) ty' pos af none :: rest) a w :=
  wpList_run rfl (by
    have hb := build_rec st x b wh w
    unfold execOp
    simp [h0, h1, h2, h3, hb]) h
theorem build_cpy (st : Nat) (x : Int) (b : Bal) (e : En) (w : World) : (Instr.build 81 #[(0, .int .u8 (st : Int)), (1, .int .i64 x), (2, .agg (blA b)), (3, .agg (enA e))]).run Tryz.prog w = .ok (.agg (cpyA ⟨st, x, b, e⟩)) w := by kernel_rfl
theorem wpList_bcpy {a : Act} {w : World} {ops : Array Oper} {rest : List Oper} {Q : Exit → Act → World → Prop} {dst : Option Tmp} {ty' : TypeId} {pos : String} {af : Array Edge} (st : Nat) (x : Int) (b : Bal) (e : En) (o0 o1 o2 o3 : Operand) (h0 : a.eval o0 = .int .u8 (st : Int)) (h1 : a.eval o1 = .int .i64 x) (h2 : a.eval o2 = .agg (blA b)) (h3 : a.eval o3 = .agg (enA e))
    (h : wpList Tryz.prog ops Q rest (a.put dst (.agg (cpyA ⟨st, x, b, e⟩))) w) : wpList Tryz.prog ops Q (Oper.mk dst (.build 81 #[(0, o0), (1, o1), (2, o2), (3, o3)]) ty' pos af none :: rest) a w :=
  wpList_run rfl (by
    have hb := build_cpy st x b e w
    unfold execOp
    simp [h0, h1, h2, h3, hb]) h
def NxR (r : Option (Bal × Nat)) : Bal × Nat × Int := match r with | some (b, k) => (b, k, 0) | none => (zeroL, 0, 90)
theorem RcV_eq (r : Option (Bal × Nat)) : RcV r = .tuple #[.agg (blA (NxR r).1), .int .i64 ((NxR r).2.1 : Int), .int .i64 (NxR r).2.2] := by cases r <;> rfl
def NxE (r : Option (Bal × En)) : Bal × En × Int := match r with | some (b, e) => (b, e, 0) | none => (zeroL, zeroE 0, 90)
theorem PsV_eq (r : Option (Bal × En)) : PsV r = .tuple #[.agg (blA (NxE r).1), .agg (enA (NxE r).2.1), .int .i64 (NxE r).2.2] := by cases r <;> rfl
theorem new_two (w : World) (A C : Obj) : ((w.alloc A).alloc C).heap[w.heap.size + 1]? = some C := by
  have h := heap_alloc_new (w.alloc A) C
  rwa [show (w.alloc A).heap.size = w.heap.size + 1 by simp] at h
section
variable {B g gp q : Nat} {wv : Value} {d : Dk} {w : World} {s : Lg}
theorem fr1_len (hd : DiskB B g gp wv d w) (p : Int) : (fr1 d s.rep 3 p).2.2.length ≤ 1000 := by
  unfold fr1
  split
  · simp
  · have h1 := mine_len3 (preW d (firstN 3 p) 1) s.rep 3 p
    have h2 : (preW d (firstN 3 p) 1).length = 64 := (read_len hd (firstN 3 p)).1 (by rename_i h; simpa using h)
    omega
theorem fr2_len (hd : DiskB B g gp wv d w) (p : Int) : (fr2 d s.rep 4 p).2.2.length ≤ 1000 := by
  unfold fr2
  split
  · simp
  · rename_i h
    have h1 := mine_len3 (preW d (firstN 4 p) 2) s.rep 4 p
    have h2 : (preW d (firstN 4 p) 2).length = 128 := by
      show ((readD d (firstN 4 p)).1 ++ (readD d (firstN 4 p + 1)).1).length = 128
      rw [List.length_append, (read_len hd (firstN 4 p)).1 (by simpa using (fun e => h (Or.inl e))), (read_len hd (firstN 4 p + 1)).1 (by simpa using (fun e => h (Or.inr e)))]
    omega
set_option maxRecDepth 100000 in
set_option maxHeartbeats 1000000 in
theorem record_any (h : LgB w q g s) (hd : DiskB B g gp wv d w) (i : Int) (h1 : 1 ≤ i) (h2 : i ≤ 1099511627776) : Calls Tryz.prog 58 #[.pointer (some ⟨q, 0, none⟩), .int .i64 i] w fun e w' => e = .returned (.agg (recA (recW d s i))) ∧ Below w.heap.size w w' := by
  unfold recW
  have hfl := fr1_len (s := s) hd (plW i)
  have hfr := fun w' (h : LgB w' q g s) (D : DiskB B g gp wv d w') => frame1_any h D (plW i) plW_in
  have hpl := fun w => wplace_any i h1 h2 w
  obtain ⟨st, tg, body, hr⟩ : ∃ st tg body, fr1 d s.rep 3 (plW i) = (st, tg, body) := ⟨_, _, _, rfl⟩
  rw [hr] at hfl ⊢
  simp only [hr] at hfr
  simp only at hfl
  generalize plW i = p at *
  obtain ⟨r, hrr⟩ : ∃ r, recOf (st, tg, body) = r := ⟨_, rfl⟩
  rw [hrr]
  unfold recOf at hrr
  simp only at hrr
  have HRR := Lib.hid hrr
  clear hr hrr
  have hbz := blw w (Obj.cells #[.int .u8 0, .int .i64 0, .int .i64 0, .int .i64 0, .int .i64 0] 79)
  have R0 : (w.alloc (Obj.cells #[.int .u8 0, .int .i64 0, .int .i64 0, .int .i64 0, .int .i64 0] 79)).heap[w.heap.size]? = some (.cells (recA (zRec 0)) 79 (0, 0)) := heap_alloc_new w (Obj.cells #[.int .u8 0, .int .i64 0, .int .i64 0, .int .i64 0, .int .i64 0] 79)
  have L0 := h.below hbz
  have D0 := hd.below hbz
  go_enter Tryz.func58, Tryz.ntmps58
  refine wp_seq_k (fun K hK => ?_)
  have HK := Lib.hid hK
  clear hK
  go_wp2
  refine HK.out _ _ ?_
  clear HK
  generalize w.alloc (Obj.cells #[.int .u8 0, .int .i64 0, .int .i64 0, .int .i64 0, .int .i64 0] 79) = w0 at *
  clear h hd h1 h2
  refine wp_seq_k (fun K hK => ?_)
  have HK := Lib.hid hK
  clear hK
  go_wp2_with (first
      | (go_at_call 34; refine (hpl _).mono ?_; rintro e w1 ⟨rfl, rfl⟩)
      | (go_at_call 80; refine (hfr _ L0 D0).mono ?_; rintro e w2 ⟨⟨a3, c3, rfl, hO⟩, hb2⟩)
      | ((first | (with_reducible refine wpList_stNew 108 _ _ ?_) | (with_reducible refine wp_stNew 108 _ _ ?_)); refine ⟨_, _, ⟨Tryz.sizeOf108, rfl, tgV_nw _⟩, rfl, ?_⟩))
  refine HK.out _ _ ?_
  clear HK
  have hbt := blw w2 (Obj.cells #[.int .i64 tg.rep, .int .i64 tg.reg, .int .i64 tg.pla, .int .i64 tg.idx, .int .i64 tg.inc] 108)
  have T3 := heap_alloc_new w2 (Obj.cells #[.int .i64 tg.rep, .int .i64 tg.reg, .int .i64 tg.pla, .int .i64 tg.idx, .int .i64 tg.inc] 108)
  have R3 := tr_bl hbt (tr_bl hb2 R0)
  have S3 := (hO.below hbt).slb
  have hb3 := hbz.trans (hb2.mono hbz.size)
  have hb4 := hb3.trans (hbt.mono hb3.size)
  clear hbz R0 L0 D0 hpl hfr hO hb2 hb3 hbt
  (try simp only at S3)
  generalize w2.alloc (Obj.cells #[.int .i64 tg.rep, .int .i64 tg.reg, .int .i64 tg.pla, .int .i64 tg.idx, .int .i64 tg.inc] 108) = w3 at *
  generalize w2.heap.size = tb at *
  by_cases hst : st = 1
  case neg =>
    have e1 : ((st : Int) != 1) = true := by rw [bne_iff_ne]; omega
    obtain rfl : zRec st = r := by rw [← HRR.out, if_pos hst]
    have hb5 := hb4
    have RB := R3
    clear HRR hst
    go_wp2_with ((with_reducible refine wpList_stB 79 _ _ ?_); refine ⟨_, _, _, ⟨_, _, _, Tryz.sizeOf79, rfl, RB, rec_over _ (zRec st)⟩, ?_⟩; intro w9 R9 g9)
    refine bodyPost_ret (results_c1 rfl rfl (run_loadVar_all Tryz.isAgg79 Tryz.sizeOf79 R9 rfl)) rfl ⟨rfl, bls hb5 (Nat.le_refl _) g9 (Nat.le_refl _)⟩
  case pos =>
    subst hst
    have hps := bparse_any a3 c3 body w3 S3 (by omega)
    rw [RcV_eq] at hps
    obtain ⟨b, k, er, hnx⟩ : ∃ b k er, NxR (parseR body) = (b, k, er) := ⟨_, _, _, rfl⟩
    rw [hnx] at hps
    simp only at hps
    have HNX := Lib.hid hnx
    clear hnx
    refine wp_seq_k (fun K hK => ?_)
    have HK := Lib.hid hK
    clear hK
    go_wp2
    refine HK.out _ _ ?_
    clear HK
    refine wp_seq_k (fun K hK => ?_)
    have HK := Lib.hid hK
    clear hK
    go_wp2_with (first
          | (go_at_call 81; refine hps.mono ?_; rintro e w4 ⟨rfl, hb6⟩)
          | ((first | (with_reducible refine wpList_stNew 32 _ _ ?_) | (with_reducible refine wp_stNew 32 _ _ ?_)); refine ⟨_, _, ⟨Tryz.sizeOf32, rfl, bl_new _⟩, rfl, ?_⟩))
    refine HK.out _ _ ?_
    clear HK
    have hbb := blw w4 (Obj.cells (blA b) 32)
    have C5 := heap_alloc_new w4 (Obj.cells (blA b) 32)
    have T5 := tr_bl hbb (tr_bl hb6 T3)
    have RB := tr_bl hbb (tr_bl hb6 R3)
    have hb7 := hb4.trans (hb6.mono hb4.size)
    have hb5 := hb7.trans (hbb.mono hb7.size)
    clear hps T3 R3 S3 hb4 hb6 hbb hb7
    generalize w4.alloc (Obj.cells (blA b) 32) = w5 at *
    generalize w4.heap.size = cb at *
    have hrr := HRR.out
    rw [if_neg (by simp)] at hrr
    have hnx := HNX.out
    cases hp : parseR body with
    | none =>
      rw [hp] at hrr hnx
      simp only [NxR, Prod.mk.injEq] at hrr hnx
      obtain ⟨rfl, rfl, rfl⟩ := hnx
      subst hrr
      clear HRR HNX hp
      go_wp2_with ((with_reducible refine wpList_stB 79 _ _ ?_); refine ⟨_, _, _, ⟨_, _, _, Tryz.sizeOf79, rfl, RB, rec_over _ (zRec 2)⟩, ?_⟩; intro w9 R9 g9)
      refine bodyPost_ret (results_c1 rfl rfl (run_loadVar_all Tryz.isAgg79 Tryz.sizeOf79 R9 rfl)) rfl ⟨rfl, bls hb5 (Nat.le_refl _) g9 (Nat.le_refl _)⟩
    | some x =>
      obtain ⟨b', k'⟩ := x
      rw [hp] at hrr hnx
      simp only [NxR, Prod.mk.injEq] at hrr hnx
      obtain ⟨rfl, rfl, rfl⟩ := hnx
      subst hrr
      clear HRR HNX hp
      have t3 : w5.cell? ⟨tb, 3, none⟩ = some (.int .i64 tg.idx) := blk_cell T5 3 _ rfl
      go_wp2_with (first
        | ((with_reducible refine wpList_ldB 32 _ ?_); refine ⟨rfl, _, ⟨_, _, _, _, _, Tryz.isAgg32, Tryz.sizeOf32, rfl, ‹_›, arr_all rfl⟩, ?_⟩)
        | (with_reducible refine wpList_brec 1 tg.idx b' (k' : Int) _ _ _ _ (by simp [Act.eval]) (by simp [Act.eval]) (by simp [Act.eval]) (by simp [Act.eval]) ?_)
        | ((with_reducible refine wpList_stB 79 _ _ ?_); refine ⟨_, _, _, ⟨_, _, _, Tryz.sizeOf79, rfl, RB, rec_over _ ⟨1, tg.idx, b', (k' : Int)⟩⟩, ?_⟩; intro w9 R9 g9))
      refine bodyPost_ret (results_c1 rfl rfl (run_loadVar_all Tryz.isAgg79 Tryz.sizeOf79 R9 rfl)) rfl ⟨rfl, bls hb5 (Nat.le_refl _) g9 (Nat.le_refl _)⟩
set_option maxRecDepth 100000 in
set_option maxHeartbeats 1000000 in
theorem copied_any (h : LgB w q g s) (hd : DiskB B g gp wv d w) (i : Int) (h1 : 1 ≤ i) (h2 : i ≤ 1099511627776) (wh : Nat) (hwh : wh < 2) : Calls Tryz.prog 59 #[.pointer (some ⟨q, 0, none⟩), .int .i64 i, .int .i64 wh] w fun e w' => e = .returned (.agg (cpyA (cpW d s i wh))) ∧ Below w.heap.size w w' := by
  unfold cpW
  have hpin := plW_in (i := i)
  have hfl := fr2_len (s := s) hd (2 * plW i + wh)
  have hfr := fun w' (h : LgB w' q g s) (D : DiskB B g gp wv d w') => frame2_any h D (2 * plW i + wh) (by omega)
  have hpl := fun w => wplace_any i h1 h2 w
  obtain ⟨st, tg, body, hr⟩ : ∃ st tg body, fr2 d s.rep 4 (2 * plW i + wh) = (st, tg, body) := ⟨_, _, _, rfl⟩
  rw [hr] at hfl ⊢
  simp only [hr] at hfr
  simp only at hfl
  generalize plW i = p at *
  have hwi : 0 ≤ (wh : Int) ∧ (wh : Int) < 2 := by omega
  generalize (wh : Int) = wi at *
  obtain ⟨r, hrr⟩ : ∃ r, cpOf (st, tg, body) = r := ⟨_, rfl⟩
  rw [hrr]
  unfold cpOf at hrr
  simp only at hrr
  have HRR := Lib.hid hrr
  clear hr hrr hwh
  have hbz := blw w (Obj.cells #[.int .u8 0, .int .i64 0, .int .i64 0, .int .i64 0, .int .u8 0, .int .i64 0, .int .i64 0, .int .u8 0, .string ⟨#[]⟩, .string ⟨#[]⟩, .string ⟨#[]⟩] 81)
  have R0 : (w.alloc (Obj.cells #[.int .u8 0, .int .i64 0, .int .i64 0, .int .i64 0, .int .u8 0, .int .i64 0, .int .i64 0, .int .u8 0, .string ⟨#[]⟩, .string ⟨#[]⟩, .string ⟨#[]⟩] 81)).heap[w.heap.size]? = some (.cells (cpyA (zCp 0)) 81 (0, 0)) := heap_alloc_new w (Obj.cells #[.int .u8 0, .int .i64 0, .int .i64 0, .int .i64 0, .int .u8 0, .int .i64 0, .int .i64 0, .int .u8 0, .string ⟨#[]⟩, .string ⟨#[]⟩, .string ⟨#[]⟩] 81)
  have L0 := h.below hbz
  have D0 := hd.below hbz
  go_enter Tryz.func59, Tryz.ntmps59
  refine wp_seq_k (fun K hK => ?_)
  have HK := Lib.hid hK
  clear hK
  go_wp2
  refine HK.out _ _ ?_
  clear HK
  generalize w.alloc (Obj.cells #[.int .u8 0, .int .i64 0, .int .i64 0, .int .i64 0, .int .u8 0, .int .i64 0, .int .i64 0, .int .u8 0, .string ⟨#[]⟩, .string ⟨#[]⟩, .string ⟨#[]⟩] 81) = w0 at *
  clear h hd h1 h2
  refine wp_seq_k (fun K hK => ?_)
  have HK := Lib.hid hK
  clear hK
  go_wp2_with (first
      | (go_at_call 34; refine (hpl _).mono ?_; rintro e w1 ⟨rfl, rfl⟩)
      | (go_at_call 80; refine (hfr _ L0 D0).mono ?_; rintro e w2 ⟨⟨a3, c3, rfl, hO⟩, hb2⟩)
      | ((first | (with_reducible refine wpList_stNew 108 _ _ ?_) | (with_reducible refine wp_stNew 108 _ _ ?_)); refine ⟨_, _, ⟨Tryz.sizeOf108, rfl, tgV_nw _⟩, rfl, ?_⟩))
  refine HK.out _ _ ?_
  clear HK
  have hbt := blw w2 (Obj.cells #[.int .i64 tg.rep, .int .i64 tg.reg, .int .i64 tg.pla, .int .i64 tg.idx, .int .i64 tg.inc] 108)
  have T3 := heap_alloc_new w2 (Obj.cells #[.int .i64 tg.rep, .int .i64 tg.reg, .int .i64 tg.pla, .int .i64 tg.idx, .int .i64 tg.inc] 108)
  have R3 := tr_bl hbt (tr_bl hb2 R0)
  have S3 := (hO.below hbt).slb
  have hb3 := hbz.trans (hb2.mono hbz.size)
  have hb4 := hb3.trans (hbt.mono hb3.size)
  clear hbz R0 L0 D0 hpl hfr hO hb2 hb3 hbt hwi hpin
  (try simp only at S3)
  generalize w2.alloc (Obj.cells #[.int .i64 tg.rep, .int .i64 tg.reg, .int .i64 tg.pla, .int .i64 tg.idx, .int .i64 tg.inc] 108) = w3 at *
  generalize w2.heap.size = tb at *
  by_cases hst : st = 1
  case neg =>
    have e1 : ((st : Int) != 1) = true := by rw [bne_iff_ne]; omega
    obtain rfl : zCp st = r := by rw [← HRR.out, if_pos hst]
    have hb5 := hb4
    have RB := R3
    clear HRR hst
    go_wp2_with ((with_reducible refine wpList_stB 81 _ _ ?_); refine ⟨_, _, _, ⟨_, _, _, Tryz.sizeOf81, rfl, RB, cpy_over _ (zCp st)⟩, ?_⟩; intro w9 R9 g9)
    refine bodyPost_ret (results_c1 rfl rfl (run_loadVar_all Tryz.isAgg81 Tryz.sizeOf81 R9 rfl)) rfl ⟨rfl, bls hb5 (Nat.le_refl _) g9 (Nat.le_refl _)⟩
  case pos =>
    subst hst
    have hps := eparse_any a3 c3 body w3 S3 (by omega)
    rw [PsV_eq] at hps
    obtain ⟨b, en, er, hnx⟩ : ∃ b en er, NxE (parseE body) = (b, en, er) := ⟨_, _, _, rfl⟩
    rw [hnx] at hps
    simp only at hps
    have HNX := Lib.hid hnx
    clear hnx
    refine wp_seq_k (fun K hK => ?_)
    have HK := Lib.hid hK
    clear hK
    go_wp2
    refine HK.out _ _ ?_
    clear HK
    refine wp_seq_k (fun K hK => ?_)
    have HK := Lib.hid hK
    clear hK
    go_wp2_with (first
          | (go_at_call 82; refine hps.mono ?_; rintro e w4 ⟨rfl, hb6⟩; have X40 : ((w4.alloc (Obj.cells #[.int .i64 0, .int .i64 0] 32)).alloc (Obj.cells #[.int .u8 0, .int .i64 0, .int .i64 0, .int .u8 0, .string ⟨#[]⟩, .string ⟨#[]⟩, .string ⟨#[]⟩] 36)).heap[w4.heap.size]? = some (.cells (blA ⟨0, 0⟩) 32 (0, 0)) := tr_al (Obj.cells #[.int .u8 0, .int .i64 0, .int .i64 0, .int .u8 0, .string ⟨#[]⟩, .string ⟨#[]⟩, .string ⟨#[]⟩] 36) (heap_alloc_new w4 (Obj.cells #[.int .i64 0, .int .i64 0] 32)); have Y40 := new_two w4 (Obj.cells #[.int .i64 0, .int .i64 0] 32) (Obj.cells #[.int .u8 0, .int .i64 0, .int .i64 0, .int .u8 0, .string ⟨#[]⟩, .string ⟨#[]⟩, .string ⟨#[]⟩] 36))
          | ((with_reducible refine wpList_stB 32 _ _ ?_); refine ⟨_, _, _, ⟨_, _, _, Tryz.sizeOf32, rfl, X40, bl_over ⟨0, 0⟩ b⟩, ?_⟩; intro w41 X41 g41; have Y41 := tr_st g41 Y40 (by omega))
          | ((with_reducible refine wpList_stB 36 _ _ ?_); refine ⟨_, _, _, ⟨_, _, _, Tryz.sizeOf36, rfl, Y41, en_over (zeroE 0) en⟩, ?_⟩; intro w42 Y42 g42))
    refine HK.out _ _ ?_
    clear HK
    have C5 := tr_st g42 X41 (by omega)
    have hbb := (blw w4 (Obj.cells #[.int .i64 0, .int .i64 0] 32)).trans ((blw (w4.alloc (Obj.cells #[.int .i64 0, .int .i64 0] 32)) (Obj.cells #[.int .u8 0, .int .i64 0, .int .i64 0, .int .u8 0, .string ⟨#[]⟩, .string ⟨#[]⟩, .string ⟨#[]⟩] 36)).mono (blw w4 (Obj.cells #[.int .i64 0, .int .i64 0] 32)).size)
    have T40 := tr_bl hbb (tr_bl hb6 T3)
    have R40 := tr_bl hbb (tr_bl hb6 R3)
    have hb7 := hb4.trans (hb6.mono hb4.size)
    have hb8 := hb7.trans (hbb.mono hb7.size)
    have ht4 := lt_blk (tr_bl hb6 T3)
    have hr4 := lt_blk (tr_bl hb6 R3)
    have T5 := tr_st g42 (tr_st g41 T40 (by omega)) (by omega)
    have RB := tr_st g42 (tr_st g41 R40 (by omega)) (by omega)
    have hb5 := bls (bls hb8 (Nat.le_refl _) g41 (by omega)) (Nat.le_refl _) g42 (by omega)
    clear hps T3 R3 S3 hb4 hb6 hbb hb7 hb8 T40 R40 X40 Y40 X41 Y41 g41 g42
    generalize w4.heap.size = cb at *
    have hrr := HRR.out
    rw [if_neg (by simp)] at hrr
    have hnx := HNX.out
    cases hp : parseE body with
    | none =>
      rw [hp] at hrr hnx
      simp only [NxE, Prod.mk.injEq] at hrr hnx
      obtain ⟨rfl, rfl, rfl⟩ := hnx
      subst hrr
      clear HRR HNX hp
      go_wp2_with ((with_reducible refine wpList_stB 81 _ _ ?_); refine ⟨_, _, _, ⟨_, _, _, Tryz.sizeOf81, rfl, RB, cpy_over _ (zCp 2)⟩, ?_⟩; intro w9 R9 g9)
      refine bodyPost_ret (results_c1 rfl rfl (run_loadVar_all Tryz.isAgg81 Tryz.sizeOf81 R9 rfl)) rfl ⟨rfl, bls hb5 (Nat.le_refl _) g9 (Nat.le_refl _)⟩
    | some x =>
      obtain ⟨b', e'⟩ := x
      rw [hp] at hrr hnx
      simp only [NxE, Prod.mk.injEq] at hrr hnx
      obtain ⟨rfl, rfl, rfl⟩ := hnx
      subst hrr
      clear HRR HNX hp
      have t3 : w42.cell? ⟨tb, 3, none⟩ = some (.int .i64 tg.idx) := blk_cell T5 3 _ rfl
      go_wp2_with (first
        | ((with_reducible refine wpList_ldB 32 _ ?_); refine ⟨rfl, _, ⟨_, _, _, _, _, Tryz.isAgg32, Tryz.sizeOf32, rfl, ‹_›, arr_all rfl⟩, ?_⟩)
        | ((with_reducible refine wpList_ldB 36 _ ?_); refine ⟨rfl, _, ⟨_, _, _, _, _, Tryz.isAgg36, Tryz.sizeOf36, rfl, ‹_›, arr_all rfl⟩, ?_⟩)
        | (with_reducible refine wpList_bcpy 1 tg.idx b' e' _ _ _ _ (by simp [Act.eval, Act.put]) (by simp [Act.eval, Act.put]) (by simp [Act.eval, Act.put]) (by simp [Act.eval, Act.put]) ?_)
        | ((with_reducible refine wpList_stB 81 _ _ ?_); refine ⟨_, _, _, ⟨_, _, _, Tryz.sizeOf81, rfl, RB, cpy_over _ ⟨1, tg.idx, b', e'⟩⟩, ?_⟩; intro w9 R9 g9))
      refine bodyPost_ret (results_c1 rfl rfl (run_loadVar_all Tryz.isAgg81 Tryz.sizeOf81 R9 rfl)) rfl ⟨rfl, bls hb5 (Nat.le_refl _) g9 (Nat.le_refl _)⟩
end
end Go.Proofs.YtknchbhobopkeaaGreatDoor
namespace Go.Proofs.YtknchbhobopkeaaGreatDoor
open Go.RowKit
theorem results_c2 {P : Program} {fn : Func} {p t p2 t2 : Nat} {tmps : Array Value} {w : World} {A A2 : Addr} {v v2 : Value} (hf : fn.results = #[.cell p t, .cell p2 t2]) (hp : tmps.getD p undef = .pointer (some A)) (hl : (loadVar t A).run P w = .ok v w)
    (hp2 : tmps.getD p2 undef = .pointer (some A2)) (hl2 : (loadVar t2 A2).run P w = .ok v2 w) : (results fn tmps).run P w = .ok (.tuple #[v, v2]) w := by
  have hp' : tmps[p]?.getD undef = .pointer (some A) := by simpa using hp
  have hp2' : tmps[p2]?.getD undef = .pointer (some A2) := by simpa using hp2
  simp [results, hf, hp', hp2', asAddr, hl, hl2]
theorem results_t1c1 {P : Program} {fn : Func} {p t q : Nat} {tmps : Array Value} {w : World} {A : Addr} {v : Value} (hf : fn.results = #[.tmp q, .cell p t]) (hp : tmps.getD p undef = .pointer (some A)) (hl : (loadVar t A).run P w = .ok v w) : (results fn tmps).run P w = .ok (.tuple #[tmps.getD q undef, v]) w := by
  have hp' : tmps[p]?.getD undef = .pointer (some A) := by simpa using hp
  simp [results, hf, hp', asAddr, hl]
def ffW (d : Dk) (s : Lg) (i : Int) : Nat → SCp := fun k => cpW d s i k
def repW (d : Dk) (s : Lg) (i : Int) : Int × Int × Bal × En := whatS (recW d s i) (ffW d s i) i
theorem build_ff (f : Nat → SCp) (w : World) : (Instr.build 82 #[(0, .agg (cpyA (f 0))), (1, .agg (cpyA (f 1)))]).run Tryz.prog w = .ok (.agg (ffA f)) w := by kernel_rfl
theorem wpList_bff {a : Act} {w : World} {ops : Array Oper} {rest : List Oper} {Q : Exit → Act → World → Prop} {dst : Option Tmp} {ty' : TypeId} {pos : String} {af : Array Edge} (f : Nat → SCp) (o0 o1 : Operand) (h0 : a.eval o0 = .agg (cpyA (f 0))) (h1 : a.eval o1 = .agg (cpyA (f 1)))
    (h : wpList Tryz.prog ops Q rest (a.put dst (.agg (ffA f))) w) : wpList Tryz.prog ops Q (Oper.mk dst (.build 82 #[(0, o0), (1, o1)]) ty' pos af none :: rest) a w :=
  wpList_run rfl (by
    have hb := build_ff f w
    unfold execOp
    simp [h0, h1, hb]) h
theorem ff_over (x : Nat → SCp) (f : Nat → SCp) : 0 + 22 ≤ (ffA x).size ∧ (Value.agg (ffA f)).cells.size = 22 ∧ (∀ u ∈ (Value.agg (ffA f)).cells.toList, u.oneCell' = true) ∧ ((ffA x).toList.take 0 ++ (Value.agg (ffA f)).cells.toList ++ (ffA x).toList.drop (0 + 22)).toArray = ffA f :=
  ⟨by show _ ≤ 22; omega, rfl, by simp [Value.cells, ffA, Value.oneCell'], rfl⟩
theorem rp_new (i st : Int) (b : Bal) (e : En) : (Value.agg (rpA i st b e)).cells = rpA i st b e ∧ (rpA i st b e).size = 11 ∧ ∀ u ∈ (rpA i st b e).toList, u.oneCell' = true := ⟨rfl, rfl, by simp [rpA, Value.oneCell']⟩
section
variable {B g gp q : Nat} {wv : Value} {d : Dk} {w : World} {s : Lg}
set_option maxRecDepth 100000 in
set_option maxHeartbeats 1000000 in
theorem wread_any (h : LgB w q g s) (hd : DiskB B g gp wv d w) (i : Int) (h1 : 1 ≤ i) (h2 : i ≤ 1099511627776) : Calls Tryz.prog 31 #[.pointer (some ⟨q, 0, none⟩), .int .i64 i] w fun e w' => e = .returned (.tuple #[.agg (recA (recW d s i)), .agg (ffA (ffW d s i))]) ∧ Below w.heap.size w w' := by
  have hre := fun w' (h : LgB w' q g s) (D : DiskB B g gp wv d w') => record_any h D i h1 h2
  have hc0 := fun w' (h : LgB w' q g s) (D : DiskB B g gp wv d w') => copied_any h D i h1 h2 0 (by omega)
  have hc1 := fun w' (h : LgB w' q g s) (D : DiskB B g gp wv d w') => copied_any h D i h1 h2 1 (by omega)
  have e0 : cpW d s i 0 = ffW d s i 0 := rfl
  have e1 : cpW d s i 1 = ffW d s i 1 := rfl
  rw [e0] at hc0
  rw [e1] at hc1
  clear e0 e1
  generalize recW d s i = p at *
  generalize ffW d s i = f at *
  have hbz := blw w (Obj.cells #[.int .u8 0, .int .i64 0, .int .i64 0, .int .i64 0, .int .i64 0] 79)
  have hbf := hbz.trans ((blw (w.alloc (Obj.cells #[.int .u8 0, .int .i64 0, .int .i64 0, .int .i64 0, .int .i64 0] 79)) (Obj.cells #[.int .u8 0, .int .i64 0, .int .i64 0, .int .i64 0, .int .u8 0, .int .i64 0, .int .i64 0, .int .u8 0, .string ⟨#[]⟩, .string ⟨#[]⟩, .string ⟨#[]⟩, .int .u8 0, .int .i64 0, .int .i64 0, .int .i64 0, .int .u8 0, .int .i64 0, .int .i64 0, .int .u8 0, .string ⟨#[]⟩, .string ⟨#[]⟩, .string ⟨#[]⟩] 82)).mono hbz.size)
  have R0 : ((w.alloc (Obj.cells #[.int .u8 0, .int .i64 0, .int .i64 0, .int .i64 0, .int .i64 0] 79)).alloc (Obj.cells #[.int .u8 0, .int .i64 0, .int .i64 0, .int .i64 0, .int .u8 0, .int .i64 0, .int .i64 0, .int .u8 0, .string ⟨#[]⟩, .string ⟨#[]⟩, .string ⟨#[]⟩, .int .u8 0, .int .i64 0, .int .i64 0, .int .i64 0, .int .u8 0, .int .i64 0, .int .i64 0, .int .u8 0, .string ⟨#[]⟩, .string ⟨#[]⟩, .string ⟨#[]⟩] 82)).heap[w.heap.size]? = some (.cells (recA (zRec 0)) 79 (0, 0)) := tr_al (Obj.cells #[.int .u8 0, .int .i64 0, .int .i64 0, .int .i64 0, .int .u8 0, .int .i64 0, .int .i64 0, .int .u8 0, .string ⟨#[]⟩, .string ⟨#[]⟩, .string ⟨#[]⟩, .int .u8 0, .int .i64 0, .int .i64 0, .int .i64 0, .int .u8 0, .int .i64 0, .int .i64 0, .int .u8 0, .string ⟨#[]⟩, .string ⟨#[]⟩, .string ⟨#[]⟩] 82) (heap_alloc_new w (Obj.cells #[.int .u8 0, .int .i64 0, .int .i64 0, .int .i64 0, .int .i64 0] 79))
  have F0 : ((w.alloc (Obj.cells #[.int .u8 0, .int .i64 0, .int .i64 0, .int .i64 0, .int .i64 0] 79)).alloc (Obj.cells #[.int .u8 0, .int .i64 0, .int .i64 0, .int .i64 0, .int .u8 0, .int .i64 0, .int .i64 0, .int .u8 0, .string ⟨#[]⟩, .string ⟨#[]⟩, .string ⟨#[]⟩, .int .u8 0, .int .i64 0, .int .i64 0, .int .i64 0, .int .u8 0, .int .i64 0, .int .i64 0, .int .u8 0, .string ⟨#[]⟩, .string ⟨#[]⟩, .string ⟨#[]⟩] 82)).heap[w.heap.size + 1]? = some (.cells (ffA (fun _ => zCp 0)) 82 (0, 0)) := new_two w (Obj.cells #[.int .u8 0, .int .i64 0, .int .i64 0, .int .i64 0, .int .i64 0] 79) (Obj.cells #[.int .u8 0, .int .i64 0, .int .i64 0, .int .i64 0, .int .u8 0, .int .i64 0, .int .i64 0, .int .u8 0, .string ⟨#[]⟩, .string ⟨#[]⟩, .string ⟨#[]⟩, .int .u8 0, .int .i64 0, .int .i64 0, .int .i64 0, .int .u8 0, .int .i64 0, .int .i64 0, .int .u8 0, .string ⟨#[]⟩, .string ⟨#[]⟩, .string ⟨#[]⟩] 82)
  have L0 := h.below hbf
  have D0 := hd.below hbf
  go_enter Tryz.func31, Tryz.ntmps31
  refine wp_seq_k (fun K hK => ?_)
  have HK := Lib.hid hK
  clear hK
  go_wp2
  refine HK.out _ _ ?_
  clear HK
  generalize (w.alloc (Obj.cells #[.int .u8 0, .int .i64 0, .int .i64 0, .int .i64 0, .int .i64 0] 79)).alloc (Obj.cells #[.int .u8 0, .int .i64 0, .int .i64 0, .int .i64 0, .int .u8 0, .int .i64 0, .int .i64 0, .int .u8 0, .string ⟨#[]⟩, .string ⟨#[]⟩, .string ⟨#[]⟩, .int .u8 0, .int .i64 0, .int .i64 0, .int .i64 0, .int .u8 0, .int .i64 0, .int .i64 0, .int .u8 0, .string ⟨#[]⟩, .string ⟨#[]⟩, .string ⟨#[]⟩] 82) = w0 at *
  clear h hd h1 h2 hbz
  go_wp2_with fail
  refine (hre _ L0 D0).mono ?_
  rintro e w1 ⟨rfl, hb1⟩
  have L1 := L0.below hb1
  have D1 := D0.below hb1
  have R1 := tr_bl hb1 R0
  have F1 := tr_bl hb1 F0
  have hx1 := hbf.trans (hb1.mono hbf.size)
  clear L0 D0 R0 F0 hbf hb1 hre
  go_wp2_with fail
  refine (hc0 _ L1 D1).mono ?_
  rintro e w2 ⟨rfl, hb2⟩
  have L2 := L1.below hb2
  have D2 := D1.below hb2
  have R2 := tr_bl hb2 R1
  have F2 := tr_bl hb2 F1
  have hx2 := hx1.trans (hb2.mono hx1.size)
  clear L1 D1 R1 F1 hx1 hb2 hc0
  go_wp2_with fail
  refine (hc1 _ L2 D2).mono ?_
  rintro e w3 ⟨rfl, hb3⟩
  have R3 := tr_bl hb3 R2
  have F3 := tr_bl hb3 F2
  have hx3 := hx2.trans (hb3.mono hx2.size)
  clear L2 D2 R2 F2 hx2 hb3 hc1
  go_wp2_with (first
    | (with_reducible refine wpList_bff f _ _ (by simp [Act.eval]) (by simp [Act.eval]) ?_)
    | ((with_reducible refine wpList_stB 79 _ _ ?_); refine ⟨_, _, _, ⟨_, _, _, Tryz.sizeOf79, rfl, R3, rec_over _ p⟩, ?_⟩; intro w4 R4 g4; have F4 := tr_st g4 F3 (by omega))
    | ((with_reducible refine wpList_stB 82 _ _ ?_); refine ⟨_, _, _, ⟨_, _, _, Tryz.sizeOf82, rfl, F4, ff_over _ f⟩, ?_⟩; intro w5 F5 g5; have R5 := tr_st g5 R4 (by omega)))
  refine bodyPost_ret (results_c2 rfl rfl (run_loadVar_all Tryz.isAgg79 Tryz.sizeOf79 R5 rfl) rfl (run_loadVar_all Tryz.isAgg82 Tryz.sizeOf82 F5 rfl)) rfl ⟨rfl, bls (bls hx3 (Nat.le_refl _) g4 (Nat.le_refl _)) (Nat.le_refl _) g5 (by omega)⟩
set_option maxRecDepth 100000 in
set_option maxHeartbeats 1000000 in
theorem wwhat_any (h : LgB w q g s) (hd : DiskB B g gp wv d w) (i : Int) (h1 : 1 ≤ i) (h2 : i ≤ 1099511627776) : Calls Tryz.prog 38 #[.pointer (some ⟨q, 0, none⟩), .int .i64 i] w fun e w' => e = .returned (.tuple #[.int .u8 (repW d s i).1, .agg (rpA i (repW d s i).2.1 (repW d s i).2.2.1 (repW d s i).2.2.2)]) ∧ Below w.heap.size w w' := by
  unfold repW
  have hre := fun w' (h : LgB w' q g s) (D : DiskB B g gp wv d w') => wread_any h D i h1 h2
  have hwh : (recW d s i).wh = 0 ∨ (recW d s i).wh = 1 := recOf_wh _
  generalize recW d s i = p at *
  generalize ffW d s i = f at *
  have hwt := fun w => what_all (p := p) (f := f) (i := i) hwh w
  obtain ⟨z, hz⟩ : ∃ z, whatS p f i = z := ⟨_, rfl⟩
  rw [hz] at hwt ⊢
  have hbz := blw w (Obj.cells #[.int .i64 0, .int .u8 0, .int .i64 0, .int .i64 0, .int .u8 0, .int .i64 0, .int .i64 0, .int .u8 0, .string ⟨#[]⟩, .string ⟨#[]⟩, .string ⟨#[]⟩] 44)
  have R0 : (w.alloc (Obj.cells #[.int .i64 0, .int .u8 0, .int .i64 0, .int .i64 0, .int .u8 0, .int .i64 0, .int .i64 0, .int .u8 0, .string ⟨#[]⟩, .string ⟨#[]⟩, .string ⟨#[]⟩] 44)).heap[w.heap.size]? = some (.cells (rpA 0 0 zeroL (zeroE 0)) 44 (0, 0)) := heap_alloc_new w (Obj.cells #[.int .i64 0, .int .u8 0, .int .i64 0, .int .i64 0, .int .u8 0, .int .i64 0, .int .i64 0, .int .u8 0, .string ⟨#[]⟩, .string ⟨#[]⟩, .string ⟨#[]⟩] 44)
  have L0 := h.below hbz
  have D0 := hd.below hbz
  clear hz hwh
  go_enter Tryz.func38, Tryz.ntmps38
  refine wp_seq_k (fun K hK => ?_)
  have HK := Lib.hid hK
  clear hK
  go_wp2
  refine HK.out _ _ ?_
  clear HK
  generalize w.alloc (Obj.cells #[.int .i64 0, .int .u8 0, .int .i64 0, .int .i64 0, .int .u8 0, .int .i64 0, .int .i64 0, .int .u8 0, .string ⟨#[]⟩, .string ⟨#[]⟩, .string ⟨#[]⟩] 44) = w0 at *
  clear h hd h1 h2
  refine wp_seq_k (fun K hK => ?_)
  have HK := Lib.hid hK
  clear hK
  go_wp2_with (first
      | (go_at_call 31; refine (hre _ L0 D0).mono ?_; rintro e w4 ⟨rfl, hb6⟩; have X40 : ((w4.alloc (Obj.cells #[.int .u8 0, .int .i64 0, .int .i64 0, .int .i64 0, .int .i64 0] 79)).alloc (Obj.cells #[.int .u8 0, .int .i64 0, .int .i64 0, .int .i64 0, .int .u8 0, .int .i64 0, .int .i64 0, .int .u8 0, .string ⟨#[]⟩, .string ⟨#[]⟩, .string ⟨#[]⟩, .int .u8 0, .int .i64 0, .int .i64 0, .int .i64 0, .int .u8 0, .int .i64 0, .int .i64 0, .int .u8 0, .string ⟨#[]⟩, .string ⟨#[]⟩, .string ⟨#[]⟩] 82)).heap[w4.heap.size]? = some (.cells (recA (zRec 0)) 79 (0, 0)) := tr_al (Obj.cells #[.int .u8 0, .int .i64 0, .int .i64 0, .int .i64 0, .int .u8 0, .int .i64 0, .int .i64 0, .int .u8 0, .string ⟨#[]⟩, .string ⟨#[]⟩, .string ⟨#[]⟩, .int .u8 0, .int .i64 0, .int .i64 0, .int .i64 0, .int .u8 0, .int .i64 0, .int .i64 0, .int .u8 0, .string ⟨#[]⟩, .string ⟨#[]⟩, .string ⟨#[]⟩] 82) (heap_alloc_new w4 (Obj.cells #[.int .u8 0, .int .i64 0, .int .i64 0, .int .i64 0, .int .i64 0] 79)); have Y40 : ((w4.alloc (Obj.cells #[.int .u8 0, .int .i64 0, .int .i64 0, .int .i64 0, .int .i64 0] 79)).alloc (Obj.cells #[.int .u8 0, .int .i64 0, .int .i64 0, .int .i64 0, .int .u8 0, .int .i64 0, .int .i64 0, .int .u8 0, .string ⟨#[]⟩, .string ⟨#[]⟩, .string ⟨#[]⟩, .int .u8 0, .int .i64 0, .int .i64 0, .int .i64 0, .int .u8 0, .int .i64 0, .int .i64 0, .int .u8 0, .string ⟨#[]⟩, .string ⟨#[]⟩, .string ⟨#[]⟩] 82)).heap[w4.heap.size + 1]? = some (.cells (ffA (fun _ => zCp 0)) 82 (0, 0)) := new_two w4 (Obj.cells #[.int .u8 0, .int .i64 0, .int .i64 0, .int .i64 0, .int .i64 0] 79) (Obj.cells #[.int .u8 0, .int .i64 0, .int .i64 0, .int .i64 0, .int .u8 0, .int .i64 0, .int .i64 0, .int .u8 0, .string ⟨#[]⟩, .string ⟨#[]⟩, .string ⟨#[]⟩, .int .u8 0, .int .i64 0, .int .i64 0, .int .i64 0, .int .u8 0, .int .i64 0, .int .i64 0, .int .u8 0, .string ⟨#[]⟩, .string ⟨#[]⟩, .string ⟨#[]⟩] 82))
      | ((with_reducible refine wpList_stB 79 _ _ ?_); refine ⟨_, _, _, ⟨_, _, _, Tryz.sizeOf79, rfl, X40, rec_over _ p⟩, ?_⟩; intro w41 X41 g41; have Y41 := tr_st g41 Y40 (by omega))
      | ((with_reducible refine wpList_stB 82 _ _ ?_); refine ⟨_, _, _, ⟨_, _, _, Tryz.sizeOf82, rfl, Y41, ff_over _ f⟩, ?_⟩; intro w42 Y42 g42))
  refine HK.out _ _ ?_
  clear HK
  have X42 := tr_st g42 X41 (by omega)
  have hbb := (blw w4 (Obj.cells #[.int .u8 0, .int .i64 0, .int .i64 0, .int .i64 0, .int .i64 0] 79)).trans ((blw (w4.alloc (Obj.cells #[.int .u8 0, .int .i64 0, .int .i64 0, .int .i64 0, .int .i64 0] 79)) (Obj.cells #[.int .u8 0, .int .i64 0, .int .i64 0, .int .i64 0, .int .u8 0, .int .i64 0, .int .i64 0, .int .u8 0, .string ⟨#[]⟩, .string ⟨#[]⟩, .string ⟨#[]⟩, .int .u8 0, .int .i64 0, .int .i64 0, .int .i64 0, .int .u8 0, .int .i64 0, .int .i64 0, .int .u8 0, .string ⟨#[]⟩, .string ⟨#[]⟩, .string ⟨#[]⟩] 82)).mono (blw w4 (Obj.cells #[.int .u8 0, .int .i64 0, .int .i64 0, .int .i64 0, .int .i64 0] 79)).size)
  have R40 := tr_bl hbb (tr_bl hb6 R0)
  have hb7 := hbz.trans (hb6.mono hbz.size)
  have hb8 := hb7.trans (hbb.mono hb7.size)
  have hr4 := lt_blk (tr_bl hb6 R0)
  have RB := tr_st g42 (tr_st g41 R40 (by omega)) (by omega)
  have hb5 := bls (bls hb8 (Nat.le_refl _) g41 (by omega)) (Nat.le_refl _) g42 (by omega)
  clear hre R0 L0 D0 hbz hb6 hbb hb7 hb8 R40 X40 Y40 X41 Y41 g41 g42
  generalize w4.heap.size = cb at *
  refine wp_seq_k (fun K hK => ?_)
  have HK := Lib.hid hK
  clear hK
  go_wp2_with (first
      | ((with_reducible refine wpList_ldB 79 _ ?_); refine ⟨rfl, _, ⟨_, _, _, _, _, Tryz.isAgg79, Tryz.sizeOf79, rfl, ‹_›, arr_all rfl⟩, ?_⟩)
      | ((with_reducible refine wpList_ldB 82 _ ?_); refine ⟨rfl, _, ⟨_, _, _, _, _, Tryz.isAgg82, Tryz.sizeOf82, rfl, ‹_›, arr_all rfl⟩, ?_⟩)
      | (go_at_call 68; refine (hwt _).mono ?_; rintro e w6 ⟨⟨kk, rfl⟩, hb6⟩)
      | ((first | (with_reducible refine wpList_stNew 44 _ _ ?_) | (with_reducible refine wp_stNew 44 _ _ ?_)); refine ⟨_, _, ⟨Tryz.sizeOf44, rfl, rp_new _ _ _ _⟩, rfl, ?_⟩))
  refine HK.out _ _ ?_
  clear HK
  have hbo := blw w6 (Obj.cells (rpA i z.2.1 z.2.2.1 z.2.2.2) 44)
  have O7 := heap_alloc_new w6 (Obj.cells (rpA i z.2.1 z.2.2.1 z.2.2.2) 44)
  have R7 := tr_bl hbo (tr_bl hb6 RB)
  have hr6 := lt_blk (tr_bl hb6 RB)
  have hb7 := hb5.trans (hb6.mono hb5.size)
  have hb8 := hb7.trans (hbo.mono hb7.size)
  clear hb5 hb6 hb7 hbo RB X42 Y42 hwt
  generalize w6.alloc (Obj.cells (rpA i z.2.1 z.2.2.1 z.2.2.2) 44) = w7 at *
  generalize w6.heap.size = ob at *
  refine wp_seq_k (fun K hK => ?_)
  have HK2 := Lib.hid hK
  clear hK
  go_wp2_with fail
  have hbd := (Below.refl w7.heap.size w7).drew
  have O8 := tr_bl hbd O7
  have R8 := tr_bl hbd R7
  have hb13 := hb8.trans (hbd.mono hb8.size)
  clear hb8 O7 R7 hbd
  refine wp_region_held_drew (S := fun w' => w'.heap[ob]? = some (.cells (rpA i z.2.1 z.2.2.1 z.2.2.2) 44 (0, 0))) (by kernel_rfl) O8 (fun hS0 => ?_)
  generalize w7.drew = x0 at *
  refine wpAnyH_take (i := 0) (oi := ⟨_, _, _, _, _, _⟩) (v := ?_) rfl (by kernel_rfl) (by kernel_rfl) (by kernel_rfl) (fun _ _ _ h => h) (Or.inl ⟨by rfl, ?_⟩) (by assumption) ?_
  rotate_left
  · intro wS hSw; go_simp; (try with_reducible rfl)
  (try simp only [Act.put]); (try simp only [List.setIfInBounds_toArray]); (try simp only [List.set_cons_succ]); (try simp only [List.set_cons_zero])
  refine wpAnyH_take (i := 1) (oi := ⟨_, _, _, _, _, _⟩) (v := .agg (rpA i z.2.1 z.2.2.1 z.2.2.2)) rfl (by kernel_rfl) (by kernel_rfl) (by kernel_rfl) (fun _ _ _ h => h) (Or.inl ⟨by rfl, fun wS hSw => ?_⟩) (by assumption) ?_
  · exact exec_ldB 44 _ ⟨_, _, _, _, _, Tryz.isAgg44, Tryz.sizeOf44, rfl, hSw, arr_all rfl⟩
  (try simp only [Act.put]); (try simp only [List.setIfInBounds_toArray]); (try simp only [List.set_cons_succ]); (try simp only [List.set_cons_zero])
  refine wpAnyH_take (i := 2) (oi := ⟨_, _, _, _, _, _⟩) (v := ?_) rfl (by kernel_rfl) (by kernel_rfl) (by kernel_rfl) (fun _ _ _ h => h) (Or.inl ⟨by rfl, ?_⟩) (by assumption) ?_
  rotate_left
  · intro wS hSw; go_simp; (try with_reducible rfl)
  (try simp only [Act.put]); (try simp only [List.setIfInBounds_toArray]); (try simp only [List.set_cons_succ]); (try simp only [List.set_cons_zero])
  refine wpAnyH_ready (rs := [3]) (by kernel_rfl) (by simp) ?_
  refine AllReadyH.cons (o := ⟨_, _, _, _, _, _⟩) rfl (fun K' hK' => ?_) AllReadyH.nil
  refine (if_pos (by rfl)).mpr ?_
  refine wp_stB 44 _ _ ?_
  refine ⟨_, _, _, ⟨_, _, _, Tryz.sizeOf44, rfl, R8, rp_over _ _ _ _ i z.2.1 z.2.2.1 z.2.2.2⟩, ?_⟩
  intro w13 R13 g13
  refine hK'.out _ _ (tr_st g13 O8 (by omega)) (fun _ => ?_)
  clear hK'
  (try simp only [Act.put]); (try simp only [List.setIfInBounds_toArray]); (try simp only [List.set_cons_succ]); (try simp only [List.set_cons_zero])
  refine wpAnyH_done (by kernel_rfl) ?_ _
  refine HK2.out _ _ ?_
  clear HK2
  go_wp2
  refine bodyPost_ret (results_t1c1 rfl rfl (run_loadVar_all Tryz.isAgg44 Tryz.sizeOf44 R13 rfl)) rfl ⟨rfl, bls hb13 (Nat.le_refl _) g13 (Nat.le_refl _)⟩
end
end Go.Proofs.YtknchbhobopkeaaGreatDoor
namespace Go.Proofs.YtknchbhobopkeaaGreatDoor
open Go.RowKit
structure Rpt where
  idx : Int
  st : Int
  bal : Bal
  e : En
def rptA (r : Rpt) : Array Value := rpA r.idx r.st r.bal r.e
def zeroR' : Rpt := ⟨0, 0, zeroL, zeroE 0⟩
def rptW (d : Dk) (s : Lg) (i : Int) : Rpt := ⟨i, (repW d s i).2.1, (repW d s i).2.2.1, (repW d s i).2.2.2⟩
def getW (d : Dk) (s : Lg) (i : Int) : Rpt × Int := if liveW d s i ≠ 0 then (zeroR', liveW d s i) else (rptW d s i, 0)
def classW (d : Dk) (s : Lg) (i : Int) : Int × Int := if liveW d s i ≠ 0 then (0, liveW d s i) else ((repW d s i).1, 0)
structure LgOk (s : Lg) : Prop where
  r : 0 ≤ s.rep ∧ s.rep ≤ 6
  n : 1 ≤ s.inc ∧ s.inc ≤ 1099511627776
  p : 0 ≤ s.snap ∧ s.snap ≤ 1099511627752
def cutW (s : Lg) (n : Int) : Lg × Int := if n < s.snap ∨ fitW n = false then (s, 2) else ({ s with snap := n }, 0)
def openE (d : Dk) (rep inc snap : Int) : Int := if d.pl.length < 156 ∨ rep < 0 ∨ 7 ≤ rep ∨ inc < 1 ∨ 1099511627776 < inc ∨ fitW snap = false then 2 else if upD d = false then 5 else 0
theorem live_in {d : Dk} {s : Lg} {i : Int} (hs : LgOk s) (h : liveW d s i = 0) : 1 ≤ i ∧ i ≤ 1099511627776 ∧ upD d = true := by
  unfold liveW at h
  have := hs.p
  split at h
  · cases h
  · split at h
    · cases h
    · rename_i h1 h2
      exact ⟨by omega, by omega, by simpa using h2⟩
section
variable {B g gp q : Nat} {wv : Value} {d : Dk} {w w' : World} {s : Lg}
set_option maxRecDepth 100000 in
set_option maxHeartbeats 1000000 in
theorem lget_any2 (h : LgB w q g s) (hd : DiskB B g gp wv d w) (hs : LgOk s) (i : Int) : Calls Tryz.prog 15 #[.pointer (some ⟨q, 0, none⟩), .int .i64 i] w fun e w' => e = .returned (.tuple #[.agg (rptA (getW d s i).1), .int .i64 (getW d s i).2]) ∧ Below w.heap.size w w' := by
  have hli := fun w' (h : LgB w' q g s) (D : DiskB B g gp wv d w') => llive_any2 h D hs.p i
  unfold getW
  have hbz := blw w (Obj.cells #[.int .i64 0, .int .u8 0, .int .i64 0, .int .i64 0, .int .u8 0, .int .i64 0, .int .i64 0, .int .u8 0, .string ⟨#[]⟩, .string ⟨#[]⟩, .string ⟨#[]⟩] 44)
  have R0 : (w.alloc (Obj.cells #[.int .i64 0, .int .u8 0, .int .i64 0, .int .i64 0, .int .u8 0, .int .i64 0, .int .i64 0, .int .u8 0, .string ⟨#[]⟩, .string ⟨#[]⟩, .string ⟨#[]⟩] 44)).heap[w.heap.size]? = some (.cells (rpA 0 0 zeroL (zeroE 0)) 44 (0, 0)) := heap_alloc_new w (Obj.cells #[.int .i64 0, .int .u8 0, .int .i64 0, .int .i64 0, .int .u8 0, .int .i64 0, .int .i64 0, .int .u8 0, .string ⟨#[]⟩, .string ⟨#[]⟩, .string ⟨#[]⟩] 44)
  have L0 := h.below hbz
  have D0 := hd.below hbz
  by_cases h0 : liveW d s i = 0
  case neg =>
    rw [if_pos h0]
    have e0 : (liveW d s i != 0) = true := by rw [bne_iff_ne]; exact h0
    generalize liveW d s i = lv at *
    go_enter Tryz.func15, Tryz.ntmps15
    refine wp_seq_k (fun K hK => ?_)
    have HK := Lib.hid hK
    clear hK
    go_wp2
    refine HK.out _ _ ?_
    clear HK
    generalize w.alloc (Obj.cells #[.int .i64 0, .int .u8 0, .int .i64 0, .int .i64 0, .int .u8 0, .int .i64 0, .int .i64 0, .int .u8 0, .string ⟨#[]⟩, .string ⟨#[]⟩, .string ⟨#[]⟩] 44) = w0 at *
    go_wp2_with (first
      | (go_at_call 29; refine (hli _ L0 D0).mono ?_; rintro e w1 ⟨rfl, rfl⟩)
      | ((with_reducible refine wpList_stB 44 _ _ ?_); refine ⟨_, _, _, ⟨_, _, _, Tryz.sizeOf44, rfl, R0, rp_over _ _ _ _ 0 0 zeroL (zeroE 0)⟩, ?_⟩; intro w9 R9 g9))
    refine bodyPost_ret (results_c1t1 rfl rfl (run_loadVar_all Tryz.isAgg44 Tryz.sizeOf44 R9 rfl)) rfl ⟨rfl, bls hbz (Nat.le_refl _) g9 (Nat.le_refl _)⟩
  case pos =>
    obtain ⟨h1, h2, _⟩ := live_in hs h0
    rw [if_neg (by simp [h0])]
    have hwa := fun w' (h : LgB w' q g s) (D : DiskB B g gp wv d w') => wwhat_any h D i h1 h2
    unfold rptA rptW
    simp only
    generalize repW d s i = z at *
    rw [h0] at hli
    clear h0 h1 h2
    go_enter Tryz.func15, Tryz.ntmps15
    refine wp_seq_k (fun K hK => ?_)
    have HK := Lib.hid hK
    clear hK
    go_wp2
    refine HK.out _ _ ?_
    clear HK
    generalize w.alloc (Obj.cells #[.int .i64 0, .int .u8 0, .int .i64 0, .int .i64 0, .int .u8 0, .int .i64 0, .int .i64 0, .int .u8 0, .string ⟨#[]⟩, .string ⟨#[]⟩, .string ⟨#[]⟩] 44) = w0 at *
    refine wp_seq_k (fun K hK => ?_)
    have HK := Lib.hid hK
    clear hK
    go_wp2_with (go_at_call 29; refine (hli _ L0 D0).mono ?_; rintro e w1 ⟨rfl, rfl⟩)
    refine HK.out _ _ ?_
    clear HK
    refine wp_seq_k (fun K hK => ?_)
    have HK := Lib.hid hK
    clear hK
    go_wp2_with (first
          | (go_at_call 38; refine (hwa _ L0 D0).mono ?_; rintro e w6 ⟨rfl, hb6⟩)
          | ((first | (with_reducible refine wpList_stNew 44 _ _ ?_) | (with_reducible refine wp_stNew 44 _ _ ?_)); refine ⟨_, _, ⟨Tryz.sizeOf44, rfl, rp_new _ _ _ _⟩, rfl, ?_⟩))
    refine HK.out _ _ ?_
    clear HK
    have hbo := blw w6 (Obj.cells (rpA i z.2.1 z.2.2.1 z.2.2.2) 44)
    have O7 := heap_alloc_new w6 (Obj.cells (rpA i z.2.1 z.2.2.1 z.2.2.2) 44)
    have R7 := tr_bl hbo (tr_bl hb6 R0)
    have hr6 := lt_blk (tr_bl hb6 R0)
    have hb7 := hbz.trans (hb6.mono hbz.size)
    have hb8 := hb7.trans (hbo.mono hb7.size)
    clear hbz hb6 hb7 hbo R0 hli hwa
    generalize w6.alloc (Obj.cells (rpA i z.2.1 z.2.2.1 z.2.2.2) 44) = w7 at *
    generalize w6.heap.size = ob at *
    go_wp2_with (first
      | ((with_reducible refine wpList_ldB 44 _ ?_); refine ⟨rfl, _, ⟨_, _, _, _, _, Tryz.isAgg44, Tryz.sizeOf44, rfl, ‹_›, arr_all rfl⟩, ?_⟩)
      | ((with_reducible refine wpList_stB 44 _ _ ?_); refine ⟨_, _, _, ⟨_, _, _, Tryz.sizeOf44, rfl, R7, rp_over _ _ _ _ i z.2.1 z.2.2.1 z.2.2.2⟩, ?_⟩; intro w9 R9 g9))
    refine bodyPost_ret (results_c1t1 rfl rfl (run_loadVar_all Tryz.isAgg44 Tryz.sizeOf44 R9 rfl)) rfl ⟨rfl, bls hb8 (Nat.le_refl _) g9 (Nat.le_refl _)⟩
set_option maxRecDepth 100000 in
set_option maxHeartbeats 1000000 in
theorem lclass_any2 (h : LgB w q g s) (hd : DiskB B g gp wv d w) (hs : LgOk s) (i : Int) : Calls Tryz.prog 19 #[.pointer (some ⟨q, 0, none⟩), .int .i64 i] w fun e w' => e = .returned (.tuple #[.int .u8 (classW d s i).1, .int .i64 (classW d s i).2]) ∧ Below w.heap.size w w' := by
  have hli := llive_any2 h hd hs.p i
  unfold classW
  by_cases h0 : liveW d s i = 0
  case neg =>
    rw [if_pos h0]
    have e0 : (liveW d s i != 0) = true := by rw [bne_iff_ne]; exact h0
    generalize liveW d s i = lv at *
    go_enter Tryz.func19, Tryz.ntmps19
    go_wp2_with (go_at_call 29; refine hli.mono ?_; rintro e w1 ⟨rfl, rfl⟩)
    go_ret2
    exact ⟨rfl, Below.refl _ _⟩
  case pos =>
    obtain ⟨h1, h2, _⟩ := live_in hs h0
    rw [if_neg (by simp [h0])]
    have hwa := wwhat_any h hd i h1 h2
    generalize repW d s i = z at *
    rw [h0] at hli
    clear h0 h1 h2
    go_enter Tryz.func19, Tryz.ntmps19
    refine wp_seq_k (fun K hK => ?_)
    have HK := Lib.hid hK
    clear hK
    go_wp2
    refine HK.out _ _ ?_
    clear HK
    refine wp_seq_k (fun K hK => ?_)
    have HK := Lib.hid hK
    clear hK
    go_wp2_with (go_at_call 29; refine hli.mono ?_; rintro e w1 ⟨rfl, rfl⟩)
    refine HK.out _ _ ?_
    clear HK
    go_wp2_with (first
      | (go_at_call 38; refine hwa.mono ?_; rintro e w6 ⟨rfl, hb6⟩)
      | ((first | (with_reducible refine wpList_stNew 44 _ _ ?_) | (with_reducible refine wp_stNew 44 _ _ ?_)); refine ⟨_, _, ⟨Tryz.sizeOf44, rfl, rp_new _ _ _ _⟩, rfl, ?_⟩))
    go_ret2
    exact ⟨rfl, hb6.trans ((blw w6 (Obj.cells (rpA i z.2.1 z.2.2.1 z.2.2.2) 44)).mono hb6.size)⟩
theorem lg_snap (g : Nat) (s : Lg) (n : Int) : 3 + 1 ≤ (lgA g s).size ∧ (Value.int .i64 n).cells.size = 1 ∧ (∀ u ∈ (Value.int .i64 n).cells.toList, u.oneCell' = true) ∧ ((lgA g s).toList.take 3 ++ (Value.int .i64 n).cells.toList ++ (lgA g s).toList.drop (3 + 1)).toArray = lgA g { s with snap := n } :=
  ⟨by show _ ≤ 4; omega, rfl, by simp [Value.cells, Value.oneCell'], rfl⟩
set_option maxRecDepth 100000 in
set_option maxHeartbeats 1000000 in
theorem lcut_any2 (h : LgB w q g s) (n : Int) : Calls Tryz.prog 11 #[.pointer (some ⟨q, 0, none⟩), .int .i64 n] w fun e w' => e = .returned (.int .i64 (cutW s n).2) ∧ LgB w' q g (cutW s n).1 ∧ w.grownBy w' (some q) := by
  have HL : w.heap[q]? = some (.cells (lgA g s) 74 (0, 0)) := h
  have c3 := h.c3
  have hn := lnone_any2 h
  have hf := fun w => lfits_any n w
  unfold cutW
  by_cases h1 : n < s.snap
  · rw [if_pos (.inl h1)]
    go_enter Tryz.func11, Tryz.ntmps11
    go_wp2_with (go_at_call 36; refine hn.mono ?_; rintro e w1 ⟨rfl, rfl⟩)
    go_ret
    exact ⟨rfl, HL, World.grownBy.refl _ _⟩
  · cases h2 : fitW n
    · rw [if_pos (.inr rfl)]
      rw [h2] at hf
      go_enter Tryz.func11, Tryz.ntmps11
      go_wp2_with (first
        | (go_at_call 36; refine hn.mono ?_; rintro e w1 ⟨rfl, rfl⟩)
        | (go_at_call 27; refine (hf _).mono ?_; rintro e w1 ⟨rfl, rfl⟩))
      go_ret
      exact ⟨rfl, HL, World.grownBy.refl _ _⟩
    · rw [if_neg (by simp [h1])]
      rw [h2] at hf
      go_enter Tryz.func11, Tryz.ntmps11
      go_wp2_with (first
        | (go_at_call 36; refine hn.mono ?_; rintro e w1 ⟨rfl, rfl⟩)
        | (go_at_call 27; refine (hf _).mono ?_; rintro e w1 ⟨rfl, rfl⟩)
        | ((with_reducible refine wpList_stB 3 _ _ ?_); refine ⟨_, _, _, ⟨_, _, _, Tryz.sizeOf3, rfl, HL, lg_snap _ _ n⟩, ?_⟩; intro w5 L5 g5))
      go_ret
      exact ⟨rfl, L5, g5⟩
end
end Go.Proofs.YtknchbhobopkeaaGreatDoor
namespace Go.Proofs.YtknchbhobopkeaaGreatDoor
open Go.RowKit
theorem calls_marks {P : Program} {f : FuncId} {fn : Func} {c : Code} {args : Array Value} {w : World} {R : Ending → World → Prop} (hf : P.funcs[f]? = some fn) (hb : fn.body = some c)
    (h : c.wp P (bodyPostM Fence.wide 3 P fn R) { tmps := args ++ Array.replicate (fn.ntmps - args.size) undef, defers := [] } w) : Calls P f args w R :=
  callsIn_wide.1 (callsIn_of_wp_marks (F := Fence.wide) (n := 3) hf hb trivial (wpIn_wide.2 h))
theorem wp_range {α : Type} {P : Program} {g : Operand} {ps : Array Tmp} {assign body : Code} {Q : Exit → Act → World → Prop} {a : Act} {w : World}
    {gf : Nat} {lb : Array Value} (hg : a.eval g = .func (.func gf) #[] lb) (eg : ∀ args w, (callFunc gf args).run P w = .ok (.enter gf args) w)
    {encs : α → Array Value} {Kp : World → World → Prop} {S Sp : List α → Prop} {N : Nat} (hseq : SeqStopsK Fence.wide 2 P gf lb encs Kp S Sp N w)
    (hKt : ∀ {A B C : World}, Kp A B → Kp B C → Kp A C) (hKb : ∀ (W : World) (l : Nat) (o o' : Obj), w.heap.size ≤ l → W.heap[l]? = some o → o.isCells = false → o.isWalk = false → Kp W (W.putObj l o')) (hps : ∀ x, (encs x).size = ps.size)
    (I : List α → World → Prop) (Ix : Code → List α → World → Prop) (hI : OwnFrom w.heap.size I) (hIx : ∀ c, OwnFrom w.heap.size (Ix c)) (h0 : I [] w) (a₁ : α → Act)
    (hassign : ∀ (l : Nat) (x : α) (W : World) (K : Act → World → Prop), K (a₁ x) W →
      assign.wpIn (Fence.wide.inRound l) (3 - 1 - 1) P (Exit.then K (fun _ _ _ => False)) { tmps := (ps.zip (encs x)).foldl (fun t (p, v) => t.setIfInBounds p v) a.tmps, defers := [] } W)
    (hbody : ∀ (l : Nat) (pre : List α) (x : α) (W : World), I pre W → pre.length < N → body.wpIn (Fence.wide.inRound l) (3 - 1 - 1) P (ownPostG w.heap.size Kp I Ix (pre ++ [x]) W) (a₁ x) W)
    (hdone : ∀ (D : Nat) (xs : List α) (W : World), w.heap.size ≤ D → S xs → I xs W → W.heap[D]? = some (.deferred (some [])) → Q .normal { a with defers := { target := .collected D, args := #[] } :: a.defers } W)
    (hstop : ∀ (D : Nat) (c : Code) (pre : List α) (W : World), w.heap.size ≤ D → Sp pre → Ix c pre W → W.heap[D]? = some (.deferred (some [])) → c.wp P Q { a with defers := { target := .collected D, args := #[] } :: a.defers } W) :
    (Code.rangeFunc g ps assign body).wp P Q a w :=
  wpIn_wide.1 (wpIn_rangeFunc_ownG (F := Fence.wide) (n := 3) rfl (by decide) hg trivial eg hseq hKt hKb (Below.refl _ _) hps I Ix hI hIx h0 a₁ hassign hbody hdone (fun D c pre W h1 h2 h3 h4 => wpIn_wide.2 (hstop D c pre W h1 h2 h3 h4)))
theorem wp_range_skip {α : Type} {P : Program} {g : Operand} {ps : Array Tmp} {body : Code} {Q : Exit → Act → World → Prop} {a : Act} {w : World}
    {gf : Nat} {lb : Array Value} (hg : a.eval g = .func (.func gf) #[] lb) (eg : ∀ args w, (callFunc gf args).run P w = .ok (.enter gf args) w)
    {encs : α → Array Value} {Kp : World → World → Prop} {S Sp : List α → Prop} {N : Nat} (hseq : SeqStopsK Fence.wide 2 P gf lb encs Kp S Sp N w)
    (hKt : ∀ {A B C : World}, Kp A B → Kp B C → Kp A C) (hKb : ∀ (W : World) (l : Nat) (o o' : Obj), w.heap.size ≤ l → W.heap[l]? = some o → o.isCells = false → o.isWalk = false → Kp W (W.putObj l o')) (hps : ∀ x, (encs x).size = ps.size)
    (I : List α → World → Prop) (Ix : Code → List α → World → Prop) (hI : OwnFrom w.heap.size I) (hIx : ∀ c, OwnFrom w.heap.size (Ix c)) (h0 : I [] w)
    (hbody : ∀ (l : Nat) (pre : List α) (x : α) (W : World), I pre W → pre.length < N → body.wpIn (Fence.wide.inRound l) (3 - 1 - 1) P (ownPostG w.heap.size Kp I Ix (pre ++ [x]) W) { tmps := (ps.zip (encs x)).foldl (fun t (p, v) => t.setIfInBounds p v) a.tmps, defers := [] } W)
    (hdone : ∀ (D : Nat) (xs : List α) (W : World), w.heap.size ≤ D → S xs → I xs W → W.heap[D]? = some (.deferred (some [])) → Q .normal { a with defers := { target := .collected D, args := #[] } :: a.defers } W)
    (hstop : ∀ (D : Nat) (c : Code) (pre : List α) (W : World), w.heap.size ≤ D → Sp pre → Ix c pre W → W.heap[D]? = some (.deferred (some [])) → c.wp P Q { a with defers := { target := .collected D, args := #[] } :: a.defers } W) :
    (Code.rangeFunc g ps .skip body).wp P Q a w :=
  wp_range hg eg hseq hKt hKb hps I Ix hI hIx h0 (fun x => { tmps := (ps.zip (encs x)).foldl (fun t (p, v) => t.setIfInBounds p v) a.tmps, defers := [] }) (fun _ _ _ _ hK => wpIn_skip hK) hbody hdone hstop
structure KpH (n m : Nat) (W W' : World) : Prop where
  bl : Below n W W'
  bx : ∀ k, m ≤ k → k < m + 4 → W'.heap[k]? = W.heap[k]?
theorem KpH.trans {n m : Nat} {A B C : World} (h : KpH n m A B) (k : KpH n m B C) : KpH n m A C := ⟨h.bl.trans k.bl, fun i h1 h2 => (k.bx i h1 h2).trans (h.bx i h1 h2)⟩
theorem KpH.put {n m : Nat} {w : World} (hn : n ≤ w.heap.size) (hm : m + 4 ≤ w.heap.size) (W : World) (l : Nat) (o o' : Obj) (hl : w.heap.size ≤ l) (h : W.heap[l]? = some o) (h1 : o.isCells = false) (h2 : o.isWalk = false) : KpH n m W (W.putObj l o') :=
  ⟨belowK_b hn W l o o' hl h h1 h2, fun k _ hk => (grownBy_putObj' W l o').block k (by have := (Array.getElem?_eq_some_iff.1 h).1; omega) (fun e => by cases e; omega)⟩
theorem KpH.below {n m : Nat} {W W' : World} (h : Below W.heap.size W W') (hn : n ≤ W.heap.size) (hm : m + 4 ≤ W.heap.size) : KpH n m W W' := ⟨h.mono hn, fun k _ hk => h.block k (by omega)⟩
theorem gb_none {w w' : World} (h : Below w.heap.size w w') : w.grownBy w' none := ⟨h.os, h.tape, h.output, h.size, fun i hi _ => h.block i hi⟩
theorem abides_bl {β : Type} {B : Nat} {J : β → World → Prop} (hJ : AbidesFrom B J) {s : β} {w w' : World} (hs : J s w) (h : Below w.heap.size w w') : J s w' := hJ s w w' none hs (gb_none h) (fun r e => by cases e)
theorem marks_ret {P : Program} {fn : Func} {R : Ending → World → Prop} {tmps : Array Value} {D : Nat} {v : Value} {w : World} (hK : w.heap[D]? = some (.deferred (some []))) (hres : (results fn tmps).run P (w.putObj D (.deferred none)) = .ok v (w.putObj D (.deferred none)))
    (hR : R (.returned v) (w.putObj D (.deferred none))) : bodyPostM Fence.wide 3 P fn R .ret { tmps := tmps, defers := [{ target := .collected D, args := #[] }] } w :=
  ⟨by simp, .inl ⟨_, _, rfl, run_takeDeferred hK, v, hres, hR⟩⟩
theorem marks_end {P : Program} {fn : Func} {R : Ending → World → Prop} {tmps : Array Value} {v : Value} {w : World} (hres : (results fn tmps).run P w = .ok v w) (hR : R (.returned v) w) : bodyPostM Fence.wide 3 P fn R .ret { tmps := tmps, defers := [] } w := ⟨v, hres, hR⟩
theorem below_mark {n D : Nat} {w W : World} (h : Below n w W) (hD : n ≤ D) : Below n w (W.putObj D (.deferred none)) :=
  h.trans ⟨rfl, rfl, rfl, by simp [World.putObj], fun k hk => World.putObj_heap_other (by omega)⟩
end Go.Proofs.YtknchbhobopkeaaGreatDoor
namespace Go.Proofs.YtknchbhobopkeaaGreatDoor
open Go.RowKit
structure KpB (n m : Nat) (A B : World) : Prop where
  bl : Below n A B
  bx : B.heap[m]? = A.heap[m]?
theorem KpB.trans {n m : Nat} {A B C : World} (h : KpB n m A B) (k : KpB n m B C) : KpB n m A C := ⟨h.bl.trans k.bl, k.bx.trans h.bx⟩
theorem KpB.put {n m : Nat} {W : World} {l : Nat} {o : Obj} (o' : Obj) (hn : n ≤ l) (hm : m < l) (h : W.heap[l]? = some o) : KpB n m W (W.putObj l o') := by
  have hl := (Array.getElem?_eq_some_iff.1 h).1
  exact ⟨(Below.refl n W).grown (grownBy_putObj' W l o') (by omega) (fun k e => by cases e; exact hn), (grownBy_putObj' W l o').block m (by omega) (fun e => by cases e; omega)⟩
def Carry {α : Type} (B m : Nat) (I : List α → World → Prop) : Prop :=
  ∀ s A B' row, I s A → A.grownBy B' row → (∀ r, row = some r → r = m ∨ (B ≤ r ∧ ∃ o : Obj, A.heap[r]? = some o ∧ o.isCells = false)) → I s B'
theorem Carry.put {α : Type} {B m l : Nat} {I : List α → World → Prop} (h : Carry B m I) {s : List α} {W : World} {o : Obj} (o' : Obj) (hs : I s W) (hB : B ≤ l) (hl : W.heap[l]? = some o) (ho : o.isCells = false) : I s (W.putObj l o') :=
  h s W _ (some l) hs (grownBy_putObj' W l o') (fun r e => by cases e; exact .inr ⟨hB, o, hl, ho⟩)
theorem Carry.al {α : Type} {B m : Nat} {I : List α → World → Prop} (h : Carry B m I) {s : List α} {W : World} (o : Obj) (hs : I s W) : I s (W.alloc o) :=
  h s W _ none hs (World.grownBy_alloc W o none) (fun r e => by cases e)
theorem grown_at {A B : World} {row : Option Nat} {m k : Nat} {o : Obj} (hg : A.grownBy B row) (hr : ∀ r, row = some r → r = m) (hk : A.heap[k]? = some o) (hne : k ≠ m) : B.heap[k]? = some o :=
  (hg.block k (Array.getElem?_eq_some_iff.1 hk).1 (fun e => hne (hr k e.symm))).trans hk
theorem wp_range_box {α : Type} {P : Program} {g : Operand} {ps : Array Tmp} {assign body : Code} {Q : Exit → Act → World → Prop} {a : Act} {w : World}
    {gf : Nat} {lb : Array Value} (hg : a.eval g = .func (.func gf) #[] lb) (eg : ∀ args w, (callFunc gf args).run P w = .ok (.enter gf args) w)
    {encs : α → Array Value} {n m N : Nat} {S : List α → Prop} (hm : m < w.heap.size) (hn : n ≤ w.heap.size)
    (hseq : ∀ (l : Nat) (J : List α → World → Prop) (W : World), Below w.heap.size w W → (∀ s A B row, J s A → A.grownBy B row → (∀ r, row = some r → r = m) → J s B) →
      (∀ pre x W1, J pre W1 → pre.length < N → YieldAt Fence.wide 1 P l (encs x) W1 fun e W' => e = .returned (.bool true) ∧ J (pre ++ [x]) W' ∧ KpB n m W1 W') → J [] W →
      CallsIn Fence.wide 2 P gf (#[.func (.yield l) #[] #[]] ++ lb) W fun e W' => (∃ v, e = .returned v) ∧ ∃ xs, S xs ∧ J xs W')
    (hps : ∀ x, (encs x).size = ps.size) (I : List α → World → Prop) (hI : Carry w.heap.size m I) (h0 : I [] w) (a₁ : α → Act)
    (hassign : ∀ (l : Nat) (x : α) (W : World) (K : Act → World → Prop), K (a₁ x) W →
      assign.wpIn (Fence.wide.inRound l) 1 P (Exit.then K (fun _ _ _ => False)) { tmps := (ps.zip (encs x)).foldl (fun t (p, v) => t.setIfInBounds p v) a.tmps, defers := [] } W)
    (hbody : ∀ (l : Nat) (pre : List α) (x : α) (W : World), I pre W → pre.length < N → body.wpIn (Fence.wide.inRound l) 1 P (fun e _ W' => e = .normal ∧ KeepsFrom w.heap.size W W' ∧ KpB n m W W' ∧ I (pre ++ [x]) W') (a₁ x) W)
    (hdone : ∀ (D : Nat) (xs : List α) (W : World), w.heap.size ≤ D → S xs → I xs W → W.heap[D]? = some (.deferred (some [])) → Q .normal { a with defers := { target := .collected D, args := #[] } :: a.defers } W) :
    (Code.rangeFunc g ps assign body).wp P Q a w := by
  refine wpIn_wide.1 (wpIn_rangeFunc (F := Fence.wide) (n := 3) (fun fn hfn => ?_))
  obtain ⟨rec, hrec⟩ : ∃ rec : LoopState → Loop, rec = fun st => { state := st, pending := none, fn, tmps := a.tmps, params := ps, assign, body, defers := w.heap.size } := ⟨_, rfl⟩
  obtain ⟨D, hD⟩ : ∃ D, w.heap.size = D := ⟨_, rfl⟩
  have he := run_enterLoop_outer (P := P) (w := w) fn a.tmps ps assign body
  obtain ⟨W1, hW1⟩ : ∃ W1, (w.alloc (.deferred (some []))).alloc (.loop { state := .ready, pending := none, fn, tmps := a.tmps, params := ps, assign, body, defers := w.heap.size }) = W1 := ⟨_, rfl⟩
  rw [hW1] at he
  have hL1 : W1.heap[D + 1]? = some (.loop (rec .ready)) := by
    rw [← hW1, hrec]
    have := World.alloc_heap_new (w.alloc (.deferred (some []))) (.loop { state := .ready, pending := none, fn, tmps := a.tmps, params := ps, assign, body, defers := w.heap.size })
    rw [World.size_alloc, hD] at this
    rw [hD]
    exact this
  have hK1 : W1.heap[D]? = some (.deferred (some [])) := by
    rw [← hW1, ← hD]
    exact (Below.heap_alloc _ _ _ (by simp)).trans (World.alloc_heap_new w _)
  have hI1 : I [] W1 := by rw [← hW1]; exact hI.al _ (hI.al _ h0)
  have hb1 : Below w.heap.size w W1 := by
    rw [← hW1]
    exact ((Below.refl _ w).alloc (Nat.le_refl _) _).alloc (by simp) _
  rw [hD] at he
  refine ⟨D + 1, [{ target := .collected D, args := #[] }], W1, { target := .fn (.func gf) lb, args := #[.func (.yield (D + 1)) #[] #[]] }, W1, gf, #[.func (.yield (D + 1)) #[] #[]] ++ lb, W1, he, ?_, fun _ _ => trivial, ?_, fun _ => by decide, ?_⟩
  · simp only [resolve, hg]
    simp [go_sem]
  · simp [invoke, go_sem, eg]
  · refine (hseq (D + 1) (fun pre W => I pre W ∧ W.heap[D + 1]? = some (.loop (rec .ready)) ∧ W.heap[D]? = some (.deferred (some []))) W1 hb1 ?_ ?_ ⟨hI1, hL1, hK1⟩).mono ?_
    · rintro s A B row ⟨h1, h2, h3⟩ hgr hr
      exact ⟨hI s A B row h1 hgr (fun r e => .inl (hr r e)), grown_at hgr hr h2 (by omega), grown_at hgr hr h3 (by omega)⟩
    · rintro pre x W ⟨hi, hl, hk⟩ hlen
      have hy := run_yield (P := P) (args := encs x) hl (by rw [hrec]; exact hps x)
      rw [hrec] at hy
      refine ⟨fn, _, assign, body, hy, roundIn_of_wpIn hfn (hassign _ x W _ ?_)⟩
      refine ⟨_, run_beginRound hl (by rw [hrec]), ?_⟩
      have hlt := (Array.getElem?_eq_some_iff.1 hl).1
      have hl2 : (W.putObj (D + 1) (.loop { rec .ready with state := .busy })).heap[D + 1]? = some (.loop { rec .ready with state := .busy }) := World.putObj_heap_same hlt
      have hk2 : (W.putObj (D + 1) (.loop { rec .ready with state := .busy })).heap[D]? = some (.deferred (some [])) := (World.putObj_heap_other (by omega)).trans hk
      have hp2 : KpB n m W (W.putObj (D + 1) (.loop { rec .ready with state := .busy })) := KpB.put _ (by omega) (by omega) hl
      refine wpIn_mono (hbody _ pre x _ (hI.put _ hi (by omega) hl rfl) hlen) ?_
      rintro e a3 W3 ⟨rfl, hk3, hkp3, hi3⟩
      have hl3 := hk3.same _ _ (by omega) hl2 rfl
      have hd3 := hk3.same _ _ (by omega) hk2 rfl
      have hr := run_endRound (P := P) none hl3
      rw [hrec] at hr hl3
      refine ⟨_, _, hr, rfl, ⟨hI.put _ hi3 (by omega) hl3 rfl, ?_, (World.putObj_heap_other (by omega)).trans hd3⟩, (hp2.trans hkp3).trans (KpB.put _ (by omega) (by omega) hl3)⟩
      rw [hrec]
      exact World.putObj_heap_same (Array.getElem?_eq_some_iff.1 hl3).1
    · rintro e W2 ⟨⟨v, rfl⟩, xs, hS, hi, hl, hk⟩
      refine ⟨none, _, by have := run_endLoop (P := P) hl (by rw [hrec]; simp); rw [hrec] at this; exact this, ?_⟩
      exact hdone D xs _ (by omega) hS (hI.put _ hi (by omega) hl rfl) ((World.putObj_heap_other (by omega)).trans hk)
end Go.Proofs.YtknchbhobopkeaaGreatDoor
namespace Go.Proofs.YtknchbhobopkeaaGreatDoor
open Go.RowKit
theorem wp_range_h {α : Type} {P : Program} {g : Operand} {ps : Array Tmp} {assign body : Code} {Q : Exit → Act → World → Prop} {a : Act} {w : World}
    {gf : Nat} {lb : Array Value} (hg : a.eval g = .func (.func gf) #[] lb) (eg : ∀ args w, (callFunc gf args).run P w = .ok (.enter gf args) w)
    {encs : α → Array Value} {Kp : World → World → Prop} {S Sp : List α → Prop} {N : Nat} (hseq : SeqStopsK Fence.wide 2 P gf lb encs Kp S Sp N w)
    (hKt : ∀ {A B C : World}, Kp A B → Kp B C → Kp A C) (hKb : ∀ (W : World) (l : Nat) (o o' : Obj), w.heap.size ≤ l → W.heap[l]? = some o → o.isCells = false → o.isWalk = false → Kp W (W.putObj l o')) (hps : ∀ x, (encs x).size = ps.size)
    (I : List α → World → Prop) (Ix : Code → List α → World → Prop) (hI : OwnFrom w.heap.size I) (hIx : ∀ c, OwnFrom w.heap.size (Ix c)) (h0 : I [] w) (Ax : α → Act → World → Prop) (hAx : ∀ x a', OwnFrom w.heap.size (fun (_ : Unit) W => Ax x a' W))
    (hassign : ∀ (l : Nat) (pre : List α) (x : α) (W : World) (K : Act → World → Prop), I pre W → (∀ a' W', KeepsFrom w.heap.size W W' → Kp W W' → I pre W' → Ax x a' W' → K a' W') →
      assign.wpIn (Fence.wide.inRound l) (3 - 1 - 1) P (Exit.then K (fun _ _ _ => False)) { tmps := (ps.zip (encs x)).foldl (fun t (p, v) => t.setIfInBounds p v) a.tmps, defers := [] } W)
    (hbody : ∀ (l : Nat) (pre : List α) (x : α) (a' : Act) (W : World), I pre W → Ax x a' W → pre.length < N → body.wpIn (Fence.wide.inRound l) (3 - 1 - 1) P (ownPostG w.heap.size Kp I Ix (pre ++ [x]) W) a' W)
    (hdone : ∀ (D : Nat) (xs : List α) (W : World), w.heap.size ≤ D → S xs → I xs W → W.heap[D]? = some (.deferred (some [])) → Q .normal { a with defers := { target := .collected D, args := #[] } :: a.defers } W)
    (hstop : ∀ (D : Nat) (c : Code) (pre : List α) (W : World), w.heap.size ≤ D → Sp pre → Ix c pre W → W.heap[D]? = some (.deferred (some [])) → c.wp P Q { a with defers := { target := .collected D, args := #[] } :: a.defers } W) :
    (Code.rangeFunc g ps assign body).wp P Q a w :=
  wpIn_wide.1 (wpIn_rangeFunc_ownH (F := Fence.wide) (n := 3) rfl (by decide) hg trivial eg hseq hKt hKb (Below.refl _ _) hps I Ix hI hIx h0 Ax hAx hassign (fun l pre x a' W _ _ h1 h2 h3 => hbody l pre x a' W h1 h2 h3) hdone (fun D c pre W h1 h2 h3 h4 => wpIn_wide.2 (hstop D c pre W h1 h2 h3 h4)))
theorem KpB.put2 {n m : Nat} {w : World} (hn : n ≤ w.heap.size) (hm : m < w.heap.size) (W : World) (l : Nat) (o o' : Obj) (hl : w.heap.size ≤ l) (h : W.heap[l]? = some o) (_ : o.isCells = false) (_ : o.isWalk = false) : KpB n m W (W.putObj l o') := KpB.put o' (by omega) (by omega) h
theorem KpB.below {n m : Nat} {W W' : World} (h : Below W.heap.size W W') (hn : n ≤ W.heap.size) (hm : m < W.heap.size) : KpB n m W W' := ⟨h.mono hn, h.block m hm⟩
theorem KpB.refl (n m : Nat) (W : World) : KpB n m W W := ⟨Below.refl _ _, rfl⟩
end Go.Proofs.YtknchbhobopkeaaGreatDoor
namespace Go.Proofs.YtknchbhobopkeaaGreatDoor
open Go.RowKit Go.Shelf
def slotW (d : Dk) (s : Lg) (k : Nat) : Int × Rpt := ((repW d s (s.snap + 1 + k)).1, rptW d s (s.snap + 1 + k))
def slotsL (d : Dk) (s : Lg) (n : Nat) : List (Int × Rpt) := (List.range n).map (slotW d s)
theorem slotsL_succ (d : Dk) (s : Lg) (n : Nat) : slotsL d s (n + 1) = slotsL d s n ++ [slotW d s n] := by
  unfold slotsL
  rw [List.range_succ, List.map_append]
  rfl
theorem slotsL_len (d : Dk) (s : Lg) (n : Nat) : (slotsL d s n).length = n := by simp [slotsL]
theorem yld_bool {e : Ending} {A C : Prop} (h : (e = .returned (.bool true) ∧ A) ∨ (e = .returned (.bool false) ∧ C)) : ∃ b, e = .returned (.bool b) ∧ ((b = true ∧ A) ∨ (b = false ∧ C)) := by
  rcases h with ⟨h1, h2⟩ | ⟨h1, h2⟩
  · exact ⟨true, h1, .inl ⟨rfl, h2⟩⟩
  · exact ⟨false, h1, .inr ⟨rfl, h2⟩⟩
section
variable {B g gp q : Nat} {wv : Value} {d : Dk} {wc w : World} {s : Lg}
set_option maxRecDepth 100000 in
theorem lslots_any (w : World) : Calls Tryz.prog 37 #[.pointer (some ⟨q, 0, none⟩)] w fun e w' => e = .returned (.func (.func 67) #[] #[.pointer (some ⟨w.heap.size, 0, none⟩)]) ∧ w' = w.alloc (Obj.cells #[.pointer (some ⟨q, 0, none⟩)] 27) := by
  go_enter Tryz.func37, Tryz.ntmps37
  go_wp2
  go_ret
  exact ⟨rfl, rfl⟩
set_option maxRecDepth 100000 in
set_option maxHeartbeats 1000000 in
theorem lslots_in (h : LgB wc q g s) (hd : DiskB B g gp wv d wc) (hs : LgOk s) (m l : Nat) (J Jx : List (Int × Rpt) → World → Prop) (W : World) (hm : wc.heap.size ≤ m) (hm2 : m < W.heap.size) (hB : Below wc.heap.size wc W) (hq : W.cell? ⟨m, 0, none⟩ = some (.pointer (some ⟨q, 0, none⟩))) (hJ : AbidesFrom W.heap.size J)
    (hY : ∀ pre x W1, J pre W1 → pre.length < 24 → YieldAt Fence.wide 1 Tryz.prog l #[.int .u8 x.1, .agg (rptA x.2)] W1 fun e W' => (e = .returned (.bool true) ∧ J (pre ++ [x]) W' ∧ KpB wc.heap.size m W1 W') ∨ (e = .returned (.bool false) ∧ Jx (pre ++ [x]) W')) (h0 : J [] W) :
    CallsIn Fence.wide 2 Tryz.prog 67 (#[.func (.yield l) #[] #[]] ++ #[.pointer (some ⟨m, 0, none⟩)]) W fun e W' => (∃ v, e = .returned v) ∧ ((∃ xs, xs = slotsL d s 24 ∧ J xs W') ∨ (∃ pre, True ∧ Jx pre W')) := by
  refine callsIn_of_wp Tryz.func67 rfl trivial ?_ rfl
  simp only [Tryz.ntmps67, List.size_toArray, List.length_cons, List.length_nil, Nat.reduceAdd, Nat.reduceSub, Array.replicate_succ, Array.replicate_zero, List.push_toArray, List.append_toArray, List.nil_append, List.cons_append]
  have hsp := hs.p
  have HY := Lib.hid hY
  clear hY
  gi_wp2
  gi_loopw [4, 3] (fun i _ wr => ∃ k : Nat, k ≤ 24 ∧ i = .int .i64 k ∧ J (slotsL d s k) wr ∧ KpB wc.heap.size m W wr) (fun i _ _ => 24 - (Go.RowKit.intOf i).toNat)
  case atStart => exact ⟨0, by omega, rfl, h0, KpB.refl _ _ _⟩
  case round =>
    obtain ⟨k, hk, rfl, hJs, hKr⟩ := hrel
    by_cases hlt : k < 24
    · have hbr := hB.trans hKr.bl
      have L1 := h.below hbr
      have D1 := hd.below hbr
      have c3 := L1.c3
      have cm : wr.cell? ⟨m, 0, none⟩ = some (.pointer (some ⟨q, 0, none⟩)) := by
        unfold World.cell? at hq ⊢
        simp only at hq ⊢
        rw [hKr.bx]
        exact hq
      have hyk := HY.out (slotsL d s k) (slotW d s k)
      rw [← slotsL_succ] at hyk
      have hll := slotsL_len d s k
      have hwa := fun w' (L : LgB w' q g s) (D : DiskB B g gp wv d w') => wwhat_any L D (s.snap + 1 + k) (by omega) (by omega)
      have hyk2 := fun W1 hj => hyk W1 hj (by omega)
      have hst : slotW d s k = ((repW d s (s.snap + 1 + k)).1, rptW d s (s.snap + 1 + k)) := rfl
      rw [hst] at hyk2
      simp only at hyk2
      have e9 : rptA (rptW d s (s.snap + 1 + k)) = rpA (s.snap + 1 + k) (repW d s (s.snap + 1 + k)).2.1 (repW d s (s.snap + 1 + k)).2.2.1 (repW d s (s.snap + 1 + k)).2.2.2 := rfl
      rw [e9] at hyk2
      generalize repW d s (s.snap + 1 + k) = z at *
      clear hll hst e9 hyk
      have hki : (k : Int) < 24 := by omega
      have hbd := (Below.refl wr.heap.size wr).drew
      have hwd := hwa _ (L1.below hbd) (D1.below hbd)
      have hmx : Tryz.prog.follows .mixedOrders = true := by kernel_rfl
      have hz1 : IntKind.i64.wrap (s.snap + 1) = s.snap + 1 := IntWalk.i64_in _ (by omega)
      have hz2 : IntKind.i64.wrap (s.snap + 1 + k) = s.snap + 1 + k := IntWalk.i64_in _ (by omega)
      gi_wp2
      gi_region_with_o (first | (refine hR.mono ?_; rintro e W3 h3; obtain ⟨yb, rfl, h4⟩ := yld_bool h3) | (refine ⟨trivial, ?_⟩; (try rw [hz1, hz2]); gi_at_call 38; refine (callsIn_wide.2 hwd).mono ?_; rintro e w3 ⟨rfl, hb3⟩; have hb4 := hbd.trans (hb3.mono hbd.size); obtain ⟨fn, tmps, assign, body, hy, hR⟩ := hyk2 w3 (abides_bl hJ hJs hb4)))
      all_goals
        rcases h4 with ⟨rfl, hJ3, hk4⟩ | ⟨rfl, hJx3⟩
        · gi_wp2
          have hsz := hKr.bl.size
          go_roundw
          case rel => exact ⟨k + 1, by omega, by go_num, hJ3, (hKr.trans (KpB.below hb4 (by omega) (by omega))).trans hk4⟩
          case measure => simp [Go.RowKit.intOf]; omega
        · gi_wp2
          refine bodyPost_ret (results_none rfl _ _ _) rfl ?_
          first | exact ⟨⟨_, rfl⟩, .inr ⟨_, trivial, hJx3⟩⟩ | exact ⟨⟨_, rfl⟩, .inr ⟨_, hJx3⟩⟩
    · obtain rfl : k = 24 := by omega
      gi_wp2
      go_end0
      exact ⟨⟨_, rfl⟩, .inl ⟨_, rfl, hJs⟩⟩
theorem lslots_stops (h : LgB wc q g s) (hd : DiskB B g gp wv d wc) (hs : LgOk s) (m : Nat) (hm : wc.heap.size ≤ m) (hm2 : m < w.heap.size) (hB : Below wc.heap.size wc w) (hq : w.cell? ⟨m, 0, none⟩ = some (.pointer (some ⟨q, 0, none⟩))) :
    SeqStopsK Fence.wide 2 Tryz.prog 67 #[.pointer (some ⟨m, 0, none⟩)] (fun x : Int × Rpt => #[Value.int .u8 x.1, .agg (rptA x.2)]) (KpB wc.heap.size m) (fun xs => xs = slotsL d s 24) (fun _ => True) 24 w :=
  fun l J Jx W hW hJ _ hY h0 => lslots_in h hd hs m l J Jx W hm (Nat.lt_of_lt_of_le hm2 hW.size) (hB.trans (hW.mono (by omega))) (cell_later hW hq) hJ hY h0
end
end Go.Proofs.YtknchbhobopkeaaGreatDoor
