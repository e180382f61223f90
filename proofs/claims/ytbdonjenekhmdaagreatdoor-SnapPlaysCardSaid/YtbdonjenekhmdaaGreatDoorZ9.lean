/- Texts that the claim leans on, part 9: D37, D37b, D38, D39a, D39, D40, D41, X8. -/
import Derived.Test.YtbdonjenekhmdaaGreatDoorZ1
import Derived.Test.YtbdonjenekhmdaaGreatDoorZ2
import Derived.Test.YtbdonjenekhmdaaGreatDoorZ3
import Derived.Test.YtbdonjenekhmdaaGreatDoorZ4
import Derived.Test.YtbdonjenekhmdaaGreatDoorZ5
import Derived.Test.YtbdonjenekhmdaaGreatDoorZ6
import Derived.Test.YtbdonjenekhmdaaGreatDoorZ7
import Derived.Test.YtbdonjenekhmdaaGreatDoorZ8
import Derived.Test.YtbdonjenekhmdaaGreatDoorRows
import Derived.WalkKit
import Derived.WalkSpells
import Derived.WalkLawsBesides
import Derived.Handy
import Derived.Deep.QuietTactic
import Derived.BigQuiet
import Derived.Deep.DeepCutAuto
import Derived.Lib.Hide
import Derived.RegionTactic
import Derived.ChangeAlike
import Derived.Laws.ResultCell
import Derived.Outline
import Derived.Laws.IdiomStrings
import Derived.Laws.BytesArg
import Derived.Carry
import Derived.Maps.Own
import Derived.Maps.Keyed
import Derived.RangeFuncNested
import Derived.RangeFuncBound
import Derived.RangeFuncCalls
import Derived.RangeFuncLeaves
import Derived.RangeFuncBox
import Derived.RangeFuncRecord
import Derived.Shelf.Abstract
import Derived.Shelf.RegionOpen
import Derived.OwnWalkIn
import Derived.TacticsInMore
import Derived.LoopNIn
import Derived.LoopIn
import Derived.OrdersIn
import Derived.OrdersHeld
import Derived.Maps.AppendAt
import Derived.Lib.SliceRun
import Derived.Laws.MakeOwn
import Derived.IntWalk
import Derived.Laws.BitsAllLaws
import Derived.Great.BuildSlice
import Derived.Great.FillDense
import Derived.Laws.Rows
import Derived.Deep.Quiet
import Derived.Deep.RegionHeld3
import Derived.ProofKit
import Derived.OpenShut
import Derived.Deep.RegionHeld
import Derived.Laws.CopyOwn
import Derived.Laws.CopyRow
import Derived.Laws.NewBlocks
import Derived.Deep.RegionLaw
namespace Go.Proofs.YtbdonjenekhmdaaGreatDoor
open Go.RowKit
set_option maxRecDepth 100000 in
set_option maxHeartbeats 16000000 in
theorem open_m1 (b off : Nat) (cap : Nat) (l : List UInt8) (w : World) (hs : SlB w (some ⟨b, off, none⟩) cap l) (hl : l.length = 64) (hz : noughtsB l = false) : Calls Tryz.prog 211 #[.slice (some ⟨b, off, none⟩) 64 cap] w fun e w' => FrRes w.heap.size (openF l) e w' ∧ Below w.heap.size w w' := by
 rw [openF_ok (N := 64) hl (by decide) hz]
 have hroom : ∀ w, Calls Tryz.prog 116 #[.int .i64 1] w fun e w' => e = .returned (.int .i64 43) ∧ w = w' := fun w => room_any 1 w
 have hcap : 64 ≤ cap := by have := hs.le; omega
 have hmx := hs.max
 unfold maxLen at hmx
 have k2 : ¬ cap = 2 := by omega
 have k17 : ¬ cap = 17 := by omega
 have hbB := blw w (Obj.cells #[.int .i64 0, .int .i64 0, .int .i64 0, .int .i64 0, .int .i64 0] 39)
 have B3 := heap_alloc_new w (Obj.cells #[.int .i64 0, .int .i64 0, .int .i64 0, .int .i64 0, .int .i64 0] 39)
 have hno := noughts_any _ cap l (w.alloc (Obj.cells #[.int .i64 0, .int .i64 0, .int .i64 0, .int .i64 0, .int .i64 0] 39)) (hs.below hbB)
 rw [hl, hz] at hno
 obtain ⟨n, hn, hnlt⟩ : ∃ n, getN l 0 2 = n ∧ n < 65536 := ⟨_, rfl, getN_lt l 0 2⟩
 obtain ⟨s, hsn, hslt⟩ : ∃ s, getN l 60 4 = s ∧ s < 4294967296 := ⟨_, rfl, getN_lt l 60 4⟩
 have g1 : ∀ w', SlB w' (some ⟨b, off, none⟩) cap l → Calls Tryz.prog 99 #[.slice (some ⟨b, off, none⟩) 64 cap, .int .i64 0, .int .i64 2] w' fun e w'' => e = .returned (.tuple #[.int .i64 (n : Nat), .int .i64 2, .int .i64 0]) ∧ Below w'.heap.size w' w'' := fun w' h => by
  have := get_ok _ cap l 0 2 w' h (by omega) (by omega)
  rw [hl, hn] at this
  exact this
 have g2 : ∀ w', SlB w' (some ⟨b, off, none⟩) cap l → Calls Tryz.prog 99 #[.slice (some ⟨b, off, none⟩) 64 cap, .int .i64 60, .int .i64 4] w' fun e w'' => e = .returned (.tuple #[.int .i64 (s : Nat), .int .i64 64, .int .i64 0]) ∧ Below w'.heap.size w' w'' := fun w' h => by
  have := get_ok _ cap l 60 4 w' h (by omega) (by omega)
  rw [hl, hsn] at this
  exact this
 have hpa : ∀ w', SlB w' (some ⟨b, off, none⟩) cap l → Calls Tryz.prog 226 #[.slice (some ⟨b, off + 2, none⟩) 15 (cap - 2)] w' fun e w'' => e = .returned (.tuple #[tgV (parseT ((l.drop 2).take 15)).1, .int .i64 (parseT ((l.drop 2).take 15)).2]) ∧ Below w'.heap.size w' w'' := fun w' h =>
  tparse_any _ _ _ w' (h.sub 2 15 (by omega)) (by rw [List.length_take, List.length_drop]; omega)
 obtain ⟨tg, pe, hpt, hpe⟩ : ∃ tg pe, parseT ((l.drop 2).take 15) = (tg, pe) ∧ ((pe = 0 ∧ tg = tagAt l 2 ∧ mayTg (tagAt l 2) = true) ∨ (pe = 30 ∧ mayTg (tagAt l 2) = false)) := by
  unfold parseT
  rw [tagAt_sub]
  cases h : mayTg (tagAt l 2)
  ·exact ⟨_, _, rfl, .inr ⟨rfl, rfl⟩⟩
  ·exact ⟨_, _, rfl, .inl ⟨rfl, rfl, rfl⟩⟩
 rw [hpt] at hpa
 simp only at hpa
 have HPE := Lib.hid hpe
 have HL := Lib.hid hl
 have HN := Lib.hid hn
 have HS := Lib.hid hsn
 clear hpe hpt hz hl hn hsn
 go_enter Tryz.func211, Tryz.ntmps211
 refine seqH (fun K HK => ?_)
 go_wp2
 refine HK.out _ _ ?_
 clear HK
 refine seqH (fun K HK => ?_)
 go_wp2
 refine HK.out _ _ ?_
 clear HK
 refine seqH (fun K HK => ?_)
 go_wp2_with (go_at_call 116; refine (hroom _).mono ?_; rintro e w2 ⟨rfl, rfl⟩)
 refine HK.out _ _ ?_
 clear HK
 refine seqH (fun K HK => ?_)
 go_wp2_with (go_at_call 225; refine hno.mono ?_; rintro e w2 ⟨rfl, hb2⟩)
 refine HK.out _ _ ?_
 clear HK
 have A3 := tr_bl hb2 B3
 have hb3 := hbB.trans (hb2.mono hbB.size)
 have hs3 := hs.below hb3
 clear hno hb2 B3 hbB
 refine seqH (fun K HK => ?_)
 go_wp2_with (go_at_call 99; refine (g1 _ hs3).mono ?_; rintro e w4 ⟨rfl, hb4⟩)
 refine HK.out _ _ ?_
 clear HK
 have A4 := tr_bl hb4 A3
 have hb5 := hb3.trans (hb4.mono hb3.size)
 have hs5 := hs.below hb5
 clear A3 hb3 hs3 hb4
 refine seqH (fun K HK => ?_)
 go_wp2_with (go_at_call 226; refine (hpa _ hs5).mono ?_; rintro e w5 ⟨rfl, hb6⟩)
 refine HK.out _ _ ?_
 clear HK
 have A5 := tr_al (Obj.cells #[.int .i64 tg.rep, .int .i64 tg.reg, .int .i64 tg.pla, .int .i64 tg.idx, .int .i64 tg.inc] 39) (tr_bl hb6 A4)
 have T5 := heap_alloc_new w5 (Obj.cells #[.int .i64 tg.rep, .int .i64 tg.reg, .int .i64 tg.pla, .int .i64 tg.idx, .int .i64 tg.inc] 39)
 have hb50 := hb5.trans (hb6.mono hb5.size)
 have hb7 := hb50.alloc hb50.size (Obj.cells #[.int .i64 tg.rep, .int .i64 tg.reg, .int .i64 tg.pla, .int .i64 tg.idx, .int .i64 tg.inc] 39)
 have hq0 : w.heap.size < w5.heap.size := Nat.lt_of_lt_of_le (lt_blk A4) (hb6.size)
 have hs7 := hs.below hb7
 clear A4 hb5 hs5 hb6 hb50 hpa g1
 generalize w5.alloc (Obj.cells #[.int .i64 tg.rep, .int .i64 tg.reg, .int .i64 tg.pla, .int .i64 tg.idx, .int .i64 tg.inc] 39) = w6 at *
 generalize w5.heap.size = q at *
 refine seqH (fun K HK => ?_)
 go_wp2
 refine HK.out _ _ ?_
 clear HK
 refine seqH (fun K HK => ?_)
 go_wp2_with (go_at_call 99; refine (g2 _ hs7).mono ?_; rintro e w8 ⟨rfl, hb8'⟩)
 refine HK.out _ _ ?_
 clear HK
 have C3 := tr_bl hb8' A5
 have T8 := tr_bl hb8' T5
 have hb8 := hb7.trans (hb8'.mono hb7.size)
 have hs8 := hs.below hb8
 clear g2 hs7 hb7 hb8' A5 T5
 have hsum := sum_any _ cap (l.take 60) w8 (hs8.take 60)
 rw [show (l.take 60).length = 60 by rw [List.length_take, HL.out]; rfl] at hsum
 have hno7 : ∀ w', Below w8.heap.size w8 w' → n ≤ 43 → Calls Tryz.prog 225 #[.slice (some ⟨b, off + (17 + n), none⟩) (60 - (17 + n)) (cap - (17 + n))] w' fun e w'' => e = .returned (.bool (noughtsB ((l.drop (17 + n)).take (64 - 21 - n)))) ∧ Below w'.heap.size w' w'' := fun w' hb hnr => by
  have := noughts_any _ _ ((l.drop (17 + n)).take (64 - 21 - n)) w' ((hs8.below hb).sub (17 + n) (64 - 21 - n) (by rw [HL.out]; omega))
  rw [show ((l.drop (17 + n)).take (64 - 21 - n)).length = 60 - (17 + n) by rw [List.length_take, List.length_drop, HL.out]; omega] at this
  exact this
 have hok : okF l 64 = (mayTg (tagAt l 2) && (decide (n ≤ 43) && (decide (s = crcS (l.take 60)) && noughtsB ((l.drop (17 + n)).take (64 - 21 - n))))) := by
  unfold okF
  rw [HN.out, show 64 - 4 = 60 from rfl, HS.out, show roomN 64 = 43 from rfl]
 rw [hok, HN.out]
 clear hok
 have hz := crcS_lt (l.take 60)
 generalize crcS (l.take 60) = z at *
 generalize hnd : noughtsB ((l.drop (17 + n)).take (64 - 21 - n)) = nd at *
 clear hnd
 rcases HPE.out with ⟨h1, h2, h3⟩ | ⟨h1, h3⟩
 case inr =>
  rw [h3, Bool.false_and, if_neg (by simp)]
  subst h1
  clear h3 HPE
  go_wp2_with (first
   | (go_at_call 116; refine (hroom _).mono ?_; rintro e w2 ⟨rfl, rfl⟩)
   | (go_at_call 180; refine hsum.mono ?_; rintro e w7 ⟨rfl, hb7⟩; have D3 := tr_bl hb7 C3; have hb9 := hb8.trans (hb7.mono hb8.size))
   | (go_at_call 225; refine (hno8 _ hb7).mono ?_; rintro e w8 ⟨rfl, hb10⟩; have E3 := tr_bl hb10 D3; have hb11 := hb9.trans (hb10.mono hb9.size))
   | ((with_reducible refine wpList_stB 39 _ _ ?_); refine ⟨_, _, _, ⟨_, _, _, Tryz.sizeOf39, rfl, C3, st5 _ rfl 0 0 0 0 0⟩, ?_⟩; intro w5 B5 g5))
  refine bodyPost_ret (results_t1c1t1 rfl rfl (run_loadVar_all Tryz.isAgg39 Tryz.sizeOf39 B5 rfl)) rfl ⟨FrRes.none rfl, bl_st hb8 g5 hb8.size (Nat.le_refl _)⟩
 case inl =>
  rw [h3, Bool.true_and]
  subst h1
  have HTG := Lib.hid h2
  clear h3 HPE h2
  by_cases hnr : n ≤ 43
  case neg =>
   rw [decide_eq_false hnr, Bool.false_and, if_neg (by simp)]
   have hI : (43 : Int) < n := by omega
   go_wp2_with (first
    | (go_at_call 116; refine (hroom _).mono ?_; rintro e w2 ⟨rfl, rfl⟩)
    | (go_at_call 180; refine hsum.mono ?_; rintro e w7 ⟨rfl, hb7⟩; have D3 := tr_bl hb7 C3; have hb9 := hb8.trans (hb7.mono hb8.size))
    | (go_at_call 225; refine (hno8 _ hb7).mono ?_; rintro e w8 ⟨rfl, hb10⟩; have E3 := tr_bl hb10 D3; have hb11 := hb9.trans (hb10.mono hb9.size))
    | ((with_reducible refine wpList_stB 39 _ _ ?_); refine ⟨_, _, _, ⟨_, _, _, Tryz.sizeOf39, rfl, C3, st5 _ rfl 0 0 0 0 0⟩, ?_⟩; intro w5 B5 g5))
   refine bodyPost_ret (results_t1c1t1 rfl rfl (run_loadVar_all Tryz.isAgg39 Tryz.sizeOf39 B5 rfl)) rfl ⟨FrRes.none rfl, bl_st hb8 g5 hb8.size (Nat.le_refl _)⟩
  case pos =>
   rw [decide_eq_true hnr, Bool.true_and]
   have hI : (n : Int) ≤ 43 := by omega
   have kn : ¬ cap = 17 + n := by omega
   have hno8 := fun w' h => hno7 w' h hnr
   clear hno7
   by_cases hsz : s = z
   case neg =>
    rw [decide_eq_false hsz, Bool.false_and, if_neg (by simp)]
    have hne : ((s : Int) != (z : Int)) = true := by rw [bne_iff_ne]; omega
    go_wp2_with (first
     | (go_at_call 116; refine (hroom _).mono ?_; rintro e w2 ⟨rfl, rfl⟩)
     | (go_at_call 180; refine hsum.mono ?_; rintro e w7 ⟨rfl, hb7⟩; have D3 := tr_bl hb7 C3; have hb9 := hb8.trans (hb7.mono hb8.size))
     | (go_at_call 225; refine (hno8 _ hb7).mono ?_; rintro e w8 ⟨rfl, hb10⟩; have E3 := tr_bl hb10 D3; have hb11 := hb9.trans (hb10.mono hb9.size))
     | ((with_reducible refine wpList_stB 39 _ _ ?_); refine ⟨_, _, _, ⟨_, _, _, Tryz.sizeOf39, rfl, D3, st5 _ rfl 0 0 0 0 0⟩, ?_⟩; intro w5 B5 g5))
    refine bodyPost_ret (results_t1c1t1 rfl rfl (run_loadVar_all Tryz.isAgg39 Tryz.sizeOf39 B5 rfl)) rfl ⟨FrRes.none rfl, bl_st hb9 g5 hb9.size (Nat.le_refl _)⟩
   case pos =>
    subst hsz
    rw [decide_eq_true rfl, Bool.true_and]
    have hne : ((s : Int) != (s : Int)) = false := by simp
    cases nd
    case false =>
     rw [if_neg (by simp)]
     go_wp2_with (first
      | (go_at_call 116; refine (hroom _).mono ?_; rintro e w2 ⟨rfl, rfl⟩)
      | (go_at_call 180; refine hsum.mono ?_; rintro e w7 ⟨rfl, hb7⟩; have D3 := tr_bl hb7 C3; have hb9 := hb8.trans (hb7.mono hb8.size))
      | (go_at_call 225; refine (hno8 _ hb7).mono ?_; rintro e w8 ⟨rfl, hb10⟩; have E3 := tr_bl hb10 D3; have hb11 := hb9.trans (hb10.mono hb9.size))
      | ((with_reducible refine wpList_stB 39 _ _ ?_); refine ⟨_, _, _, ⟨_, _, _, Tryz.sizeOf39, rfl, E3, st5 _ rfl 0 0 0 0 0⟩, ?_⟩; intro w5 B5 g5))
     refine bodyPost_ret (results_t1c1t1 rfl rfl (run_loadVar_all Tryz.isAgg39 Tryz.sizeOf39 B5 rfl)) rfl ⟨FrRes.none rfl, bl_st hb11 g5 hb11.size (Nat.le_refl _)⟩
    case true =>
     rw [if_pos rfl]
     refine seqH (fun K HK => ?_)
     go_wp2_with (first
           | (go_at_call 116; refine (hroom _).mono ?_; rintro e w2 ⟨rfl, rfl⟩)
           | (go_at_call 180; refine hsum.mono ?_; rintro e w7 ⟨rfl, hb7⟩; have D3 := tr_bl hb7 C3; have T7 := tr_bl hb7 T8; have hb9 := hb8.trans (hb7.mono hb8.size))
           | (go_at_call 225; refine (hno8 _ hb7).mono ?_; rintro e w9 ⟨rfl, hb10⟩; have E3 := tr_bl hb10 D3; have T9 := tr_bl hb10 T7; have hb11 := hb9.trans (hb10.mono hb9.size)))
     refine HK.out _ _ ?_
     clear HK
     have hbl : ((l.drop 17).take n).length = n := by rw [List.length_take, List.length_drop, HL.out]; omega
     have hcl := clone_any ⟨b, off + 17, none⟩ (cap - 17) ((l.drop 17).take n) w9 ((hs.below hb11).sub 17 n (by rw [HL.out]; omega)) (by omega)
     rw [hbl] at hcl
     have HBL := Lib.hid hbl
     clear hbl C3 T8 hs8 hsum hno8 hb7 D3 T7 hb9 hb10 hb8 hz
     refine seqH (fun K HK => ?_)
     go_wp2_with (go_at_call 214; refine hcl.mono ?_; rintro e w10 ⟨⟨g, c, rfl, hc1, hc2, ho⟩, hb12⟩)
     refine HK.out _ _ ?_
     clear HK
     clear hcl
     have F3 := tr_bl hb12 E3
     have T10 := tr_bl hb12 T9
     have hb13 := hb11.trans (hb12.mono hb11.size)
     have ho10 := ho.mono hb11.size
     clear E3 T9 hb11 hb12 ho
     unfold maxLen at hc2
     refine seqH (fun K HK => ?_)
     go_wp2_with fail
     have hbd := (Below.refl w10.heap.size w10).drew
     have F4 := tr_bl hbd F3
     have T11 := tr_bl hbd T10
     have hb14 := hb13.trans (hbd.mono hb13.size)
     have ho11 := ho10.below hbd
     clear F3 T10 hb13 ho10
     refine wp_region_held_drew (S := fun w' => w'.heap[q]? = some (.cells #[.int .i64 tg.rep, .int .i64 tg.reg, .int .i64 tg.pla, .int .i64 tg.idx, .int .i64 tg.inc] 39 (0, 0))) (by kernel_rfl) T11 (fun hS0 => ?_)
     clear hbd
     generalize w10.drew = x0 at *
     refine tkT 0 (v := .agg (#[.int .i64 tg.rep, .int .i64 tg.reg, .int .i64 tg.pla, .int .i64 tg.idx, .int .i64 tg.inc])) rfl (by intro wS hSw; exact exec_ldB 39 _ ⟨_, _, _, _, _, Tryz.isAgg39, Tryz.sizeOf39, rfl, hSw, ld5 _ _ _ _ _⟩) ?_
     refine tkT 1 rfl (by intro wS hSw; go_simp; (try with_reducible rfl)) ?_
     refine tkT 2 rfl (by intro wS hSw; go_simp; (try with_reducible rfl)) ?_
     refine tkT 3 rfl (by intro wS hSw; go_simp; (try with_reducible rfl)) ?_
     refine tkT 4 rfl (by intro wS hSw; go_simp; (try with_reducible rfl)) ?_
     refine tkT 5 rfl (by intro wS hSw; go_simp; (try with_reducible rfl)) ?_
     refine rdy1 6 rfl (fun K' hK' => ?_)
     refine wp_stB 39 _ _ ?_
     refine ⟨_, _, _, ⟨_, _, _, Tryz.sizeOf39, rfl, F4, st5 _ rfl tg.rep tg.reg tg.pla tg.idx tg.inc⟩, ?_⟩
     intro w11 B11 g11
     refine hK'.out _ _ (tr_st g11 hS0 (by omega)) (fun _ => ?_)
     clear hK'
     (try simp only [Act.put]); (try simp only [List.setIfInBounds_toArray]); (try simp only [List.set_cons_succ]); (try simp only [List.set_cons_zero])
     refine tkT 7 rfl (by intro wS hSw; go_simp; (try with_reducible rfl)) ?_
     refine wpAnyH_done (by kernel_rfl) ?_ _
     refine HK.out _ _ ?_
     clear HK
     go_wp2
     refine bodyPost_ret (results_t1c1t1 rfl rfl (run_loadVar_all Tryz.isAgg39 Tryz.sizeOf39 B11 rfl)) rfl ⟨⟨some ⟨g, 0, none⟩, n, ?_, ?_⟩, bl_st hb14 g11 hb14.size (Nat.le_refl _)⟩
     ·rw [HBL.out, ← HTG.out]
      rfl
     ·exact ho11.st g11 F4 (by decide)
end Go.Proofs.YtbdonjenekhmdaaGreatDoor
namespace Go.Proofs.YtbdonjenekhmdaaGreatDoor
open Go.RowKit
set_option maxRecDepth 100000 in
set_option maxHeartbeats 16000000 in
theorem open_m2 (b off : Nat) (cap : Nat) (l : List UInt8) (w : World) (hs : SlB w (some ⟨b, off, none⟩) cap l) (hl : l.length = 128) (hz : noughtsB l = false) : Calls Tryz.prog 211 #[.slice (some ⟨b, off, none⟩) 128 cap] w fun e w' => FrRes w.heap.size (openF l) e w' ∧ Below w.heap.size w w' := by
 rw [openF_ok (N := 128) hl (by decide) hz]
 have hroom : ∀ w, Calls Tryz.prog 116 #[.int .i64 2] w fun e w' => e = .returned (.int .i64 88) ∧ w = w' := fun w => room_any 2 w
 have hcap : 128 ≤ cap := by have := hs.le; omega
 have hmx := hs.max
 unfold maxLen at hmx
 have k2 : ¬ cap = 2 := by omega
 have k17 : ¬ cap = 17 := by omega
 have hbB := blw w (Obj.cells #[.int .i64 0, .int .i64 0, .int .i64 0, .int .i64 0, .int .i64 0] 39)
 have B3 := heap_alloc_new w (Obj.cells #[.int .i64 0, .int .i64 0, .int .i64 0, .int .i64 0, .int .i64 0] 39)
 have hno := noughts_any _ cap l (w.alloc (Obj.cells #[.int .i64 0, .int .i64 0, .int .i64 0, .int .i64 0, .int .i64 0] 39)) (hs.below hbB)
 rw [hl, hz] at hno
 obtain ⟨n, hn, hnlt⟩ : ∃ n, getN l 0 2 = n ∧ n < 65536 := ⟨_, rfl, getN_lt l 0 2⟩
 obtain ⟨s, hsn, hslt⟩ : ∃ s, getN l 124 4 = s ∧ s < 4294967296 := ⟨_, rfl, getN_lt l 124 4⟩
 have g1 : ∀ w', SlB w' (some ⟨b, off, none⟩) cap l → Calls Tryz.prog 99 #[.slice (some ⟨b, off, none⟩) 128 cap, .int .i64 0, .int .i64 2] w' fun e w'' => e = .returned (.tuple #[.int .i64 (n : Nat), .int .i64 2, .int .i64 0]) ∧ Below w'.heap.size w' w'' := fun w' h => by
  have := get_ok _ cap l 0 2 w' h (by omega) (by omega)
  rw [hl, hn] at this
  exact this
 have g2 : ∀ w', SlB w' (some ⟨b, off, none⟩) cap l → Calls Tryz.prog 99 #[.slice (some ⟨b, off, none⟩) 128 cap, .int .i64 124, .int .i64 4] w' fun e w'' => e = .returned (.tuple #[.int .i64 (s : Nat), .int .i64 128, .int .i64 0]) ∧ Below w'.heap.size w' w'' := fun w' h => by
  have := get_ok _ cap l 124 4 w' h (by omega) (by omega)
  rw [hl, hsn] at this
  exact this
 have hpa : ∀ w', SlB w' (some ⟨b, off, none⟩) cap l → Calls Tryz.prog 226 #[.slice (some ⟨b, off + 2, none⟩) 15 (cap - 2)] w' fun e w'' => e = .returned (.tuple #[tgV (parseT ((l.drop 2).take 15)).1, .int .i64 (parseT ((l.drop 2).take 15)).2]) ∧ Below w'.heap.size w' w'' := fun w' h =>
  tparse_any _ _ _ w' (h.sub 2 15 (by omega)) (by rw [List.length_take, List.length_drop]; omega)
 obtain ⟨tg, pe, hpt, hpe⟩ : ∃ tg pe, parseT ((l.drop 2).take 15) = (tg, pe) ∧ ((pe = 0 ∧ tg = tagAt l 2 ∧ mayTg (tagAt l 2) = true) ∨ (pe = 30 ∧ mayTg (tagAt l 2) = false)) := by
  unfold parseT
  rw [tagAt_sub]
  cases h : mayTg (tagAt l 2)
  ·exact ⟨_, _, rfl, .inr ⟨rfl, rfl⟩⟩
  ·exact ⟨_, _, rfl, .inl ⟨rfl, rfl, rfl⟩⟩
 rw [hpt] at hpa
 simp only at hpa
 have HPE := Lib.hid hpe
 have HL := Lib.hid hl
 have HN := Lib.hid hn
 have HS := Lib.hid hsn
 clear hpe hpt hz hl hn hsn
 go_enter Tryz.func211, Tryz.ntmps211
 refine seqH (fun K HK => ?_)
 go_wp2
 refine HK.out _ _ ?_
 clear HK
 refine seqH (fun K HK => ?_)
 go_wp2
 refine HK.out _ _ ?_
 clear HK
 refine seqH (fun K HK => ?_)
 go_wp2_with (go_at_call 116; refine (hroom _).mono ?_; rintro e w2 ⟨rfl, rfl⟩)
 refine HK.out _ _ ?_
 clear HK
 refine seqH (fun K HK => ?_)
 go_wp2_with (go_at_call 225; refine hno.mono ?_; rintro e w2 ⟨rfl, hb2⟩)
 refine HK.out _ _ ?_
 clear HK
 have A3 := tr_bl hb2 B3
 have hb3 := hbB.trans (hb2.mono hbB.size)
 have hs3 := hs.below hb3
 clear hno hb2 B3 hbB
 refine seqH (fun K HK => ?_)
 go_wp2_with (go_at_call 99; refine (g1 _ hs3).mono ?_; rintro e w4 ⟨rfl, hb4⟩)
 refine HK.out _ _ ?_
 clear HK
 have A4 := tr_bl hb4 A3
 have hb5 := hb3.trans (hb4.mono hb3.size)
 have hs5 := hs.below hb5
 clear A3 hb3 hs3 hb4
 refine seqH (fun K HK => ?_)
 go_wp2_with (go_at_call 226; refine (hpa _ hs5).mono ?_; rintro e w5 ⟨rfl, hb6⟩)
 refine HK.out _ _ ?_
 clear HK
 have A5 := tr_al (Obj.cells #[.int .i64 tg.rep, .int .i64 tg.reg, .int .i64 tg.pla, .int .i64 tg.idx, .int .i64 tg.inc] 39) (tr_bl hb6 A4)
 have T5 := heap_alloc_new w5 (Obj.cells #[.int .i64 tg.rep, .int .i64 tg.reg, .int .i64 tg.pla, .int .i64 tg.idx, .int .i64 tg.inc] 39)
 have hb50 := hb5.trans (hb6.mono hb5.size)
 have hb7 := hb50.alloc hb50.size (Obj.cells #[.int .i64 tg.rep, .int .i64 tg.reg, .int .i64 tg.pla, .int .i64 tg.idx, .int .i64 tg.inc] 39)
 have hq0 : w.heap.size < w5.heap.size := Nat.lt_of_lt_of_le (lt_blk A4) (hb6.size)
 have hs7 := hs.below hb7
 clear A4 hb5 hs5 hb6 hb50 hpa g1
 generalize w5.alloc (Obj.cells #[.int .i64 tg.rep, .int .i64 tg.reg, .int .i64 tg.pla, .int .i64 tg.idx, .int .i64 tg.inc] 39) = w6 at *
 generalize w5.heap.size = q at *
 refine seqH (fun K HK => ?_)
 go_wp2
 refine HK.out _ _ ?_
 clear HK
 refine seqH (fun K HK => ?_)
 go_wp2_with (go_at_call 99; refine (g2 _ hs7).mono ?_; rintro e w8 ⟨rfl, hb8'⟩)
 refine HK.out _ _ ?_
 clear HK
 have C3 := tr_bl hb8' A5
 have T8 := tr_bl hb8' T5
 have hb8 := hb7.trans (hb8'.mono hb7.size)
 have hs8 := hs.below hb8
 clear g2 hs7 hb7 hb8' A5 T5
 have hsum := sum_any _ cap (l.take 124) w8 (hs8.take 124)
 rw [show (l.take 124).length = 124 by rw [List.length_take, HL.out]; rfl] at hsum
 have hno7 : ∀ w', Below w8.heap.size w8 w' → n ≤ 88 → Calls Tryz.prog 225 #[.slice (some ⟨b, off + (17 + n), none⟩) (124 - (17 + n)) (cap - (17 + n))] w' fun e w'' => e = .returned (.bool (noughtsB ((l.drop (17 + n)).take (128 - 21 - n)))) ∧ Below w'.heap.size w' w'' := fun w' hb hnr => by
  have := noughts_any _ _ ((l.drop (17 + n)).take (128 - 21 - n)) w' ((hs8.below hb).sub (17 + n) (128 - 21 - n) (by rw [HL.out]; omega))
  rw [show ((l.drop (17 + n)).take (128 - 21 - n)).length = 124 - (17 + n) by rw [List.length_take, List.length_drop, HL.out]; omega] at this
  exact this
 have hok : okF l 128 = (mayTg (tagAt l 2) && (decide (n ≤ 88) && (decide (s = crcS (l.take 124)) && noughtsB ((l.drop (17 + n)).take (128 - 21 - n))))) := by
  unfold okF
  rw [HN.out, show 128 - 4 = 124 from rfl, HS.out, show roomN 128 = 88 from rfl]
 rw [hok, HN.out]
 clear hok
 have hz := crcS_lt (l.take 124)
 generalize crcS (l.take 124) = z at *
 generalize hnd : noughtsB ((l.drop (17 + n)).take (128 - 21 - n)) = nd at *
 clear hnd
 rcases HPE.out with ⟨h1, h2, h3⟩ | ⟨h1, h3⟩
 case inr =>
  rw [h3, Bool.false_and, if_neg (by simp)]
  subst h1
  clear h3 HPE
  go_wp2_with (first
   | (go_at_call 116; refine (hroom _).mono ?_; rintro e w2 ⟨rfl, rfl⟩)
   | (go_at_call 180; refine hsum.mono ?_; rintro e w7 ⟨rfl, hb7⟩; have D3 := tr_bl hb7 C3; have hb9 := hb8.trans (hb7.mono hb8.size))
   | (go_at_call 225; refine (hno8 _ hb7).mono ?_; rintro e w8 ⟨rfl, hb10⟩; have E3 := tr_bl hb10 D3; have hb11 := hb9.trans (hb10.mono hb9.size))
   | ((with_reducible refine wpList_stB 39 _ _ ?_); refine ⟨_, _, _, ⟨_, _, _, Tryz.sizeOf39, rfl, C3, st5 _ rfl 0 0 0 0 0⟩, ?_⟩; intro w5 B5 g5))
  refine bodyPost_ret (results_t1c1t1 rfl rfl (run_loadVar_all Tryz.isAgg39 Tryz.sizeOf39 B5 rfl)) rfl ⟨FrRes.none rfl, bl_st hb8 g5 hb8.size (Nat.le_refl _)⟩
 case inl =>
  rw [h3, Bool.true_and]
  subst h1
  have HTG := Lib.hid h2
  clear h3 HPE h2
  by_cases hnr : n ≤ 88
  case neg =>
   rw [decide_eq_false hnr, Bool.false_and, if_neg (by simp)]
   have hI : (88 : Int) < n := by omega
   go_wp2_with (first
    | (go_at_call 116; refine (hroom _).mono ?_; rintro e w2 ⟨rfl, rfl⟩)
    | (go_at_call 180; refine hsum.mono ?_; rintro e w7 ⟨rfl, hb7⟩; have D3 := tr_bl hb7 C3; have hb9 := hb8.trans (hb7.mono hb8.size))
    | (go_at_call 225; refine (hno8 _ hb7).mono ?_; rintro e w8 ⟨rfl, hb10⟩; have E3 := tr_bl hb10 D3; have hb11 := hb9.trans (hb10.mono hb9.size))
    | ((with_reducible refine wpList_stB 39 _ _ ?_); refine ⟨_, _, _, ⟨_, _, _, Tryz.sizeOf39, rfl, C3, st5 _ rfl 0 0 0 0 0⟩, ?_⟩; intro w5 B5 g5))
   refine bodyPost_ret (results_t1c1t1 rfl rfl (run_loadVar_all Tryz.isAgg39 Tryz.sizeOf39 B5 rfl)) rfl ⟨FrRes.none rfl, bl_st hb8 g5 hb8.size (Nat.le_refl _)⟩
  case pos =>
   rw [decide_eq_true hnr, Bool.true_and]
   have hI : (n : Int) ≤ 88 := by omega
   have kn : ¬ cap = 17 + n := by omega
   have hno8 := fun w' h => hno7 w' h hnr
   clear hno7
   by_cases hsz : s = z
   case neg =>
    rw [decide_eq_false hsz, Bool.false_and, if_neg (by simp)]
    have hne : ((s : Int) != (z : Int)) = true := by rw [bne_iff_ne]; omega
    go_wp2_with (first
     | (go_at_call 116; refine (hroom _).mono ?_; rintro e w2 ⟨rfl, rfl⟩)
     | (go_at_call 180; refine hsum.mono ?_; rintro e w7 ⟨rfl, hb7⟩; have D3 := tr_bl hb7 C3; have hb9 := hb8.trans (hb7.mono hb8.size))
     | (go_at_call 225; refine (hno8 _ hb7).mono ?_; rintro e w8 ⟨rfl, hb10⟩; have E3 := tr_bl hb10 D3; have hb11 := hb9.trans (hb10.mono hb9.size))
     | ((with_reducible refine wpList_stB 39 _ _ ?_); refine ⟨_, _, _, ⟨_, _, _, Tryz.sizeOf39, rfl, D3, st5 _ rfl 0 0 0 0 0⟩, ?_⟩; intro w5 B5 g5))
    refine bodyPost_ret (results_t1c1t1 rfl rfl (run_loadVar_all Tryz.isAgg39 Tryz.sizeOf39 B5 rfl)) rfl ⟨FrRes.none rfl, bl_st hb9 g5 hb9.size (Nat.le_refl _)⟩
   case pos =>
    subst hsz
    rw [decide_eq_true rfl, Bool.true_and]
    have hne : ((s : Int) != (s : Int)) = false := by simp
    cases nd
    case false =>
     rw [if_neg (by simp)]
     go_wp2_with (first
      | (go_at_call 116; refine (hroom _).mono ?_; rintro e w2 ⟨rfl, rfl⟩)
      | (go_at_call 180; refine hsum.mono ?_; rintro e w7 ⟨rfl, hb7⟩; have D3 := tr_bl hb7 C3; have hb9 := hb8.trans (hb7.mono hb8.size))
      | (go_at_call 225; refine (hno8 _ hb7).mono ?_; rintro e w8 ⟨rfl, hb10⟩; have E3 := tr_bl hb10 D3; have hb11 := hb9.trans (hb10.mono hb9.size))
      | ((with_reducible refine wpList_stB 39 _ _ ?_); refine ⟨_, _, _, ⟨_, _, _, Tryz.sizeOf39, rfl, E3, st5 _ rfl 0 0 0 0 0⟩, ?_⟩; intro w5 B5 g5))
     refine bodyPost_ret (results_t1c1t1 rfl rfl (run_loadVar_all Tryz.isAgg39 Tryz.sizeOf39 B5 rfl)) rfl ⟨FrRes.none rfl, bl_st hb11 g5 hb11.size (Nat.le_refl _)⟩
    case true =>
     rw [if_pos rfl]
     refine seqH (fun K HK => ?_)
     go_wp2_with (first
           | (go_at_call 116; refine (hroom _).mono ?_; rintro e w2 ⟨rfl, rfl⟩)
           | (go_at_call 180; refine hsum.mono ?_; rintro e w7 ⟨rfl, hb7⟩; have D3 := tr_bl hb7 C3; have T7 := tr_bl hb7 T8; have hb9 := hb8.trans (hb7.mono hb8.size))
           | (go_at_call 225; refine (hno8 _ hb7).mono ?_; rintro e w9 ⟨rfl, hb10⟩; have E3 := tr_bl hb10 D3; have T9 := tr_bl hb10 T7; have hb11 := hb9.trans (hb10.mono hb9.size)))
     refine HK.out _ _ ?_
     clear HK
     have hbl : ((l.drop 17).take n).length = n := by rw [List.length_take, List.length_drop, HL.out]; omega
     have hcl := clone_any ⟨b, off + 17, none⟩ (cap - 17) ((l.drop 17).take n) w9 ((hs.below hb11).sub 17 n (by rw [HL.out]; omega)) (by omega)
     rw [hbl] at hcl
     have HBL := Lib.hid hbl
     clear hbl C3 T8 hs8 hsum hno8 hb7 D3 T7 hb9 hb10 hb8 hz
     refine seqH (fun K HK => ?_)
     go_wp2_with (go_at_call 214; refine hcl.mono ?_; rintro e w10 ⟨⟨g, c, rfl, hc1, hc2, ho⟩, hb12⟩)
     refine HK.out _ _ ?_
     clear HK
     clear hcl
     have F3 := tr_bl hb12 E3
     have T10 := tr_bl hb12 T9
     have hb13 := hb11.trans (hb12.mono hb11.size)
     have ho10 := ho.mono hb11.size
     clear E3 T9 hb11 hb12 ho
     unfold maxLen at hc2
     refine seqH (fun K HK => ?_)
     go_wp2_with fail
     have hbd := (Below.refl w10.heap.size w10).drew
     have F4 := tr_bl hbd F3
     have T11 := tr_bl hbd T10
     have hb14 := hb13.trans (hbd.mono hb13.size)
     have ho11 := ho10.below hbd
     clear F3 T10 hb13 ho10
     refine wp_region_held_drew (S := fun w' => w'.heap[q]? = some (.cells #[.int .i64 tg.rep, .int .i64 tg.reg, .int .i64 tg.pla, .int .i64 tg.idx, .int .i64 tg.inc] 39 (0, 0))) (by kernel_rfl) T11 (fun hS0 => ?_)
     clear hbd
     generalize w10.drew = x0 at *
     refine tkT 0 (v := .agg (#[.int .i64 tg.rep, .int .i64 tg.reg, .int .i64 tg.pla, .int .i64 tg.idx, .int .i64 tg.inc])) rfl (by intro wS hSw; exact exec_ldB 39 _ ⟨_, _, _, _, _, Tryz.isAgg39, Tryz.sizeOf39, rfl, hSw, ld5 _ _ _ _ _⟩) ?_
     refine tkT 1 rfl (by intro wS hSw; go_simp; (try with_reducible rfl)) ?_
     refine tkT 2 rfl (by intro wS hSw; go_simp; (try with_reducible rfl)) ?_
     refine tkT 3 rfl (by intro wS hSw; go_simp; (try with_reducible rfl)) ?_
     refine tkT 4 rfl (by intro wS hSw; go_simp; (try with_reducible rfl)) ?_
     refine tkT 5 rfl (by intro wS hSw; go_simp; (try with_reducible rfl)) ?_
     refine rdy1 6 rfl (fun K' hK' => ?_)
     refine wp_stB 39 _ _ ?_
     refine ⟨_, _, _, ⟨_, _, _, Tryz.sizeOf39, rfl, F4, st5 _ rfl tg.rep tg.reg tg.pla tg.idx tg.inc⟩, ?_⟩
     intro w11 B11 g11
     refine hK'.out _ _ (tr_st g11 hS0 (by omega)) (fun _ => ?_)
     clear hK'
     (try simp only [Act.put]); (try simp only [List.setIfInBounds_toArray]); (try simp only [List.set_cons_succ]); (try simp only [List.set_cons_zero])
     refine tkT 7 rfl (by intro wS hSw; go_simp; (try with_reducible rfl)) ?_
     refine wpAnyH_done (by kernel_rfl) ?_ _
     refine HK.out _ _ ?_
     clear HK
     go_wp2
     refine bodyPost_ret (results_t1c1t1 rfl rfl (run_loadVar_all Tryz.isAgg39 Tryz.sizeOf39 B11 rfl)) rfl ⟨⟨some ⟨g, 0, none⟩, n, ?_, ?_⟩, bl_st hb14 g11 hb14.size (Nat.le_refl _)⟩
     ·rw [HBL.out, ← HTG.out]
      rfl
     ·exact ho11.st g11 F4 (by decide)
end Go.Proofs.YtbdonjenekhmdaaGreatDoor
namespace Go.Proofs.YtbdonjenekhmdaaGreatDoor
open Go.RowKit
theorem open_any (a : Option Addr) (cap : Nat) (l : List UInt8) (w : World) (hs : SlB w a cap l) (hl : l.length ≤ 1000) : Calls Tryz.prog 211 #[.slice a l.length cap] w fun e w' => FrRes w.heap.size (openF l) e w' ∧ Below w.heap.size w w' := by
 by_cases hr : roomN l.length = 0
 ·exact open_odd a cap l w hl hr
 ·obtain ⟨h64, _⟩ := roomN_of (n := l.length) (by omega)
  rcases h64 with h | h
  ·rw [h]
   cases hz : noughtsB l
   ·obtain ⟨b, off, rfl⟩ := hs.some_of (by omega)
    exact open_m1 b off cap l w hs h hz
   ·exact open_n1 a cap l w hs h hz
  ·rw [h]
   cases hz : noughtsB l
   ·obtain ⟨b, off, rfl⟩ := hs.some_of (by omega)
    exact open_m2 b off cap l w hs h hz
   ·exact open_n2 a cap l w hs h hz
set_option maxRecDepth 100000 in
set_option maxHeartbeats 8000000 in
theorem mine_any (a : Option Addr) (cap : Nat) (l : List UInt8) (rep reg pla : Int) (w : World) (hs : SlB w a cap l) (hl : l.length ≤ 1000) : Calls Tryz.prog 171 #[.slice a l.length cap, .int .i64 rep, .int .i64 reg, .int .i64 pla] w fun e w' => FrRes w.heap.size (mineF l rep reg pla) e w' ∧ Below w.heap.size w w' := by
 obtain ⟨st, tg, body, hr⟩ : ∃ st tg body, openF l = (st, tg, body) := ⟨_, _, _, rfl⟩
 unfold mineF
 rw [hr]
 have HR := Lib.hid hr
 clear hr
 have hbB := blw w (Obj.cells #[.int .i64 0, .int .i64 0, .int .i64 0, .int .i64 0, .int .i64 0] 39)
 have B3 := heap_alloc_new w (Obj.cells #[.int .i64 0, .int .i64 0, .int .i64 0, .int .i64 0, .int .i64 0] 39)
 simp only
 by_cases hst : st = 1
 case neg =>
  rw [if_neg (fun hh => hst hh.1)]
  have h0 : ((st : Int) == 1) = false := by rw [beq_eq_false_iff_ne]; omega
  clear hst
  go_enter Tryz.func171, Tryz.ntmps171
  refine seqH (fun K HK => ?_)
  go_wp2
  refine HK.out _ _ ?_
  clear HK
  refine seqH (fun K HK => ?_)
  go_wp2_with (go_at_call 211; refine (open_any a cap l _ (hs.below hbB) hl).mono ?_; rintro e w2 ⟨⟨a2, c2, rfl, ho2⟩, hb2⟩; rw [HR.out] at ho2; rw [HR.out]; have A3 := tr_bl hb2 B3)
  refine HK.out _ _ ?_
  clear HK
  have C3 := tr_al (Obj.cells #[.int .i64 tg.rep, .int .i64 tg.reg, .int .i64 tg.pla, .int .i64 tg.idx, .int .i64 tg.inc] 39) A3
  have T3 := heap_alloc_new w2 (Obj.cells #[.int .i64 tg.rep, .int .i64 tg.reg, .int .i64 tg.pla, .int .i64 tg.idx, .int .i64 tg.inc] 39)
  have hb3 := hbB.trans (hb2.mono hbB.size)
  have hb4 := hb3.alloc hb3.size (Obj.cells #[.int .i64 tg.rep, .int .i64 tg.reg, .int .i64 tg.pla, .int .i64 tg.idx, .int .i64 tg.inc] 39)
  have hq : w.heap.size < w2.heap.size := lt_blk A3
  have ho3 := (ho2.mono hbB.size).below (blw w2 (Obj.cells #[.int .i64 tg.rep, .int .i64 tg.reg, .int .i64 tg.pla, .int .i64 tg.idx, .int .i64 tg.inc] 39))
  clear A3 hb2 hb3 ho2
  generalize w2.alloc (Obj.cells #[.int .i64 tg.rep, .int .i64 tg.reg, .int .i64 tg.pla, .int .i64 tg.idx, .int .i64 tg.inc] 39) = w3 at *
  generalize w2.heap.size = q at *
  have q0 := blk_cell T3 0 _ rfl
  have q1 := blk_cell T3 1 _ rfl
  have q2 := blk_cell T3 2 _ rfl
  refine seqH (fun K HK => ?_)
  go_wp2
  refine HK.out _ _ ?_
  clear HK
  refine seqH (fun K HK => ?_)
  go_wp2_with fail
  have hbd := (Below.refl w3.heap.size w3).drew
  have F4 := tr_bl hbd C3
  have T11 := tr_bl hbd T3
  have hb14 := hb4.trans (hbd.mono hb4.size)
  have ho11 := ho3.below hbd
  clear C3 T3 hb4 ho3 q0 q1 q2
  refine wp_region_held_drew (S := fun w' => w'.heap[q]? = some (.cells #[.int .i64 tg.rep, .int .i64 tg.reg, .int .i64 tg.pla, .int .i64 tg.idx, .int .i64 tg.inc] 39 (0, 0))) (by kernel_rfl) T11 (fun hS0 => ?_)
  clear hbd
  generalize w3.drew = x0 at *
  refine tkT 0 rfl (by intro wS hSw; go_simp; (try with_reducible rfl)) ?_
  refine tkT 1 (v := .agg (#[.int .i64 tg.rep, .int .i64 tg.reg, .int .i64 tg.pla, .int .i64 tg.idx, .int .i64 tg.inc])) rfl (by intro wS hSw; exact exec_ldB 39 _ ⟨_, _, _, _, _, Tryz.isAgg39, Tryz.sizeOf39, rfl, hSw, ld5 _ _ _ _ _⟩) ?_
  refine tkT 2 rfl (by intro wS hSw; go_simp; (try with_reducible rfl)) ?_
  refine tkT 3 rfl (by intro wS hSw; go_simp; (try with_reducible rfl)) ?_
  refine rdy1 4 rfl (fun K' hK' => ?_)
  refine wp_stB 39 _ _ ?_
  refine ⟨_, _, _, ⟨_, _, _, Tryz.sizeOf39, rfl, F4, st5 _ rfl tg.rep tg.reg tg.pla tg.idx tg.inc⟩, ?_⟩
  intro w11 B11 g11
  refine hK'.out _ _ (tr_st g11 hS0 (by omega)) (fun _ => ?_)
  clear hK'
  (try simp only [Act.put]); (try simp only [List.setIfInBounds_toArray]); (try simp only [List.set_cons_succ]); (try simp only [List.set_cons_zero])
  refine tkT 5 rfl (by intro wS hSw; go_simp; (try with_reducible rfl)) ?_
  refine wpAnyH_done (by kernel_rfl) ?_ _
  refine HK.out _ _ ?_
  clear HK
  go_wp2
  refine bodyPost_ret (results_t1c1t1 rfl rfl (run_loadVar_all Tryz.isAgg39 Tryz.sizeOf39 B11 rfl)) rfl ⟨⟨a2, c2, rfl, ho11.st g11 F4 (by decide)⟩, bl_st hb14 g11 hb14.size (Nat.le_refl _)⟩
 case pos =>
  subst hst
  have h0 : (((1 : Nat) : Int) == 1) = true := rfl
  by_cases h1 : tg.rep = rep
  case neg =>
   rw [if_pos ⟨rfl, .inl h1⟩]
   have e1 : (tg.rep != rep) = true := by rw [bne_iff_ne]; exact h1
   go_enter Tryz.func171, Tryz.ntmps171
   refine seqH (fun K HK => ?_)
   go_wp2
   refine HK.out _ _ ?_
   clear HK
   refine seqH (fun K HK => ?_)
   go_wp2_with (go_at_call 211; refine (open_any a cap l _ (hs.below hbB) hl).mono ?_; rintro e w2 ⟨⟨a2, c2, rfl, ho2⟩, hb2⟩; rw [HR.out] at ho2; rw [HR.out]; have A3 := tr_bl hb2 B3)
   refine HK.out _ _ ?_
   clear HK
   have C3 := tr_al (Obj.cells #[.int .i64 tg.rep, .int .i64 tg.reg, .int .i64 tg.pla, .int .i64 tg.idx, .int .i64 tg.inc] 39) A3
   have T3 := heap_alloc_new w2 (Obj.cells #[.int .i64 tg.rep, .int .i64 tg.reg, .int .i64 tg.pla, .int .i64 tg.idx, .int .i64 tg.inc] 39)
   have hb3 := hbB.trans (hb2.mono hbB.size)
   have hb4 := hb3.alloc hb3.size (Obj.cells #[.int .i64 tg.rep, .int .i64 tg.reg, .int .i64 tg.pla, .int .i64 tg.idx, .int .i64 tg.inc] 39)
   have hq : w.heap.size < w2.heap.size := lt_blk A3
   have ho3 := (ho2.mono hbB.size).below (blw w2 (Obj.cells #[.int .i64 tg.rep, .int .i64 tg.reg, .int .i64 tg.pla, .int .i64 tg.idx, .int .i64 tg.inc] 39))
   clear A3 hb2 hb3 ho2
   generalize w2.alloc (Obj.cells #[.int .i64 tg.rep, .int .i64 tg.reg, .int .i64 tg.pla, .int .i64 tg.idx, .int .i64 tg.inc] 39) = w3 at *
   generalize w2.heap.size = q at *
   have q0 := blk_cell T3 0 _ rfl
   have q1 := blk_cell T3 1 _ rfl
   have q2 := blk_cell T3 2 _ rfl
   go_wp2_with ((with_reducible refine wpList_stB 39 _ _ ?_); refine ⟨_, _, _, ⟨_, _, _, Tryz.sizeOf39, rfl, C3, st5 _ rfl 0 0 0 0 0⟩, ?_⟩; intro w5 B5 g5)
   refine bodyPost_ret (results_t1c1t1 rfl rfl (run_loadVar_all Tryz.isAgg39 Tryz.sizeOf39 B5 rfl)) rfl ⟨FrRes.none rfl, bl_st hb4 g5 hb4.size (Nat.le_refl _)⟩
  case pos =>
   have e1 : (tg.rep != rep) = false := by simpa using h1
   by_cases h2 : tg.reg = reg
   case neg =>
    rw [if_pos ⟨rfl, .inr (.inl h2)⟩]
    have e2 : (tg.reg != reg) = true := by rw [bne_iff_ne]; exact h2
    clear h1
    go_enter Tryz.func171, Tryz.ntmps171
    refine seqH (fun K HK => ?_)
    go_wp2
    refine HK.out _ _ ?_
    clear HK
    refine seqH (fun K HK => ?_)
    go_wp2_with (go_at_call 211; refine (open_any a cap l _ (hs.below hbB) hl).mono ?_; rintro e w2 ⟨⟨a2, c2, rfl, ho2⟩, hb2⟩; rw [HR.out] at ho2; rw [HR.out]; have A3 := tr_bl hb2 B3)
    refine HK.out _ _ ?_
    clear HK
    have C3 := tr_al (Obj.cells #[.int .i64 tg.rep, .int .i64 tg.reg, .int .i64 tg.pla, .int .i64 tg.idx, .int .i64 tg.inc] 39) A3
    have T3 := heap_alloc_new w2 (Obj.cells #[.int .i64 tg.rep, .int .i64 tg.reg, .int .i64 tg.pla, .int .i64 tg.idx, .int .i64 tg.inc] 39)
    have hb3 := hbB.trans (hb2.mono hbB.size)
    have hb4 := hb3.alloc hb3.size (Obj.cells #[.int .i64 tg.rep, .int .i64 tg.reg, .int .i64 tg.pla, .int .i64 tg.idx, .int .i64 tg.inc] 39)
    have hq : w.heap.size < w2.heap.size := lt_blk A3
    have ho3 := (ho2.mono hbB.size).below (blw w2 (Obj.cells #[.int .i64 tg.rep, .int .i64 tg.reg, .int .i64 tg.pla, .int .i64 tg.idx, .int .i64 tg.inc] 39))
    clear A3 hb2 hb3 ho2
    generalize w2.alloc (Obj.cells #[.int .i64 tg.rep, .int .i64 tg.reg, .int .i64 tg.pla, .int .i64 tg.idx, .int .i64 tg.inc] 39) = w3 at *
    generalize w2.heap.size = q at *
    have q0 := blk_cell T3 0 _ rfl
    have q1 := blk_cell T3 1 _ rfl
    have q2 := blk_cell T3 2 _ rfl
    go_wp2_with ((with_reducible refine wpList_stB 39 _ _ ?_); refine ⟨_, _, _, ⟨_, _, _, Tryz.sizeOf39, rfl, C3, st5 _ rfl 0 0 0 0 0⟩, ?_⟩; intro w5 B5 g5)
    refine bodyPost_ret (results_t1c1t1 rfl rfl (run_loadVar_all Tryz.isAgg39 Tryz.sizeOf39 B5 rfl)) rfl ⟨FrRes.none rfl, bl_st hb4 g5 hb4.size (Nat.le_refl _)⟩
   case pos =>
    have e2 : (tg.reg != reg) = false := by simpa using h2
    by_cases h3 : tg.pla = pla
    case neg =>
     rw [if_pos ⟨rfl, .inr (.inr h3)⟩]
     have e3 : (tg.pla != pla) = true := by rw [bne_iff_ne]; exact h3
     clear h1 h2
     go_enter Tryz.func171, Tryz.ntmps171
     refine seqH (fun K HK => ?_)
     go_wp2
     refine HK.out _ _ ?_
     clear HK
     refine seqH (fun K HK => ?_)
     go_wp2_with (go_at_call 211; refine (open_any a cap l _ (hs.below hbB) hl).mono ?_; rintro e w2 ⟨⟨a2, c2, rfl, ho2⟩, hb2⟩; rw [HR.out] at ho2; rw [HR.out]; have A3 := tr_bl hb2 B3)
     refine HK.out _ _ ?_
     clear HK
     have C3 := tr_al (Obj.cells #[.int .i64 tg.rep, .int .i64 tg.reg, .int .i64 tg.pla, .int .i64 tg.idx, .int .i64 tg.inc] 39) A3
     have T3 := heap_alloc_new w2 (Obj.cells #[.int .i64 tg.rep, .int .i64 tg.reg, .int .i64 tg.pla, .int .i64 tg.idx, .int .i64 tg.inc] 39)
     have hb3 := hbB.trans (hb2.mono hbB.size)
     have hb4 := hb3.alloc hb3.size (Obj.cells #[.int .i64 tg.rep, .int .i64 tg.reg, .int .i64 tg.pla, .int .i64 tg.idx, .int .i64 tg.inc] 39)
     have hq : w.heap.size < w2.heap.size := lt_blk A3
     have ho3 := (ho2.mono hbB.size).below (blw w2 (Obj.cells #[.int .i64 tg.rep, .int .i64 tg.reg, .int .i64 tg.pla, .int .i64 tg.idx, .int .i64 tg.inc] 39))
     clear A3 hb2 hb3 ho2
     generalize w2.alloc (Obj.cells #[.int .i64 tg.rep, .int .i64 tg.reg, .int .i64 tg.pla, .int .i64 tg.idx, .int .i64 tg.inc] 39) = w3 at *
     generalize w2.heap.size = q at *
     have q0 := blk_cell T3 0 _ rfl
     have q1 := blk_cell T3 1 _ rfl
     have q2 := blk_cell T3 2 _ rfl
     go_wp2_with ((with_reducible refine wpList_stB 39 _ _ ?_); refine ⟨_, _, _, ⟨_, _, _, Tryz.sizeOf39, rfl, C3, st5 _ rfl 0 0 0 0 0⟩, ?_⟩; intro w5 B5 g5)
     refine bodyPost_ret (results_t1c1t1 rfl rfl (run_loadVar_all Tryz.isAgg39 Tryz.sizeOf39 B5 rfl)) rfl ⟨FrRes.none rfl, bl_st hb4 g5 hb4.size (Nat.le_refl _)⟩
    case pos =>
     rw [if_neg (by rintro ⟨_, h | h | h⟩ <;> contradiction)]
     have e3 : (tg.pla != pla) = false := by simpa using h3
     clear h1 h2 h3
     go_enter Tryz.func171, Tryz.ntmps171
     refine seqH (fun K HK => ?_)
     go_wp2
     refine HK.out _ _ ?_
     clear HK
     refine seqH (fun K HK => ?_)
     go_wp2_with (go_at_call 211; refine (open_any a cap l _ (hs.below hbB) hl).mono ?_; rintro e w2 ⟨⟨a2, c2, rfl, ho2⟩, hb2⟩; rw [HR.out] at ho2; rw [HR.out]; have A3 := tr_bl hb2 B3)
     refine HK.out _ _ ?_
     clear HK
     have C3 := tr_al (Obj.cells #[.int .i64 tg.rep, .int .i64 tg.reg, .int .i64 tg.pla, .int .i64 tg.idx, .int .i64 tg.inc] 39) A3
     have T3 := heap_alloc_new w2 (Obj.cells #[.int .i64 tg.rep, .int .i64 tg.reg, .int .i64 tg.pla, .int .i64 tg.idx, .int .i64 tg.inc] 39)
     have hb3 := hbB.trans (hb2.mono hbB.size)
     have hb4 := hb3.alloc hb3.size (Obj.cells #[.int .i64 tg.rep, .int .i64 tg.reg, .int .i64 tg.pla, .int .i64 tg.idx, .int .i64 tg.inc] 39)
     have hq : w.heap.size < w2.heap.size := lt_blk A3
     have ho3 := (ho2.mono hbB.size).below (blw w2 (Obj.cells #[.int .i64 tg.rep, .int .i64 tg.reg, .int .i64 tg.pla, .int .i64 tg.idx, .int .i64 tg.inc] 39))
     clear A3 hb2 hb3 ho2
     generalize w2.alloc (Obj.cells #[.int .i64 tg.rep, .int .i64 tg.reg, .int .i64 tg.pla, .int .i64 tg.idx, .int .i64 tg.inc] 39) = w3 at *
     generalize w2.heap.size = q at *
     have q0 := blk_cell T3 0 _ rfl
     have q1 := blk_cell T3 1 _ rfl
     have q2 := blk_cell T3 2 _ rfl
     refine seqH (fun K HK => ?_)
     go_wp2
     refine HK.out _ _ ?_
     clear HK
     refine seqH (fun K HK => ?_)
     go_wp2_with fail
     have hbd := (Below.refl w3.heap.size w3).drew
     have F4 := tr_bl hbd C3
     have T11 := tr_bl hbd T3
     have hb14 := hb4.trans (hbd.mono hb4.size)
     have ho11 := ho3.below hbd
     clear C3 T3 hb4 ho3 q0 q1 q2
     refine wp_region_held_drew (S := fun w' => w'.heap[q]? = some (.cells #[.int .i64 tg.rep, .int .i64 tg.reg, .int .i64 tg.pla, .int .i64 tg.idx, .int .i64 tg.inc] 39 (0, 0))) (by kernel_rfl) T11 (fun hS0 => ?_)
     clear hbd
     generalize w3.drew = x0 at *
     refine tkT 0 rfl (by intro wS hSw; go_simp; (try with_reducible rfl)) ?_
     refine tkT 1 (v := .agg (#[.int .i64 tg.rep, .int .i64 tg.reg, .int .i64 tg.pla, .int .i64 tg.idx, .int .i64 tg.inc])) rfl (by intro wS hSw; exact exec_ldB 39 _ ⟨_, _, _, _, _, Tryz.isAgg39, Tryz.sizeOf39, rfl, hSw, ld5 _ _ _ _ _⟩) ?_
     refine tkT 2 rfl (by intro wS hSw; go_simp; (try with_reducible rfl)) ?_
     refine tkT 3 rfl (by intro wS hSw; go_simp; (try with_reducible rfl)) ?_
     refine rdy1 4 rfl (fun K' hK' => ?_)
     refine wp_stB 39 _ _ ?_
     refine ⟨_, _, _, ⟨_, _, _, Tryz.sizeOf39, rfl, F4, st5 _ rfl tg.rep tg.reg tg.pla tg.idx tg.inc⟩, ?_⟩
     intro w11 B11 g11
     refine hK'.out _ _ (tr_st g11 hS0 (by omega)) (fun _ => ?_)
     clear hK'
     (try simp only [Act.put]); (try simp only [List.setIfInBounds_toArray]); (try simp only [List.set_cons_succ]); (try simp only [List.set_cons_zero])
     refine tkT 5 rfl (by intro wS hSw; go_simp; (try with_reducible rfl)) ?_
     refine wpAnyH_done (by kernel_rfl) ?_ _
     refine HK.out _ _ ?_
     clear HK
     go_wp2
     refine bodyPost_ret (results_t1c1t1 rfl rfl (run_loadVar_all Tryz.isAgg39 Tryz.sizeOf39 B11 rfl)) rfl ⟨⟨a2, c2, rfl, ho11.st g11 F4 (by decide)⟩, bl_st hb14 g11 hb14.size (Nat.le_refl _)⟩
end Go.Proofs.YtbdonjenekhmdaaGreatDoor
namespace Go.Proofs.YtbdonjenekhmdaaGreatDoor
open Go.RowKit
def txB (l : List UInt8) : ByteArray := ⟨l.toArray⟩
theorem conv_bys (ad : Option Addr) (c : Nat) (p : List UInt8) (w : World) (h : Row w ad (bys p)) : (convert 37 9 (.slice ad p.length c)).run Tryz.prog w = .ok (.string (txB p)) w := by
 cases ad with
 | none =>
  have hp : p = [] := by
   rcases h with h | ⟨b, off, ha, _⟩
   ·have := congrArg List.length h
    rw [bys_len] at this
    exact List.eq_nil_of_length_eq_zero this
   ·cases ha
  subst hp
  exact run_convert_bytes_nil w _ _ Tryz.underlying37 Tryz.underlying5 _ _ _ Tryz.underlying9
 | some ad =>
  refine run_convert_bytes_back (P := Tryz.prog) w _ _ 5 ad c p Tryz.underlying37 Tryz.underlying5 Tryz.underlying9 (fun j hj => ?_)
  obtain ⟨b, off, ha, hc⟩ := h.at (k := j) (by rw [bys_len]; exact hj)
  injection ha with ha
  subst ha
  rw [addr_add]
  exact hc j _ (by simp [bys, hj, byv])
set_option maxRecDepth 100000 in
theorem equal_any (a b : Option Addr) (c d : Nat) (l m : List UInt8) (w : World) (hl : Row w a (bys l)) (hm : Row w b (bys m)) : Calls Tryz.prog 176 #[.slice a l.length c, .slice b m.length d] w fun e w' => e = .returned (.bool (decide (l = m))) ∧ w = w' := by
 have h1 := conv_bys a c l w hl
 have h2 := conv_bys b d m w hm
 by_cases h : l = m
 ·subst h
  rw [decide_eq_true rfl]
  go_enter Tryz.func176, Tryz.ntmps176
  go_wp2
  go_ret
  exact ⟨rfl, rfl⟩
 ·rw [decide_eq_false h]
  have hlst : ∀ l : List UInt8, (txB l).toList = l := fun l => by
   rw [ByteArray.toList_eq]
   rfl
  have hne : ((txB l).toList == (txB m).toList) = false := by
   rw [hlst, hlst, beq_eq_false_iff_ne]
   exact h
  clear hlst
  go_enter Tryz.func176, Tryz.ntmps176
  go_wp2
  go_ret
  exact ⟨rfl, rfl⟩
end Go.Proofs.YtbdonjenekhmdaaGreatDoor
namespace Go.Proofs.YtbdonjenekhmdaaGreatDoor
open Go.RowKit
def coA (st : Nat) (t : Tg) (v : Value) : Array Value := #[.int .u8 (st : Int), .int .i64 t.rep, .int .i64 t.reg, .int .i64 t.pla, .int .i64 t.idx, .int .i64 t.inc, v]
theorem coA_size (st : Nat) (t : Tg) (v : Value) : (coA st t v).size = 7 := rfl
section
variable {w : World} {q off : Nat} {T : TypeId} {st : Nat} {t : Tg} {v : Value}
theorem coA_0 (h : w.heap[q]? = some (.cells (coA st t v) T (0, 0))) : w.cell? ⟨q, 0, none⟩ = some (.int .u8 (st : Int)) := blk_cell h 0 _ rfl
theorem coA_4 (h : w.heap[q]? = some (.cells (coA st t v) T (0, 0))) : w.cell? ⟨q, 4, none⟩ = some (.int .i64 t.idx) := blk_cell h 4 _ rfl
theorem coA_5 (h : w.heap[q]? = some (.cells (coA st t v) T (0, 0))) : w.cell? ⟨q, 5, none⟩ = some (.int .i64 t.inc) := blk_cell h 5 _ rfl
theorem coA_6 (h : w.heap[q]? = some (.cells (coA st t v) T (0, 0))) : w.cell? ⟨q, 6, none⟩ = some v := blk_cell h 6 _ rfl
end
set_option maxRecDepth 100000 in
theorem over_any (c x : Cp) (v u : Value) (w : World) : Calls Tryz.prog 173 #[.agg (coA c.st c.tg v), .agg (coA x.st x.tg u)] w fun e w' => e = .returned (.bool (overC c x)) ∧ Below w.heap.size w w' := by
 unfold overC
 by_cases h1 : c.st = 1
 case neg =>
  rw [decide_eq_false h1, Bool.false_and]
  have e1 : ((c.st : Int) == 1) = false := by rw [beq_eq_false_iff_ne]; omega
  clear h1
  go_enter Tryz.func173, Tryz.ntmps173
  refine seqH (fun K HK => ?_)
  go_wp2
  have B1 := tr_al (Obj.cells (coA x.st x.tg u) 178) (heap_alloc_new w (Obj.cells (coA c.st c.tg v) 178))
  have B2 := heap_alloc_new (w.alloc (Obj.cells (coA c.st c.tg v) 178)) (Obj.cells (coA x.st x.tg u) 178)
  rw [show (w.alloc (Obj.cells (coA c.st c.tg v) 178)).heap.size = w.heap.size + 1 by simp] at B2
  have hb := (blw w (Obj.cells (coA c.st c.tg v) 178)).alloc (by simp) (Obj.cells (coA x.st x.tg u) 178)
  change K _ ((w.alloc (Obj.cells (coA c.st c.tg v) 178)).alloc (Obj.cells (coA x.st x.tg u) 178))
  generalize (w.alloc (Obj.cells (coA c.st c.tg v) 178)).alloc (Obj.cells (coA x.st x.tg u) 178) = w1 at *
  have a0 := coA_0 B1
  have a4 := coA_4 B1
  have a6 := coA_6 B1
  have b0 := coA_0 B2
  have b4 := coA_4 B2
  have b6 := coA_6 B2
  refine HK.out _ _ ?_
  clear HK B1 B2
  go_wp2
  go_ret
  exact ⟨rfl, hb⟩
 case pos =>
  rw [decide_eq_true h1, Bool.true_and]
  have e1 : ((c.st : Int) == 1) = true := by rw [beq_iff_eq]; omega
  clear h1
  by_cases h2 : x.st ≠ 1
  case pos =>
   rw [decide_eq_true h2, Bool.true_or]
   have e2 : ((x.st : Int) != 1) = true := by rw [bne_iff_ne]; omega
   clear h2
   go_enter Tryz.func173, Tryz.ntmps173
   refine seqH (fun K HK => ?_)
   go_wp2
   have B1 := tr_al (Obj.cells (coA x.st x.tg u) 178) (heap_alloc_new w (Obj.cells (coA c.st c.tg v) 178))
   have B2 := heap_alloc_new (w.alloc (Obj.cells (coA c.st c.tg v) 178)) (Obj.cells (coA x.st x.tg u) 178)
   rw [show (w.alloc (Obj.cells (coA c.st c.tg v) 178)).heap.size = w.heap.size + 1 by simp] at B2
   have hb := (blw w (Obj.cells (coA c.st c.tg v) 178)).alloc (by simp) (Obj.cells (coA x.st x.tg u) 178)
   change K _ ((w.alloc (Obj.cells (coA c.st c.tg v) 178)).alloc (Obj.cells (coA x.st x.tg u) 178))
   generalize (w.alloc (Obj.cells (coA c.st c.tg v) 178)).alloc (Obj.cells (coA x.st x.tg u) 178) = w1 at *
   have a0 := coA_0 B1
   have a4 := coA_4 B1
   have a6 := coA_6 B1
   have b0 := coA_0 B2
   have b4 := coA_4 B2
   have b6 := coA_6 B2
   refine HK.out _ _ ?_
   clear HK B1 B2
   go_wp2
   go_ret
   exact ⟨rfl, hb⟩
  case neg =>
   rw [decide_eq_false h2, Bool.false_or]
   have e2 : ((x.st : Int) != 1) = false := by rw [bne_eq_false_iff_eq]; omega
   clear h2
   go_enter Tryz.func173, Tryz.ntmps173
   refine seqH (fun K HK => ?_)
   go_wp2
   have B1 := tr_al (Obj.cells (coA x.st x.tg u) 178) (heap_alloc_new w (Obj.cells (coA c.st c.tg v) 178))
   have B2 := heap_alloc_new (w.alloc (Obj.cells (coA c.st c.tg v) 178)) (Obj.cells (coA x.st x.tg u) 178)
   rw [show (w.alloc (Obj.cells (coA c.st c.tg v) 178)).heap.size = w.heap.size + 1 by simp] at B2
   have hb := (blw w (Obj.cells (coA c.st c.tg v) 178)).alloc (by simp) (Obj.cells (coA x.st x.tg u) 178)
   change K _ ((w.alloc (Obj.cells (coA c.st c.tg v) 178)).alloc (Obj.cells (coA x.st x.tg u) 178))
   generalize (w.alloc (Obj.cells (coA c.st c.tg v) 178)).alloc (Obj.cells (coA x.st x.tg u) 178) = w1 at *
   have a0 := coA_0 B1
   have a4 := coA_4 B1
   have a6 := coA_6 B1
   have b0 := coA_0 B2
   have b4 := coA_4 B2
   have b6 := coA_6 B2
   refine HK.out _ _ ?_
   clear HK B1 B2
   go_wp2
   go_ret
   exact ⟨rfl, hb⟩
set_option maxRecDepth 100000 in
theorem pick_any (c x : Cp) (v u : Value) (w : World) : Calls Tryz.prog 172 #[.func (.func 173) #[.agg (coA c.st c.tg v)] #[], .agg (coA x.st x.tg u)] w fun e w' => e = .returned (.int .i64 (if overC c x = true then 1 else 0)) ∧ Below w.heap.size w w' := by
 have hov := over_any c x v u
 generalize overC c x = r at *
 go_enter Tryz.func172, Tryz.ntmps172
 refine seqH (fun K HK => ?_)
 go_wp2
 refine HK.out _ _ ?_
 clear HK
 have B2 := heap_alloc_new w (Obj.cells (coA x.st x.tg u) 178)
 have hb := blw w (Obj.cells (coA x.st x.tg u) 178)
 change Code.wp _ _ _ _ (w.alloc (Obj.cells (coA x.st x.tg u) 178))
 generalize w.alloc (Obj.cells (coA x.st x.tg u) 178) = w1 at *
 cases r
 case false =>
  go_wp2_with (first
   | ((with_reducible refine wpList_ldB 178 _ ?_); refine ⟨rfl, _, ⟨_, _, _, _, _, Tryz.isAgg178, Tryz.sizeOf178, rfl, ‹_›, arr_all (coA_size x.st x.tg u)⟩, ?_⟩)
   | (go_at_call 173; refine (hov _).mono ?_; rintro e w2 ⟨rfl, hb2⟩))
  go_ret
  exact ⟨rfl, hb.trans (hb2.mono hb.size)⟩
 case true =>
  go_wp2_with (first
   | ((with_reducible refine wpList_ldB 178 _ ?_); refine ⟨rfl, _, ⟨_, _, _, _, _, Tryz.isAgg178, Tryz.sizeOf178, rfl, ‹_›, arr_all (coA_size x.st x.tg u)⟩, ?_⟩)
   | (go_at_call 173; refine (hov _).mono ?_; rintro e w2 ⟨rfl, hb2⟩))
  go_ret
  exact ⟨rfl, hb.trans (hb2.mono hb.size)⟩
end Go.Proofs.YtbdonjenekhmdaaGreatDoor
namespace Go.Proofs.YtbdonjenekhmdaaGreatDoor
open Go.RowKit
def sameC (c x : Cp) : Bool := decide (c.st = x.st) && (decide (c.tg.idx = x.tg.idx) && decide (c.body = x.body))
set_option maxRecDepth 100000 in
theorem same_any (c x : Cp) (a b : Option Addr) (k m : Nat) (w : World) (hc : SlB w a k c.body) (hx : SlB w b m x.body) : Calls Tryz.prog 100 #[.agg (coA c.st c.tg (.slice a c.body.length k)), .agg (coA x.st x.tg (.slice b x.body.length m))] w fun e w' => e = .returned (.bool (sameC c x)) ∧ Below w.heap.size w w' := by
 unfold sameC
 by_cases h1 : c.st = x.st
 case neg =>
  rw [decide_eq_false h1, Bool.false_and]
  have e1 : ((c.st : Int) == (x.st : Int)) = false := by rw [beq_eq_false_iff_ne]; omega
  clear h1
  go_enter Tryz.func100, Tryz.ntmps100
  refine seqH (fun K HK => ?_)
  go_wp2
  have B1 := tr_al (Obj.cells (coA x.st x.tg (.slice b x.body.length m)) 178) (heap_alloc_new w (Obj.cells (coA c.st c.tg (.slice a c.body.length k)) 178))
  have B2 := heap_alloc_new (w.alloc (Obj.cells (coA c.st c.tg (.slice a c.body.length k)) 178)) (Obj.cells (coA x.st x.tg (.slice b x.body.length m)) 178)
  rw [show (w.alloc (Obj.cells (coA c.st c.tg (.slice a c.body.length k)) 178)).heap.size = w.heap.size + 1 by simp] at B2
  have hb := (blw w (Obj.cells (coA c.st c.tg (.slice a c.body.length k)) 178)).alloc (by simp) (Obj.cells (coA x.st x.tg (.slice b x.body.length m)) 178)
  change K _ ((w.alloc (Obj.cells (coA c.st c.tg (.slice a c.body.length k)) 178)).alloc (Obj.cells (coA x.st x.tg (.slice b x.body.length m)) 178))
  generalize (w.alloc (Obj.cells (coA c.st c.tg (.slice a c.body.length k)) 178)).alloc (Obj.cells (coA x.st x.tg (.slice b x.body.length m)) 178) = w1 at *
  have a0 := coA_0 B1
  have a4 := coA_4 B1
  have a6 := coA_6 B1
  have b0 := coA_0 B2
  have b4 := coA_4 B2
  have b6 := coA_6 B2
  refine HK.out _ _ ?_
  clear HK B1 B2
  go_wp2
  go_ret
  exact ⟨rfl, hb⟩
 case pos =>
  rw [decide_eq_true h1, Bool.true_and]
  have e1 : ((c.st : Int) == (x.st : Int)) = true := by rw [beq_iff_eq]; omega
  clear h1
  by_cases h2 : c.tg.idx = x.tg.idx
  case neg =>
   rw [decide_eq_false h2, Bool.false_and]
   have e2 : (c.tg.idx == x.tg.idx) = false := by rw [beq_eq_false_iff_ne]; exact h2
   clear h2
   go_enter Tryz.func100, Tryz.ntmps100
   refine seqH (fun K HK => ?_)
   go_wp2
   have B1 := tr_al (Obj.cells (coA x.st x.tg (.slice b x.body.length m)) 178) (heap_alloc_new w (Obj.cells (coA c.st c.tg (.slice a c.body.length k)) 178))
   have B2 := heap_alloc_new (w.alloc (Obj.cells (coA c.st c.tg (.slice a c.body.length k)) 178)) (Obj.cells (coA x.st x.tg (.slice b x.body.length m)) 178)
   rw [show (w.alloc (Obj.cells (coA c.st c.tg (.slice a c.body.length k)) 178)).heap.size = w.heap.size + 1 by simp] at B2
   have hb := (blw w (Obj.cells (coA c.st c.tg (.slice a c.body.length k)) 178)).alloc (by simp) (Obj.cells (coA x.st x.tg (.slice b x.body.length m)) 178)
   change K _ ((w.alloc (Obj.cells (coA c.st c.tg (.slice a c.body.length k)) 178)).alloc (Obj.cells (coA x.st x.tg (.slice b x.body.length m)) 178))
   generalize (w.alloc (Obj.cells (coA c.st c.tg (.slice a c.body.length k)) 178)).alloc (Obj.cells (coA x.st x.tg (.slice b x.body.length m)) 178) = w1 at *
   have a0 := coA_0 B1
   have a4 := coA_4 B1
   have a6 := coA_6 B1
   have b0 := coA_0 B2
   have b4 := coA_4 B2
   have b6 := coA_6 B2
   refine HK.out _ _ ?_
   clear HK B1 B2
   go_wp2
   go_ret
   exact ⟨rfl, hb⟩
  case pos =>
   rw [decide_eq_true h2, Bool.true_and]
   have e2 : (c.tg.idx == x.tg.idx) = true := by rw [beq_iff_eq]; exact h2
   clear h2
   obtain ⟨r, hr⟩ : ∃ r, decide (c.body = x.body) = r := ⟨_, rfl⟩
   rw [hr]
   have HR := Lib.hid hr
   clear hr
   go_enter Tryz.func100, Tryz.ntmps100
   refine seqH (fun K HK => ?_)
   go_wp2
   have B1 := tr_al (Obj.cells (coA x.st x.tg (.slice b x.body.length m)) 178) (heap_alloc_new w (Obj.cells (coA c.st c.tg (.slice a c.body.length k)) 178))
   have B2 := heap_alloc_new (w.alloc (Obj.cells (coA c.st c.tg (.slice a c.body.length k)) 178)) (Obj.cells (coA x.st x.tg (.slice b x.body.length m)) 178)
   rw [show (w.alloc (Obj.cells (coA c.st c.tg (.slice a c.body.length k)) 178)).heap.size = w.heap.size + 1 by simp] at B2
   have hb := (blw w (Obj.cells (coA c.st c.tg (.slice a c.body.length k)) 178)).alloc (by simp) (Obj.cells (coA x.st x.tg (.slice b x.body.length m)) 178)
   change K _ ((w.alloc (Obj.cells (coA c.st c.tg (.slice a c.body.length k)) 178)).alloc (Obj.cells (coA x.st x.tg (.slice b x.body.length m)) 178))
   generalize (w.alloc (Obj.cells (coA c.st c.tg (.slice a c.body.length k)) 178)).alloc (Obj.cells (coA x.st x.tg (.slice b x.body.length m)) 178) = w1 at *
   have a0 := coA_0 B1
   have a4 := coA_4 B1
   have a6 := coA_6 B1
   have b0 := coA_0 B2
   have b4 := coA_4 B2
   have b6 := coA_6 B2
   refine HK.out _ _ ?_
   clear HK B1 B2
   have heq := equal_any a b k m c.body x.body w1 (hc.below hb).row (hx.below hb).row
   rw [HR.out] at heq
   go_wp2_with (go_at_call 176; refine heq.mono ?_; rintro e w2 ⟨rfl, rfl⟩)
   go_ret
   exact ⟨rfl, hb⟩
def ceA (g : Nat) (rep reg : Int) (s0 : Nat) (t0 : Tg) (v0 : Value) (s1 : Nat) (t1 : Tg) (v1 : Value) : Array Value :=
 #[.pointer (some ⟨g, 0, none⟩), .int .i64 rep, .int .i64 reg, .int .u8 (s0 : Int), .int .i64 t0.rep, .int .i64 t0.reg, .int .i64 t0.pla, .int .i64 t0.idx, .int .i64 t0.inc, v0,
  .int .u8 (s1 : Int), .int .i64 t1.rep, .int .i64 t1.reg, .int .i64 t1.pla, .int .i64 t1.idx, .int .i64 t1.inc, v1]
section
variable {w : World} {q g : Nat} {rep reg : Int} {s0 s1 : Nat} {t0 t1 : Tg} {v0 v1 : Value}
theorem ceA_0 (h : w.heap[q]? = some (.cells (ceA g rep reg s0 t0 v0 s1 t1 v1) 181 (0, 0))) : w.cell? ⟨q, 0, none⟩ = some (.pointer (some ⟨g, 0, none⟩)) := blk_cell h 0 _ rfl
theorem ceA_1 (h : w.heap[q]? = some (.cells (ceA g rep reg s0 t0 v0 s1 t1 v1) 181 (0, 0))) : w.cell? ⟨q, 1, none⟩ = some (.int .i64 rep) := blk_cell h 1 _ rfl
theorem ceA_2 (h : w.heap[q]? = some (.cells (ceA g rep reg s0 t0 v0 s1 t1 v1) 181 (0, 0))) : w.cell? ⟨q, 2, none⟩ = some (.int .i64 reg) := blk_cell h 2 _ rfl
theorem ceA_7 (h : w.heap[q]? = some (.cells (ceA g rep reg s0 t0 v0 s1 t1 v1) 181 (0, 0))) : w.cell? ⟨q, 7, none⟩ = some (.int .i64 t0.idx) := blk_cell h 7 _ rfl
theorem ceA_9 (h : w.heap[q]? = some (.cells (ceA g rep reg s0 t0 v0 s1 t1 v1) 181 (0, 0))) : w.cell? ⟨q, 9, none⟩ = some v0 := blk_cell h 9 _ rfl
theorem ceA_14 (h : w.heap[q]? = some (.cells (ceA g rep reg s0 t0 v0 s1 t1 v1) 181 (0, 0))) : w.cell? ⟨q, 14, none⟩ = some (.int .i64 t1.idx) := blk_cell h 14 _ rfl
theorem ceA_16 (h : w.heap[q]? = some (.cells (ceA g rep reg s0 t0 v0 s1 t1 v1) 181 (0, 0))) : w.cell? ⟨q, 16, none⟩ = some v1 := blk_cell h 16 _ rfl
end
theorem ceA_ld0 (g : Nat) (rep reg : Int) (s0 : Nat) (t0 : Tg) (v0 : Value) (s1 : Nat) (t1 : Tg) (v1 : Value) : 3 + 7 ≤ (ceA g rep reg s0 t0 v0 s1 t1 v1).size ∧ (ceA g rep reg s0 t0 v0 s1 t1 v1).extract 3 (3 + 7) = coA s0 t0 v0 := ⟨by show _ ≤ 17; omega, rfl⟩
theorem ceA_ld1 (g : Nat) (rep reg : Int) (s0 : Nat) (t0 : Tg) (v0 : Value) (s1 : Nat) (t1 : Tg) (v1 : Value) : 10 + 7 ≤ (ceA g rep reg s0 t0 v0 s1 t1 v1).size ∧ (ceA g rep reg s0 t0 v0 s1 t1 v1).extract 10 (10 + 7) = coA s1 t1 v1 := ⟨by show _ ≤ 17; omega, rfl⟩
def cpA (s0 : Nat) (t0 : Tg) (v0 : Value) (s1 : Nat) (t1 : Tg) (v1 : Value) : Array Value :=
 #[.int .u8 (s0 : Int), .int .i64 t0.rep, .int .i64 t0.reg, .int .i64 t0.pla, .int .i64 t0.idx, .int .i64 t0.inc, v0,
  .int .u8 (s1 : Int), .int .i64 t1.rep, .int .i64 t1.reg, .int .i64 t1.pla, .int .i64 t1.idx, .int .i64 t1.inc, v1]
theorem ceA_ldp (g : Nat) (rep reg : Int) (s0 : Nat) (t0 : Tg) (v0 : Value) (s1 : Nat) (t1 : Tg) (v1 : Value) : 3 + 14 ≤ (ceA g rep reg s0 t0 v0 s1 t1 v1).size ∧ (ceA g rep reg s0 t0 v0 s1 t1 v1).extract 3 (3 + 14) = cpA s0 t0 v0 s1 t1 v1 := ⟨by show _ ≤ 17; omega, rfl⟩
section
variable {w : World} {q : Nat} {T : TypeId} {s0 s1 : Nat} {t0 t1 : Tg} {v0 v1 : Value}
theorem cpA_0 (h : w.heap[q]? = some (.cells (cpA s0 t0 v0 s1 t1 v1) T (0, 0))) : w.cell? ⟨q, 0, none⟩ = some (.int .u8 (s0 : Int)) := blk_cell h 0 _ rfl
theorem cpA_7 (h : w.heap[q]? = some (.cells (cpA s0 t0 v0 s1 t1 v1) T (0, 0))) : w.cell? ⟨q, 7, none⟩ = some (.int .u8 (s1 : Int)) := blk_cell h 7 _ rfl
end
end Go.Proofs.YtbdonjenekhmdaaGreatDoor
namespace Go.Proofs.YtbdonjenekhmdaaGreatDoor
open Go.RowKit
theorem cpA_new (s0 : Nat) (t0 : Tg) (a0 : Option Addr) (n0 k0 : Nat) (s1 : Nat) (t1 : Tg) (a1 : Option Addr) (n1 k1 : Nat) : (Value.agg (cpA s0 t0 (.slice a0 n0 k0) s1 t1 (.slice a1 n1 k1))).cells = cpA s0 t0 (.slice a0 n0 k0) s1 t1 (.slice a1 n1 k1) ∧ (cpA s0 t0 (.slice a0 n0 k0) s1 t1 (.slice a1 n1 k1)).size = 14 ∧ ∀ u ∈ (cpA s0 t0 (.slice a0 n0 k0) s1 t1 (.slice a1 n1 k1)).toList, u.oneCell' = true :=
 ⟨rfl, rfl, by simp [cpA, Value.oneCell']⟩
set_option maxRecDepth 100000 in
set_option maxHeartbeats 4000000 in
theorem loaded_any (q g : Nat) (rep reg : Int) (c0 c1 : Cp) (a0 a1 : Option Addr) (n0 k0 n1 k1 : Nat) (w : World) (hB : (w.heap[q]? = some (.cells (ceA g rep reg c0.st c0.tg (.slice a0 n0 k0) c1.st c1.tg (.slice a1 n1 k1)) 181 (0, 0)))) : Calls Tryz.prog 98 #[.pointer (some ⟨q, 0, none⟩)] w fun e w' => e = .returned (.tuple #[.int .i64 ((loadedC c0 c1).1 : Nat), .bool (loadedC c0 c1).2.1, .int .i64 (loadedC c0 c1).2.2]) ∧ Below w.heap.size w w' := by
 have hpk := pick_any c1 c0 (.slice a1 n1 k1) (.slice a0 n0 k0)
 unfold loadedC
 cases hr : overC c1 c0
 case true =>
  have h1 : ((c1.st : Int) == 1) = true := by have := over_good hr; rw [beq_iff_eq]; omega
  rw [hr] at hpk
  simp only [if_true] at hpk ⊢
  clear hr
  go_enter Tryz.func98, Tryz.ntmps98
  refine seqH (fun K HK => ?_)
  go_wp2
  refine HK.out _ _ ?_
  clear HK
  refine seqH (fun K HK => ?_)
  go_wp2_with fail
  have hbd := (Below.refl w.heap.size w).drew
  refine wp_region_held_drew (S := fun w' => w'.heap[q]? = some (.cells (ceA g rep reg c0.st c0.tg (.slice a0 n0 k0) c1.st c1.tg (.slice a1 n1 k1)) 181 (0, 0))) (by kernel_rfl) (tr_bl hbd hB) (fun hS0 => ?_)
  generalize w.drew = x0 at *
  refine tkT 0 rfl (by intro wS hSw; go_simp; (try with_reducible rfl)) ?_
  refine tkT 1 rfl (by intro wS hSw; go_simp; (try with_reducible rfl)) ?_
  refine tkT 2 rfl (by intro wS hSw; go_simp; (try with_reducible rfl)) ?_
  refine tkT 3 rfl (by intro wS hSw; go_simp; (try with_reducible rfl)) ?_
  refine tkT 4 (v := .agg (coA c1.st c1.tg (.slice a1 n1 k1))) rfl (by intro wS hSw; exact exec_ldB 178 _ ⟨_, _, _, _, _, Tryz.isAgg178, Tryz.sizeOf178, rfl, hSw, ceA_ld1 _ _ _ _ _ _ _ _ _⟩) ?_
  refine tkT 5 rfl (by intro wS hSw; go_simp; (try with_reducible rfl)) ?_
  refine tkT 6 rfl (by intro wS hSw; go_simp; (try with_reducible rfl)) ?_
  refine tkT 7 rfl (by intro wS hSw; go_simp; (try with_reducible rfl)) ?_
  refine tkT 8 rfl (by intro wS hSw; go_simp; (try with_reducible rfl)) ?_
  refine tkT 9 rfl (by intro wS hSw; go_simp; (try with_reducible rfl)) ?_
  refine tkT 10 (v := .agg (coA c0.st c0.tg (.slice a0 n0 k0))) rfl (by intro wS hSw; exact exec_ldB 178 _ ⟨_, _, _, _, _, Tryz.isAgg178, Tryz.sizeOf178, rfl, hSw, ceA_ld0 _ _ _ _ _ _ _ _ _⟩) ?_
  refine rdy1 11 rfl (fun K' hK' => ?_)
  go_simp
  refine (hpk _).mono ?_
  rintro e w1 ⟨rfl, hb1⟩
  have B1 := tr_bl hb1 hS0
  have hb := hbd.trans (hb1.mono hbd.size)
  refine hK'.out _ _ B1 (fun _ => ?_)
  clear hK' hb1 hbd hS0 hpk
  (try simp only [Act.put]); (try simp only [List.setIfInBounds_toArray]); (try simp only [List.set_cons_succ]); (try simp only [List.set_cons_zero])
  refine tkT 12 rfl (by intro wS hSw; go_simp; (try with_reducible rfl)) ?_
  refine wpAnyH_done (by kernel_rfl) ?_ _
  refine HK.out _ _ ?_
  clear HK
  refine seqH (fun K HK2 => ?_)
  refine seqH (fun K HK => ?_)
  go_wp2_with (first
   | ((with_reducible refine wpList_ldB 179 _ ?_); refine ⟨rfl, _, ⟨_, _, _, _, _, Tryz.isAgg179, Tryz.sizeOf179, rfl, ‹_›, ceA_ldp _ _ _ _ _ _ _ _ _⟩, ?_⟩)
   | ((first | (with_reducible refine wpList_stNew 179 _ _ ?_) | (with_reducible refine wp_stNew 179 _ _ ?_)); refine ⟨_, _, ⟨Tryz.sizeOf179, rfl, cpA_new _ _ _ _ _ _ _ _ _ _⟩, rfl, ?_⟩))
  refine HK.out _ _ ?_
  clear HK
  have P2 := heap_alloc_new w1 (Obj.cells (cpA c0.st c0.tg (.slice a0 n0 k0) c1.st c1.tg (.slice a1 n1 k1)) 179)
  have hb2 := hb.alloc hb.size (Obj.cells (cpA c0.st c0.tg (.slice a0 n0 k0) c1.st c1.tg (.slice a1 n1 k1)) 179)
  generalize w1.alloc (Obj.cells (cpA c0.st c0.tg (.slice a0 n0 k0) c1.st c1.tg (.slice a1 n1 k1)) 179) = w2 at *
  generalize w1.heap.size = p at *
  have p0 := cpA_0 P2
  have p7 := cpA_7 P2
  clear P2
  go_wp2
  go_ret3
  exact ⟨rfl, hb2⟩
 case false =>
  rw [hr] at hpk
  simp only [Bool.false_eq_true, if_false] at hpk ⊢
  clear hr
  by_cases h1 : c0.st = 1
  case pos =>
   rw [if_pos h1]
   have e1 : ((c0.st : Int) == 1) = true := by rw [beq_iff_eq]; omega
   clear h1
   go_enter Tryz.func98, Tryz.ntmps98
   refine seqH (fun K HK => ?_)
   go_wp2
   refine HK.out _ _ ?_
   clear HK
   refine seqH (fun K HK => ?_)
   go_wp2_with fail
   have hbd := (Below.refl w.heap.size w).drew
   refine wp_region_held_drew (S := fun w' => w'.heap[q]? = some (.cells (ceA g rep reg c0.st c0.tg (.slice a0 n0 k0) c1.st c1.tg (.slice a1 n1 k1)) 181 (0, 0))) (by kernel_rfl) (tr_bl hbd hB) (fun hS0 => ?_)
   generalize w.drew = x0 at *
   refine tkT 0 rfl (by intro wS hSw; go_simp; (try with_reducible rfl)) ?_
   refine tkT 1 rfl (by intro wS hSw; go_simp; (try with_reducible rfl)) ?_
   refine tkT 2 rfl (by intro wS hSw; go_simp; (try with_reducible rfl)) ?_
   refine tkT 3 rfl (by intro wS hSw; go_simp; (try with_reducible rfl)) ?_
   refine tkT 4 (v := .agg (coA c1.st c1.tg (.slice a1 n1 k1))) rfl (by intro wS hSw; exact exec_ldB 178 _ ⟨_, _, _, _, _, Tryz.isAgg178, Tryz.sizeOf178, rfl, hSw, ceA_ld1 _ _ _ _ _ _ _ _ _⟩) ?_
   refine tkT 5 rfl (by intro wS hSw; go_simp; (try with_reducible rfl)) ?_
   refine tkT 6 rfl (by intro wS hSw; go_simp; (try with_reducible rfl)) ?_
   refine tkT 7 rfl (by intro wS hSw; go_simp; (try with_reducible rfl)) ?_
   refine tkT 8 rfl (by intro wS hSw; go_simp; (try with_reducible rfl)) ?_
   refine tkT 9 rfl (by intro wS hSw; go_simp; (try with_reducible rfl)) ?_
   refine tkT 10 (v := .agg (coA c0.st c0.tg (.slice a0 n0 k0))) rfl (by intro wS hSw; exact exec_ldB 178 _ ⟨_, _, _, _, _, Tryz.isAgg178, Tryz.sizeOf178, rfl, hSw, ceA_ld0 _ _ _ _ _ _ _ _ _⟩) ?_
   refine rdy1 11 rfl (fun K' hK' => ?_)
   go_simp
   refine (hpk _).mono ?_
   rintro e w1 ⟨rfl, hb1⟩
   have B1 := tr_bl hb1 hS0
   have hb := hbd.trans (hb1.mono hbd.size)
   refine hK'.out _ _ B1 (fun _ => ?_)
   clear hK' hb1 hbd hS0 hpk
   (try simp only [Act.put]); (try simp only [List.setIfInBounds_toArray]); (try simp only [List.set_cons_succ]); (try simp only [List.set_cons_zero])
   refine tkT 12 rfl (by intro wS hSw; go_simp; (try with_reducible rfl)) ?_
   refine wpAnyH_done (by kernel_rfl) ?_ _
   refine HK.out _ _ ?_
   clear HK
   refine seqH (fun K HK2 => ?_)
   refine seqH (fun K HK => ?_)
   go_wp2_with (first
    | ((with_reducible refine wpList_ldB 179 _ ?_); refine ⟨rfl, _, ⟨_, _, _, _, _, Tryz.isAgg179, Tryz.sizeOf179, rfl, ‹_›, ceA_ldp _ _ _ _ _ _ _ _ _⟩, ?_⟩)
    | ((first | (with_reducible refine wpList_stNew 179 _ _ ?_) | (with_reducible refine wp_stNew 179 _ _ ?_)); refine ⟨_, _, ⟨Tryz.sizeOf179, rfl, cpA_new _ _ _ _ _ _ _ _ _ _⟩, rfl, ?_⟩))
   refine HK.out _ _ ?_
   clear HK
   have P2 := heap_alloc_new w1 (Obj.cells (cpA c0.st c0.tg (.slice a0 n0 k0) c1.st c1.tg (.slice a1 n1 k1)) 179)
   have hb2 := hb.alloc hb.size (Obj.cells (cpA c0.st c0.tg (.slice a0 n0 k0) c1.st c1.tg (.slice a1 n1 k1)) 179)
   generalize w1.alloc (Obj.cells (cpA c0.st c0.tg (.slice a0 n0 k0) c1.st c1.tg (.slice a1 n1 k1)) 179) = w2 at *
   generalize w1.heap.size = p at *
   have p0 := cpA_0 P2
   have p7 := cpA_7 P2
   clear P2
   go_wp2
   go_ret3
   exact ⟨rfl, hb2⟩
  case neg =>
   rw [if_neg h1]
   have e1 : ((c0.st : Int) == 1) = false := by rw [beq_eq_false_iff_ne]; omega
   clear h1
   by_cases h2 : c0.st = 0
   case pos =>
    rw [if_pos (.inl h2)]
    have e2 : ((c0.st : Int) == 0) = true := by rw [beq_iff_eq]; omega
    clear h2
    go_enter Tryz.func98, Tryz.ntmps98
    refine seqH (fun K HK => ?_)
    go_wp2
    refine HK.out _ _ ?_
    clear HK
    refine seqH (fun K HK => ?_)
    go_wp2_with fail
    have hbd := (Below.refl w.heap.size w).drew
    refine wp_region_held_drew (S := fun w' => w'.heap[q]? = some (.cells (ceA g rep reg c0.st c0.tg (.slice a0 n0 k0) c1.st c1.tg (.slice a1 n1 k1)) 181 (0, 0))) (by kernel_rfl) (tr_bl hbd hB) (fun hS0 => ?_)
    generalize w.drew = x0 at *
    refine tkT 0 rfl (by intro wS hSw; go_simp; (try with_reducible rfl)) ?_
    refine tkT 1 rfl (by intro wS hSw; go_simp; (try with_reducible rfl)) ?_
    refine tkT 2 rfl (by intro wS hSw; go_simp; (try with_reducible rfl)) ?_
    refine tkT 3 rfl (by intro wS hSw; go_simp; (try with_reducible rfl)) ?_
    refine tkT 4 (v := .agg (coA c1.st c1.tg (.slice a1 n1 k1))) rfl (by intro wS hSw; exact exec_ldB 178 _ ⟨_, _, _, _, _, Tryz.isAgg178, Tryz.sizeOf178, rfl, hSw, ceA_ld1 _ _ _ _ _ _ _ _ _⟩) ?_
    refine tkT 5 rfl (by intro wS hSw; go_simp; (try with_reducible rfl)) ?_
    refine tkT 6 rfl (by intro wS hSw; go_simp; (try with_reducible rfl)) ?_
    refine tkT 7 rfl (by intro wS hSw; go_simp; (try with_reducible rfl)) ?_
    refine tkT 8 rfl (by intro wS hSw; go_simp; (try with_reducible rfl)) ?_
    refine tkT 9 rfl (by intro wS hSw; go_simp; (try with_reducible rfl)) ?_
    refine tkT 10 (v := .agg (coA c0.st c0.tg (.slice a0 n0 k0))) rfl (by intro wS hSw; exact exec_ldB 178 _ ⟨_, _, _, _, _, Tryz.isAgg178, Tryz.sizeOf178, rfl, hSw, ceA_ld0 _ _ _ _ _ _ _ _ _⟩) ?_
    refine rdy1 11 rfl (fun K' hK' => ?_)
    go_simp
    refine (hpk _).mono ?_
    rintro e w1 ⟨rfl, hb1⟩
    have B1 := tr_bl hb1 hS0
    have hb := hbd.trans (hb1.mono hbd.size)
    refine hK'.out _ _ B1 (fun _ => ?_)
    clear hK' hb1 hbd hS0 hpk
    (try simp only [Act.put]); (try simp only [List.setIfInBounds_toArray]); (try simp only [List.set_cons_succ]); (try simp only [List.set_cons_zero])
    refine tkT 12 rfl (by intro wS hSw; go_simp; (try with_reducible rfl)) ?_
    refine wpAnyH_done (by kernel_rfl) ?_ _
    refine HK.out _ _ ?_
    clear HK
    refine seqH (fun K HK2 => ?_)
    refine seqH (fun K HK => ?_)
    go_wp2_with (first
     | ((with_reducible refine wpList_ldB 179 _ ?_); refine ⟨rfl, _, ⟨_, _, _, _, _, Tryz.isAgg179, Tryz.sizeOf179, rfl, ‹_›, ceA_ldp _ _ _ _ _ _ _ _ _⟩, ?_⟩)
     | ((first | (with_reducible refine wpList_stNew 179 _ _ ?_) | (with_reducible refine wp_stNew 179 _ _ ?_)); refine ⟨_, _, ⟨Tryz.sizeOf179, rfl, cpA_new _ _ _ _ _ _ _ _ _ _⟩, rfl, ?_⟩))
    refine HK.out _ _ ?_
    clear HK
    have P2 := heap_alloc_new w1 (Obj.cells (cpA c0.st c0.tg (.slice a0 n0 k0) c1.st c1.tg (.slice a1 n1 k1)) 179)
    have hb2 := hb.alloc hb.size (Obj.cells (cpA c0.st c0.tg (.slice a0 n0 k0) c1.st c1.tg (.slice a1 n1 k1)) 179)
    generalize w1.alloc (Obj.cells (cpA c0.st c0.tg (.slice a0 n0 k0) c1.st c1.tg (.slice a1 n1 k1)) 179) = w2 at *
    generalize w1.heap.size = p at *
    have p0 := cpA_0 P2
    have p7 := cpA_7 P2
    clear P2
    go_wp2
    go_ret3
    exact ⟨rfl, hb2⟩
   case neg =>
    have e2 : ((c0.st : Int) == 0) = false := by rw [beq_eq_false_iff_ne]; omega
    by_cases h3 : c1.st = 0
    case pos =>
     rw [if_pos (.inr h3)]
     have e3 : ((c1.st : Int) == 0) = true := by rw [beq_iff_eq]; omega
     clear h2 h3
     go_enter Tryz.func98, Tryz.ntmps98
     refine seqH (fun K HK => ?_)
     go_wp2
     refine HK.out _ _ ?_
     clear HK
     refine seqH (fun K HK => ?_)
     go_wp2_with fail
     have hbd := (Below.refl w.heap.size w).drew
     refine wp_region_held_drew (S := fun w' => w'.heap[q]? = some (.cells (ceA g rep reg c0.st c0.tg (.slice a0 n0 k0) c1.st c1.tg (.slice a1 n1 k1)) 181 (0, 0))) (by kernel_rfl) (tr_bl hbd hB) (fun hS0 => ?_)
     generalize w.drew = x0 at *
     refine tkT 0 rfl (by intro wS hSw; go_simp; (try with_reducible rfl)) ?_
     refine tkT 1 rfl (by intro wS hSw; go_simp; (try with_reducible rfl)) ?_
     refine tkT 2 rfl (by intro wS hSw; go_simp; (try with_reducible rfl)) ?_
     refine tkT 3 rfl (by intro wS hSw; go_simp; (try with_reducible rfl)) ?_
     refine tkT 4 (v := .agg (coA c1.st c1.tg (.slice a1 n1 k1))) rfl (by intro wS hSw; exact exec_ldB 178 _ ⟨_, _, _, _, _, Tryz.isAgg178, Tryz.sizeOf178, rfl, hSw, ceA_ld1 _ _ _ _ _ _ _ _ _⟩) ?_
     refine tkT 5 rfl (by intro wS hSw; go_simp; (try with_reducible rfl)) ?_
     refine tkT 6 rfl (by intro wS hSw; go_simp; (try with_reducible rfl)) ?_
     refine tkT 7 rfl (by intro wS hSw; go_simp; (try with_reducible rfl)) ?_
     refine tkT 8 rfl (by intro wS hSw; go_simp; (try with_reducible rfl)) ?_
     refine tkT 9 rfl (by intro wS hSw; go_simp; (try with_reducible rfl)) ?_
     refine tkT 10 (v := .agg (coA c0.st c0.tg (.slice a0 n0 k0))) rfl (by intro wS hSw; exact exec_ldB 178 _ ⟨_, _, _, _, _, Tryz.isAgg178, Tryz.sizeOf178, rfl, hSw, ceA_ld0 _ _ _ _ _ _ _ _ _⟩) ?_
     refine rdy1 11 rfl (fun K' hK' => ?_)
     go_simp
     refine (hpk _).mono ?_
     rintro e w1 ⟨rfl, hb1⟩
     have B1 := tr_bl hb1 hS0
     have hb := hbd.trans (hb1.mono hbd.size)
     refine hK'.out _ _ B1 (fun _ => ?_)
     clear hK' hb1 hbd hS0 hpk
     (try simp only [Act.put]); (try simp only [List.setIfInBounds_toArray]); (try simp only [List.set_cons_succ]); (try simp only [List.set_cons_zero])
     refine tkT 12 rfl (by intro wS hSw; go_simp; (try with_reducible rfl)) ?_
     refine wpAnyH_done (by kernel_rfl) ?_ _
     refine HK.out _ _ ?_
     clear HK
     refine seqH (fun K HK2 => ?_)
     refine seqH (fun K HK => ?_)
     go_wp2_with (first
      | ((with_reducible refine wpList_ldB 179 _ ?_); refine ⟨rfl, _, ⟨_, _, _, _, _, Tryz.isAgg179, Tryz.sizeOf179, rfl, ‹_›, ceA_ldp _ _ _ _ _ _ _ _ _⟩, ?_⟩)
      | ((first | (with_reducible refine wpList_stNew 179 _ _ ?_) | (with_reducible refine wp_stNew 179 _ _ ?_)); refine ⟨_, _, ⟨Tryz.sizeOf179, rfl, cpA_new _ _ _ _ _ _ _ _ _ _⟩, rfl, ?_⟩))
     refine HK.out _ _ ?_
     clear HK
     have P2 := heap_alloc_new w1 (Obj.cells (cpA c0.st c0.tg (.slice a0 n0 k0) c1.st c1.tg (.slice a1 n1 k1)) 179)
     have hb2 := hb.alloc hb.size (Obj.cells (cpA c0.st c0.tg (.slice a0 n0 k0) c1.st c1.tg (.slice a1 n1 k1)) 179)
     generalize w1.alloc (Obj.cells (cpA c0.st c0.tg (.slice a0 n0 k0) c1.st c1.tg (.slice a1 n1 k1)) 179) = w2 at *
     generalize w1.heap.size = p at *
     have p0 := cpA_0 P2
     have p7 := cpA_7 P2
     clear P2
     go_wp2
     go_ret3
     exact ⟨rfl, hb2⟩
    case neg =>
     rw [if_neg (by rintro (h | h) <;> contradiction)]
     have e3 : ((c1.st : Int) == 0) = false := by rw [beq_eq_false_iff_ne]; omega
     clear h2 h3
     go_enter Tryz.func98, Tryz.ntmps98
     refine seqH (fun K HK => ?_)
     go_wp2
     refine HK.out _ _ ?_
     clear HK
     refine seqH (fun K HK => ?_)
     go_wp2_with fail
     have hbd := (Below.refl w.heap.size w).drew
     refine wp_region_held_drew (S := fun w' => w'.heap[q]? = some (.cells (ceA g rep reg c0.st c0.tg (.slice a0 n0 k0) c1.st c1.tg (.slice a1 n1 k1)) 181 (0, 0))) (by kernel_rfl) (tr_bl hbd hB) (fun hS0 => ?_)
     generalize w.drew = x0 at *
     refine tkT 0 rfl (by intro wS hSw; go_simp; (try with_reducible rfl)) ?_
     refine tkT 1 rfl (by intro wS hSw; go_simp; (try with_reducible rfl)) ?_
     refine tkT 2 rfl (by intro wS hSw; go_simp; (try with_reducible rfl)) ?_
     refine tkT 3 rfl (by intro wS hSw; go_simp; (try with_reducible rfl)) ?_
     refine tkT 4 (v := .agg (coA c1.st c1.tg (.slice a1 n1 k1))) rfl (by intro wS hSw; exact exec_ldB 178 _ ⟨_, _, _, _, _, Tryz.isAgg178, Tryz.sizeOf178, rfl, hSw, ceA_ld1 _ _ _ _ _ _ _ _ _⟩) ?_
     refine tkT 5 rfl (by intro wS hSw; go_simp; (try with_reducible rfl)) ?_
     refine tkT 6 rfl (by intro wS hSw; go_simp; (try with_reducible rfl)) ?_
     refine tkT 7 rfl (by intro wS hSw; go_simp; (try with_reducible rfl)) ?_
     refine tkT 8 rfl (by intro wS hSw; go_simp; (try with_reducible rfl)) ?_
     refine tkT 9 rfl (by intro wS hSw; go_simp; (try with_reducible rfl)) ?_
     refine tkT 10 (v := .agg (coA c0.st c0.tg (.slice a0 n0 k0))) rfl (by intro wS hSw; exact exec_ldB 178 _ ⟨_, _, _, _, _, Tryz.isAgg178, Tryz.sizeOf178, rfl, hSw, ceA_ld0 _ _ _ _ _ _ _ _ _⟩) ?_
     refine rdy1 11 rfl (fun K' hK' => ?_)
     go_simp
     refine (hpk _).mono ?_
     rintro e w1 ⟨rfl, hb1⟩
     have B1 := tr_bl hb1 hS0
     have hb := hbd.trans (hb1.mono hbd.size)
     refine hK'.out _ _ B1 (fun _ => ?_)
     clear hK' hb1 hbd hS0 hpk
     (try simp only [Act.put]); (try simp only [List.setIfInBounds_toArray]); (try simp only [List.set_cons_succ]); (try simp only [List.set_cons_zero])
     refine tkT 12 rfl (by intro wS hSw; go_simp; (try with_reducible rfl)) ?_
     refine wpAnyH_done (by kernel_rfl) ?_ _
     refine HK.out _ _ ?_
     clear HK
     refine seqH (fun K HK2 => ?_)
     refine seqH (fun K HK => ?_)
     go_wp2_with (first
      | ((with_reducible refine wpList_ldB 179 _ ?_); refine ⟨rfl, _, ⟨_, _, _, _, _, Tryz.isAgg179, Tryz.sizeOf179, rfl, ‹_›, ceA_ldp _ _ _ _ _ _ _ _ _⟩, ?_⟩)
      | ((first | (with_reducible refine wpList_stNew 179 _ _ ?_) | (with_reducible refine wp_stNew 179 _ _ ?_)); refine ⟨_, _, ⟨Tryz.sizeOf179, rfl, cpA_new _ _ _ _ _ _ _ _ _ _⟩, rfl, ?_⟩))
     refine HK.out _ _ ?_
     clear HK
     have P2 := heap_alloc_new w1 (Obj.cells (cpA c0.st c0.tg (.slice a0 n0 k0) c1.st c1.tg (.slice a1 n1 k1)) 179)
     have hb2 := hb.alloc hb.size (Obj.cells (cpA c0.st c0.tg (.slice a0 n0 k0) c1.st c1.tg (.slice a1 n1 k1)) 179)
     generalize w1.alloc (Obj.cells (cpA c0.st c0.tg (.slice a0 n0 k0) c1.st c1.tg (.slice a1 n1 k1)) 179) = w2 at *
     generalize w1.heap.size = p at *
     have p0 := cpA_0 P2
     have p7 := cpA_7 P2
     clear P2
     go_wp2
     refine HK2.out _ _ ?_
     clear HK2
     go_wp2
     go_ret3
     exact ⟨rfl, hb2⟩
end Go.Proofs.YtbdonjenekhmdaaGreatDoor
namespace Go.Proofs.YtbdonjenekhmdaaGreatDoor
def coR (rep reg : Int) (i : Nat) : Vo → Cp
 | none => ⟨0, zeroTg, []⟩
 | some (v, c, b) => ⟨1, ⟨rep, reg, i, v, c⟩, b⟩
def badCp : Cp := ⟨2, zeroTg, []⟩
/-! What counts of two copies. -/
section
variable {rep reg : Int} {o p : Vo}
theorem loaded_same (o : Vo) : loadedC (coR rep reg 0 o) (coR rep reg 1 o) = (0, o.isSome, 0) ∧ pickC (coR rep reg 0 o) (coR rep reg 1 o) = coR rep reg 0 o ∧ firstP (coR rep reg 0 o) (coR rep reg 1 o) = (if o.isSome = true then 1 else 0) := by
 match o with
 | none => exact ⟨rfl, rfl, rfl⟩
 | some (v, c, b) =>
  have h1 : loadedC (coR rep reg 0 (some (v, c, b))) (coR rep reg 1 (some (v, c, b))) = (0, true, 0) := by simp [loadedC, overC, coR]
  refine ⟨h1, ?_, ?_⟩
  ·unfold pickC
   rw [h1]
   simp
  ·unfold firstP
   rw [h1]
   simp
end
structure Both (d : Dk) (rep reg : Int) (o : Vo) : Prop where
 ok : okO o
 c0 : cop d rep reg 0 = coR rep reg 0 o
 c1 : cop d rep reg 1 = coR rep reg 1 o
theorem both_load {d : Dk} {rep reg : Int} {o : Vo} (h : Live d) (hp : 0 ≤ rep ∧ rep ≤ 6) (hr : reg = 1 ∨ reg = 2) (hB : Both d rep reg o) : loadC d rep reg = (verO o, bodO o, 0) := by
 obtain ⟨e1, e2, _⟩ := loaded_same (rep := rep) (reg := reg) o
 rw [load_live h hp hr, hB.c0, hB.c1, e1, e2]
 match o with
 | none => rfl
 | some (v, c, b) => rfl
section
variable {d : Dk} {rep reg inc : Int} {body : List UInt8} {o : Vo}
def nextO (o : Vo) (inc : Int) (body : List UInt8) : Vo := some (verO o + 1, inc, body)
theorem cop_fra {d : Dk} {v : Int} {i : Nat} {e : Int} (hp : 0 ≤ rep ∧ rep ≤ 6) (hr : reg = 1 ∨ reg = 2) (hi2 : i < 2) (h0 : 0 ≤ v) (h1 : v ≤ 1099511627776) (hi : 1 ≤ inc ∧ inc ≤ 1099511627776) (hb : body.length ≤ 43) (h : readD d (secC reg i) = (fraC rep reg v inc body i, e)) : cop d rep reg i = coR rep reg i (some (v, inc, body)) :=
 cop_frame h (may_cell2 hp hr hi2 h0 h1 hi.1 hi.2) hb
end
end Go.Proofs.YtbdonjenekhmdaaGreatDoor
