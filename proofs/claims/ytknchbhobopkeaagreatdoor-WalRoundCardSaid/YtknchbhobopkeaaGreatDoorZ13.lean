/- Texts that the claim leans on, part 13: D37b, D38, D39a, D39, D40, D41, X5, X6. -/
import Derived.Test.YtknchbhobopkeaaGreatDoorZ1
import Derived.Test.YtknchbhobopkeaaGreatDoorZ2
import Derived.Test.YtknchbhobopkeaaGreatDoorZ3
import Derived.Test.YtknchbhobopkeaaGreatDoorZ4
import Derived.Test.YtknchbhobopkeaaGreatDoorZ5
import Derived.Test.YtknchbhobopkeaaGreatDoorZ6
import Derived.Test.YtknchbhobopkeaaGreatDoorZ7
import Derived.Test.YtknchbhobopkeaaGreatDoorZ8
import Derived.Test.YtknchbhobopkeaaGreatDoorZ9
import Derived.Test.YtknchbhobopkeaaGreatDoorZ10
import Derived.Test.YtknchbhobopkeaaGreatDoorZ11
import Derived.Test.YtknchbhobopkeaaGreatDoorZ12
import Derived.Test.YtknchbhobopkeaaGreatDoorRows
import Derived.WalkKit
import Derived.WalkSpells
import Derived.WalkLawsBesides
import Derived.Handy
import Derived.Deep.QuietTactic
import Derived.BigQuiet
import Derived.Deep.DeepCutAuto
import Derived.Lib.Hide
import Derived.RegionTactic
import Derived.ChangeAlike
import Derived.Laws.ResultCell
import Derived.Outline
import Derived.Laws.IdiomStrings
import Derived.Laws.BytesArg
import Derived.IntWalk
import Derived.Laws.MakeOwn
import Derived.Lib.SliceRun
import Derived.Laws.BitsAllLaws
import Derived.Great.BuildSlice
import Derived.Great.FillDense
import Derived.Laws.Rows
import Derived.Deep.Quiet
import Derived.Deep.RegionHeld3
import Derived.Lib.AppendStr
import Derived.ProofKit
import Derived.OpenShut
import Derived.Laws.Strings
import Derived.Laws.CopyOwn
import Derived.Laws.CopyRow
import Derived.Laws.NewBlocks
import Derived.Deep.RegionLaw
namespace Go.Proofs.YtknchbhobopkeaaGreatDoor
open Go.RowKit
set_option maxRecDepth 100000 in
set_option maxHeartbeats 4000000 in
theorem open_m2 (b off : Nat) (cap : Nat) (l : List UInt8) (w : World) (hs : SlB w (some ⟨b, off, none⟩) cap l) (hl : l.length = 128) (hz : noughtsB l = false) : Calls Tryz.prog 75 #[.slice (some ⟨b, off, none⟩) 128 cap] w fun e w' => FrRes w.heap.size (openF l) e w' ∧ Below w.heap.size w w' := by
  rw [openF_ok (N := 128) hl (by decide) hz]
  have hroom : ∀ w, Calls Tryz.prog 87 #[.int .i64 2] w fun e w' => e = .returned (.int .i64 88) ∧ w = w' := fun w => room_any 2 w
  have hcap : 128 ≤ cap := by have := hs.le; omega
  have hmx := hs.max
  unfold maxLen at hmx
  have k2 : ¬ cap = 2 := by omega
  have k17 : ¬ cap = 17 := by omega
  have hbB := blw w (Obj.cells #[.int .i64 0, .int .i64 0, .int .i64 0, .int .i64 0, .int .i64 0] 108)
  have B3 := heap_alloc_new w (Obj.cells #[.int .i64 0, .int .i64 0, .int .i64 0, .int .i64 0, .int .i64 0] 108)
  have hno := noughts_any _ cap l (w.alloc (Obj.cells #[.int .i64 0, .int .i64 0, .int .i64 0, .int .i64 0, .int .i64 0] 108)) (hs.below hbB)
  rw [hl, hz] at hno
  obtain ⟨n, hn, hnlt⟩ : ∃ n, getN l 0 2 = n ∧ n < 65536 := ⟨_, rfl, getN_lt l 0 2⟩
  obtain ⟨s, hsn, hslt⟩ : ∃ s, getN l 124 4 = s ∧ s < 4294967296 := ⟨_, rfl, getN_lt l 124 4⟩
  have g1 : ∀ w', SlB w' (some ⟨b, off, none⟩) cap l → Calls Tryz.prog 95 #[.slice (some ⟨b, off, none⟩) 128 cap, .int .i64 0, .int .i64 2] w' fun e w'' => e = .returned (.tuple #[.int .i64 (n : Nat), .int .i64 2, .int .i64 0]) ∧ Below w'.heap.size w' w'' := fun w' h => by
    have := get_ok _ cap l 0 2 w' h (by omega) (by omega)
    rw [hl, hn] at this
    exact this
  have g2 : ∀ w', SlB w' (some ⟨b, off, none⟩) cap l → Calls Tryz.prog 95 #[.slice (some ⟨b, off, none⟩) 128 cap, .int .i64 124, .int .i64 4] w' fun e w'' => e = .returned (.tuple #[.int .i64 (s : Nat), .int .i64 128, .int .i64 0]) ∧ Below w'.heap.size w' w'' := fun w' h => by
    have := get_ok _ cap l 124 4 w' h (by omega) (by omega)
    rw [hl, hsn] at this
    exact this
  have hpa : ∀ w', SlB w' (some ⟨b, off, none⟩) cap l → Calls Tryz.prog 96 #[.slice (some ⟨b, off + 2, none⟩) 15 (cap - 2)] w' fun e w'' => e = .returned (.tuple #[tgV (parseT ((l.drop 2).take 15)).1, .int .i64 (parseT ((l.drop 2).take 15)).2]) ∧ Below w'.heap.size w' w'' := fun w' h =>
    tparse_any _ _ _ w' (h.sub 2 15 (by omega)) (by rw [List.length_take, List.length_drop]; omega)
  obtain ⟨tg, pe, hpt, hpe⟩ : ∃ tg pe, parseT ((l.drop 2).take 15) = (tg, pe) ∧ ((pe = 0 ∧ tg = tagAt l 2 ∧ mayTg (tagAt l 2) = true) ∨ (pe = 30 ∧ mayTg (tagAt l 2) = false)) := by
    unfold parseT
    rw [tagAt_sub]
    cases h : mayTg (tagAt l 2)
    · exact ⟨_, _, rfl, .inr ⟨rfl, rfl⟩⟩
    · exact ⟨_, _, rfl, .inl ⟨rfl, rfl, rfl⟩⟩
  rw [hpt] at hpa
  simp only at hpa
  have HPE := Lib.hid hpe
  have HL := Lib.hid hl
  have HN := Lib.hid hn
  have HS := Lib.hid hsn
  clear hpe hpt hz hl hn hsn
  go_enter Tryz.func75, Tryz.ntmps75
  refine wp_seq_k (fun K hK => ?_)
  have HK := Lib.hid hK
  clear hK
  go_wp2
  refine HK.out _ _ ?_
  clear HK
  refine wp_seq_k (fun K hK => ?_)
  have HK := Lib.hid hK
  clear hK
  go_wp2
  refine HK.out _ _ ?_
  clear HK
  refine wp_seq_k (fun K hK => ?_)
  have HK := Lib.hid hK
  clear hK
  go_wp2_with (go_at_call 87; refine (hroom _).mono ?_; rintro e w2 ⟨rfl, rfl⟩)
  refine HK.out _ _ ?_
  clear HK
  refine wp_seq_k (fun K hK => ?_)
  have HK := Lib.hid hK
  clear hK
  go_wp2_with (go_at_call 94; refine hno.mono ?_; rintro e w2 ⟨rfl, hb2⟩)
  refine HK.out _ _ ?_
  clear HK
  have A3 := tr_bl hb2 B3
  have hb3 := hbB.trans (hb2.mono hbB.size)
  have hs3 := hs.below hb3
  clear hno hb2 B3 hbB
  refine wp_seq_k (fun K hK => ?_)
  have HK := Lib.hid hK
  clear hK
  go_wp2_with (go_at_call 95; refine (g1 _ hs3).mono ?_; rintro e w4 ⟨rfl, hb4⟩)
  refine HK.out _ _ ?_
  clear HK
  have A4 := tr_bl hb4 A3
  have hb5 := hb3.trans (hb4.mono hb3.size)
  have hs5 := hs.below hb5
  clear A3 hb3 hs3 hb4
  refine wp_seq_k (fun K hK => ?_)
  have HK := Lib.hid hK
  clear hK
  go_wp2_with (go_at_call 96; refine (hpa _ hs5).mono ?_; rintro e w5 ⟨rfl, hb6⟩)
  refine HK.out _ _ ?_
  clear HK
  have A5 := tr_al (Obj.cells #[.int .i64 tg.rep, .int .i64 tg.reg, .int .i64 tg.pla, .int .i64 tg.idx, .int .i64 tg.inc] 108) (tr_bl hb6 A4)
  have T5 := heap_alloc_new w5 (Obj.cells #[.int .i64 tg.rep, .int .i64 tg.reg, .int .i64 tg.pla, .int .i64 tg.idx, .int .i64 tg.inc] 108)
  have hb50 := hb5.trans (hb6.mono hb5.size)
  have hb7 := hb50.alloc hb50.size (Obj.cells #[.int .i64 tg.rep, .int .i64 tg.reg, .int .i64 tg.pla, .int .i64 tg.idx, .int .i64 tg.inc] 108)
  have hq0 : w.heap.size < w5.heap.size := Nat.lt_of_lt_of_le (lt_blk A4) (hb6.size)
  have hs7 := hs.below hb7
  clear A4 hb5 hs5 hb6 hb50 hpa g1
  generalize w5.alloc (Obj.cells #[.int .i64 tg.rep, .int .i64 tg.reg, .int .i64 tg.pla, .int .i64 tg.idx, .int .i64 tg.inc] 108) = w6 at *
  generalize w5.heap.size = q at *
  refine wp_seq_k (fun K hK => ?_)
  have HK := Lib.hid hK
  clear hK
  go_wp2
  refine HK.out _ _ ?_
  clear HK
  refine wp_seq_k (fun K hK => ?_)
  have HK := Lib.hid hK
  clear hK
  go_wp2_with (go_at_call 95; refine (g2 _ hs7).mono ?_; rintro e w8 ⟨rfl, hb8'⟩)
  refine HK.out _ _ ?_
  clear HK
  have C3 := tr_bl hb8' A5
  have T8 := tr_bl hb8' T5
  have hb8 := hb7.trans (hb8'.mono hb7.size)
  have hs8 := hs.below hb8
  clear g2 hs7 hb7 hb8' A5 T5
  have hsum := sum_any _ cap (l.take 124) w8 (hs8.take 124)
  rw [show (l.take 124).length = 124 by rw [List.length_take, HL.out]; rfl] at hsum
  have hno7 : ∀ w', Below w8.heap.size w8 w' → n ≤ 88 → Calls Tryz.prog 94 #[.slice (some ⟨b, off + (17 + n), none⟩) (124 - (17 + n)) (cap - (17 + n))] w' fun e w'' => e = .returned (.bool (noughtsB ((l.drop (17 + n)).take (128 - 21 - n)))) ∧ Below w'.heap.size w' w'' := fun w' hb hnr => by
    have := noughts_any _ _ ((l.drop (17 + n)).take (128 - 21 - n)) w' ((hs8.below hb).sub (17 + n) (128 - 21 - n) (by rw [HL.out]; omega))
    rw [show ((l.drop (17 + n)).take (128 - 21 - n)).length = 124 - (17 + n) by rw [List.length_take, List.length_drop, HL.out]; omega] at this
    exact this
  have hok : okF l 128 = (mayTg (tagAt l 2) && (decide (n ≤ 88) && (decide (s = crcS (l.take 124)) && noughtsB ((l.drop (17 + n)).take (128 - 21 - n))))) := by
    unfold okF
    rw [HN.out, show 128 - 4 = 124 from rfl, HS.out, show roomN 128 = 88 from rfl]
  rw [hok, HN.out]
  clear hok
  have hz := crcS_lt (l.take 124)
  generalize crcS (l.take 124) = z at *
  generalize hnd : noughtsB ((l.drop (17 + n)).take (128 - 21 - n)) = nd at *
  clear hnd
  rcases HPE.out with ⟨h1, h2, h3⟩ | ⟨h1, h3⟩
  case inr =>
    rw [h3, Bool.false_and, if_neg (by simp)]
    subst h1
    clear h3 HPE
    go_wp2_with (first
      | (go_at_call 87; refine (hroom _).mono ?_; rintro e w2 ⟨rfl, rfl⟩)
      | (go_at_call 89; refine hsum.mono ?_; rintro e w7 ⟨rfl, hb7⟩; have D3 := tr_bl hb7 C3; have hb9 := hb8.trans (hb7.mono hb8.size))
      | (go_at_call 94; refine (hno8 _ hb7).mono ?_; rintro e w8 ⟨rfl, hb10⟩; have E3 := tr_bl hb10 D3; have hb11 := hb9.trans (hb10.mono hb9.size))
      | ((with_reducible refine wpList_stB 108 _ _ ?_); refine ⟨_, _, _, ⟨_, _, _, Tryz.sizeOf108, rfl, C3, st5 _ rfl 0 0 0 0 0⟩, ?_⟩; intro w5 B5 g5))
    refine bodyPost_ret (results_t1c1t1 rfl rfl (run_loadVar_all Tryz.isAgg108 Tryz.sizeOf108 B5 rfl)) rfl ⟨FrRes.none rfl, bl_st hb8 g5 hb8.size (Nat.le_refl _)⟩
  case inl =>
    rw [h3, Bool.true_and]
    subst h1
    have HTG := Lib.hid h2
    clear h3 HPE h2
    by_cases hnr : n ≤ 88
    case neg =>
      rw [decide_eq_false hnr, Bool.false_and, if_neg (by simp)]
      have hI : (88 : Int) < n := by omega
      go_wp2_with (first
        | (go_at_call 87; refine (hroom _).mono ?_; rintro e w2 ⟨rfl, rfl⟩)
        | (go_at_call 89; refine hsum.mono ?_; rintro e w7 ⟨rfl, hb7⟩; have D3 := tr_bl hb7 C3; have hb9 := hb8.trans (hb7.mono hb8.size))
        | (go_at_call 94; refine (hno8 _ hb7).mono ?_; rintro e w8 ⟨rfl, hb10⟩; have E3 := tr_bl hb10 D3; have hb11 := hb9.trans (hb10.mono hb9.size))
        | ((with_reducible refine wpList_stB 108 _ _ ?_); refine ⟨_, _, _, ⟨_, _, _, Tryz.sizeOf108, rfl, C3, st5 _ rfl 0 0 0 0 0⟩, ?_⟩; intro w5 B5 g5))
      refine bodyPost_ret (results_t1c1t1 rfl rfl (run_loadVar_all Tryz.isAgg108 Tryz.sizeOf108 B5 rfl)) rfl ⟨FrRes.none rfl, bl_st hb8 g5 hb8.size (Nat.le_refl _)⟩
    case pos =>
      rw [decide_eq_true hnr, Bool.true_and]
      have hI : (n : Int) ≤ 88 := by omega
      have kn : ¬ cap = 17 + n := by omega
      have hno8 := fun w' h => hno7 w' h hnr
      clear hno7
      by_cases hsz : s = z
      case neg =>
        rw [decide_eq_false hsz, Bool.false_and, if_neg (by simp)]
        have hne : ((s : Int) != (z : Int)) = true := by rw [bne_iff_ne]; omega
        go_wp2_with (first
          | (go_at_call 87; refine (hroom _).mono ?_; rintro e w2 ⟨rfl, rfl⟩)
          | (go_at_call 89; refine hsum.mono ?_; rintro e w7 ⟨rfl, hb7⟩; have D3 := tr_bl hb7 C3; have hb9 := hb8.trans (hb7.mono hb8.size))
          | (go_at_call 94; refine (hno8 _ hb7).mono ?_; rintro e w8 ⟨rfl, hb10⟩; have E3 := tr_bl hb10 D3; have hb11 := hb9.trans (hb10.mono hb9.size))
          | ((with_reducible refine wpList_stB 108 _ _ ?_); refine ⟨_, _, _, ⟨_, _, _, Tryz.sizeOf108, rfl, D3, st5 _ rfl 0 0 0 0 0⟩, ?_⟩; intro w5 B5 g5))
        refine bodyPost_ret (results_t1c1t1 rfl rfl (run_loadVar_all Tryz.isAgg108 Tryz.sizeOf108 B5 rfl)) rfl ⟨FrRes.none rfl, bl_st hb9 g5 hb9.size (Nat.le_refl _)⟩
      case pos =>
        subst hsz
        rw [decide_eq_true rfl, Bool.true_and]
        have hne : ((s : Int) != (s : Int)) = false := by simp
        cases nd
        case false =>
          rw [if_neg (by simp)]
          go_wp2_with (first
            | (go_at_call 87; refine (hroom _).mono ?_; rintro e w2 ⟨rfl, rfl⟩)
            | (go_at_call 89; refine hsum.mono ?_; rintro e w7 ⟨rfl, hb7⟩; have D3 := tr_bl hb7 C3; have hb9 := hb8.trans (hb7.mono hb8.size))
            | (go_at_call 94; refine (hno8 _ hb7).mono ?_; rintro e w8 ⟨rfl, hb10⟩; have E3 := tr_bl hb10 D3; have hb11 := hb9.trans (hb10.mono hb9.size))
            | ((with_reducible refine wpList_stB 108 _ _ ?_); refine ⟨_, _, _, ⟨_, _, _, Tryz.sizeOf108, rfl, E3, st5 _ rfl 0 0 0 0 0⟩, ?_⟩; intro w5 B5 g5))
          refine bodyPost_ret (results_t1c1t1 rfl rfl (run_loadVar_all Tryz.isAgg108 Tryz.sizeOf108 B5 rfl)) rfl ⟨FrRes.none rfl, bl_st hb11 g5 hb11.size (Nat.le_refl _)⟩
        case true =>
          rw [if_pos rfl]
          refine wp_seq_k (fun K hK => ?_)
          have HK := Lib.hid hK
          clear hK
          go_wp2_with (first
                      | (go_at_call 87; refine (hroom _).mono ?_; rintro e w2 ⟨rfl, rfl⟩)
                      | (go_at_call 89; refine hsum.mono ?_; rintro e w7 ⟨rfl, hb7⟩; have D3 := tr_bl hb7 C3; have T7 := tr_bl hb7 T8; have hb9 := hb8.trans (hb7.mono hb8.size))
                      | (go_at_call 94; refine (hno8 _ hb7).mono ?_; rintro e w9 ⟨rfl, hb10⟩; have E3 := tr_bl hb10 D3; have T9 := tr_bl hb10 T7; have hb11 := hb9.trans (hb10.mono hb9.size)))
          refine HK.out _ _ ?_
          clear HK
          have hbl : ((l.drop 17).take n).length = n := by rw [List.length_take, List.length_drop, HL.out]; omega
          have hcl := clone_any ⟨b, off + 17, none⟩ (cap - 17) ((l.drop 17).take n) w9 ((hs.below hb11).sub 17 n (by rw [HL.out]; omega)) (by omega)
          rw [hbl] at hcl
          have HBL := Lib.hid hbl
          clear hbl C3 T8 hs8 hsum hno8 hb7 D3 T7 hb9 hb10 hb8 hz
          refine wp_seq_k (fun K hK => ?_)
          have HK := Lib.hid hK
          clear hK
          go_wp2_with (go_at_call 97; refine hcl.mono ?_; rintro e w10 ⟨⟨g, c, rfl, hc1, hc2, ho⟩, hb12⟩)
          refine HK.out _ _ ?_
          clear HK
          clear hcl
          have F3 := tr_bl hb12 E3
          have T10 := tr_bl hb12 T9
          have hb13 := hb11.trans (hb12.mono hb11.size)
          have ho10 := ho.mono hb11.size
          clear E3 T9 hb11 hb12 ho
          unfold maxLen at hc2
          refine wp_seq_k (fun K hK => ?_)
          have HK := Lib.hid hK
          clear hK
          go_wp2_with fail
          have hbd := (Below.refl w10.heap.size w10).drew
          have F4 := tr_bl hbd F3
          have T11 := tr_bl hbd T10
          have hb14 := hb13.trans (hbd.mono hb13.size)
          have ho11 := ho10.below hbd
          clear F3 T10 hb13 ho10
          refine wp_region_held_drew (S := fun w' => w'.heap[q]? = some (.cells #[.int .i64 tg.rep, .int .i64 tg.reg, .int .i64 tg.pla, .int .i64 tg.idx, .int .i64 tg.inc] 108 (0, 0))) (by kernel_rfl) T11 (fun hS0 => ?_)
          clear hbd
          generalize w10.drew = x0 at *
          refine wpAnyH_take (i := 0) (oi := ⟨_, _, _, _, _, _⟩) (v := .agg (#[.int .i64 tg.rep, .int .i64 tg.reg, .int .i64 tg.pla, .int .i64 tg.idx, .int .i64 tg.inc])) rfl (by kernel_rfl) (by kernel_rfl) (by kernel_rfl) (fun _ _ _ h => h) (Or.inl ⟨by rfl, fun wS hSw => ?_⟩) (by assumption) ?_
          · exact exec_ldB 108 _ ⟨_, _, _, _, _, Tryz.isAgg108, Tryz.sizeOf108, rfl, hSw, ld5 _ _ _ _ _⟩
          (try simp only [Act.put]); (try simp only [List.setIfInBounds_toArray]); (try simp only [List.set_cons_succ]); (try simp only [List.set_cons_zero])
          refine wpAnyH_take (i := 1) (oi := ⟨_, _, _, _, _, _⟩) (v := ?_) rfl (by kernel_rfl) (by kernel_rfl) (by kernel_rfl) (fun _ _ _ h => h) (Or.inl ⟨by rfl, ?_⟩) (by assumption) ?_
          rotate_left
          · intro wS hSw; go_simp; (try with_reducible rfl)
          (try simp only [Act.put]); (try simp only [List.setIfInBounds_toArray]); (try simp only [List.set_cons_succ]); (try simp only [List.set_cons_zero])
          refine wpAnyH_take (i := 2) (oi := ⟨_, _, _, _, _, _⟩) (v := ?_) rfl (by kernel_rfl) (by kernel_rfl) (by kernel_rfl) (fun _ _ _ h => h) (Or.inl ⟨by rfl, ?_⟩) (by assumption) ?_
          rotate_left
          · intro wS hSw; go_simp; (try with_reducible rfl)
          (try simp only [Act.put]); (try simp only [List.setIfInBounds_toArray]); (try simp only [List.set_cons_succ]); (try simp only [List.set_cons_zero])
          refine wpAnyH_take (i := 3) (oi := ⟨_, _, _, _, _, _⟩) (v := ?_) rfl (by kernel_rfl) (by kernel_rfl) (by kernel_rfl) (fun _ _ _ h => h) (Or.inl ⟨by rfl, ?_⟩) (by assumption) ?_
          rotate_left
          · intro wS hSw; go_simp; (try with_reducible rfl)
          (try simp only [Act.put]); (try simp only [List.setIfInBounds_toArray]); (try simp only [List.set_cons_succ]); (try simp only [List.set_cons_zero])
          refine wpAnyH_take (i := 4) (oi := ⟨_, _, _, _, _, _⟩) (v := ?_) rfl (by kernel_rfl) (by kernel_rfl) (by kernel_rfl) (fun _ _ _ h => h) (Or.inl ⟨by rfl, ?_⟩) (by assumption) ?_
          rotate_left
          · intro wS hSw; go_simp; (try with_reducible rfl)
          (try simp only [Act.put]); (try simp only [List.setIfInBounds_toArray]); (try simp only [List.set_cons_succ]); (try simp only [List.set_cons_zero])
          refine wpAnyH_take (i := 5) (oi := ⟨_, _, _, _, _, _⟩) (v := ?_) rfl (by kernel_rfl) (by kernel_rfl) (by kernel_rfl) (fun _ _ _ h => h) (Or.inl ⟨by rfl, ?_⟩) (by assumption) ?_
          rotate_left
          · intro wS hSw; go_simp; (try with_reducible rfl)
          (try simp only [Act.put]); (try simp only [List.setIfInBounds_toArray]); (try simp only [List.set_cons_succ]); (try simp only [List.set_cons_zero])
          refine wpAnyH_ready (rs := [6]) (by kernel_rfl) (by simp) ?_
          refine AllReadyH.cons (o := ⟨_, _, _, _, _, _⟩) rfl (fun K' hK' => ?_) AllReadyH.nil
          refine (if_pos (by rfl)).mpr ?_
          refine wp_stB 108 _ _ ?_
          refine ⟨_, _, _, ⟨_, _, _, Tryz.sizeOf108, rfl, F4, st5 _ rfl tg.rep tg.reg tg.pla tg.idx tg.inc⟩, ?_⟩
          intro w11 B11 g11
          refine hK'.out _ _ (tr_st g11 hS0 (by omega)) (fun _ => ?_)
          clear hK'
          (try simp only [Act.put]); (try simp only [List.setIfInBounds_toArray]); (try simp only [List.set_cons_succ]); (try simp only [List.set_cons_zero])
          refine wpAnyH_take (i := 7) (oi := ⟨_, _, _, _, _, _⟩) (v := ?_) rfl (by kernel_rfl) (by kernel_rfl) (by kernel_rfl) (fun _ _ _ h => h) (Or.inl ⟨by rfl, ?_⟩) (by assumption) ?_
          rotate_left
          · intro wS hSw; go_simp; (try with_reducible rfl)
          (try simp only [Act.put]); (try simp only [List.setIfInBounds_toArray]); (try simp only [List.set_cons_succ]); (try simp only [List.set_cons_zero])
          refine wpAnyH_done (by kernel_rfl) ?_ _
          refine HK.out _ _ ?_
          clear HK
          go_wp2
          refine bodyPost_ret (results_t1c1t1 rfl rfl (run_loadVar_all Tryz.isAgg108 Tryz.sizeOf108 B11 rfl)) rfl ⟨⟨some ⟨g, 0, none⟩, n, ?_, ?_⟩, bl_st hb14 g11 hb14.size (Nat.le_refl _)⟩
          · rw [HBL.out, ← HTG.out]
            rfl
          · exact ho11.st g11 F4 (by decide)
end Go.Proofs.YtknchbhobopkeaaGreatDoor
namespace Go.Proofs.YtknchbhobopkeaaGreatDoor
open Go.RowKit
theorem open_any (a : Option Addr) (cap : Nat) (l : List UInt8) (w : World) (hs : SlB w a cap l) (hl : l.length ≤ 1000) : Calls Tryz.prog 75 #[.slice a l.length cap] w fun e w' => FrRes w.heap.size (openF l) e w' ∧ Below w.heap.size w w' := by
  by_cases hr : roomN l.length = 0
  · exact open_odd a cap l w hl hr
  · obtain ⟨h64, _⟩ := roomN_of (n := l.length) (by omega)
    rcases h64 with h | h
    · rw [h]
      cases hz : noughtsB l
      · obtain ⟨b, off, rfl⟩ := hs.some_of (by omega)
        exact open_m1 b off cap l w hs h hz
      · exact open_n1 a cap l w hs h hz
    · rw [h]
      cases hz : noughtsB l
      · obtain ⟨b, off, rfl⟩ := hs.some_of (by omega)
        exact open_m2 b off cap l w hs h hz
      · exact open_n2 a cap l w hs h hz
set_option maxRecDepth 100000 in
set_option maxHeartbeats 2000000 in
theorem mine_any (a : Option Addr) (cap : Nat) (l : List UInt8) (rep reg pla : Int) (w : World) (hs : SlB w a cap l) (hl : l.length ≤ 1000) : Calls Tryz.prog 52 #[.slice a l.length cap, .int .i64 rep, .int .i64 reg, .int .i64 pla] w fun e w' => FrRes w.heap.size (mineF l rep reg pla) e w' ∧ Below w.heap.size w w' := by
  obtain ⟨st, tg, body, hr⟩ : ∃ st tg body, openF l = (st, tg, body) := ⟨_, _, _, rfl⟩
  unfold mineF
  rw [hr]
  have HR := Lib.hid hr
  clear hr
  have hbB := blw w (Obj.cells #[.int .i64 0, .int .i64 0, .int .i64 0, .int .i64 0, .int .i64 0] 108)
  have B3 := heap_alloc_new w (Obj.cells #[.int .i64 0, .int .i64 0, .int .i64 0, .int .i64 0, .int .i64 0] 108)
  simp only
  by_cases hst : st = 1
  case neg =>
    rw [if_neg (fun hh => hst hh.1)]
    have h0 : ((st : Int) == 1) = false := by rw [beq_eq_false_iff_ne]; omega
    clear hst
    go_enter Tryz.func52, Tryz.ntmps52
    refine wp_seq_k (fun K hK => ?_)
    have HK := Lib.hid hK
    clear hK
    go_wp2
    refine HK.out _ _ ?_
    clear HK
    refine wp_seq_k (fun K hK => ?_)
    have HK := Lib.hid hK
    clear hK
    go_wp2_with (go_at_call 75; refine (open_any a cap l _ (hs.below hbB) hl).mono ?_; rintro e w2 ⟨⟨a2, c2, rfl, ho2⟩, hb2⟩; rw [HR.out] at ho2; rw [HR.out]; have A3 := tr_bl hb2 B3)
    refine HK.out _ _ ?_
    clear HK
    have C3 := tr_al (Obj.cells #[.int .i64 tg.rep, .int .i64 tg.reg, .int .i64 tg.pla, .int .i64 tg.idx, .int .i64 tg.inc] 108) A3
    have T3 := heap_alloc_new w2 (Obj.cells #[.int .i64 tg.rep, .int .i64 tg.reg, .int .i64 tg.pla, .int .i64 tg.idx, .int .i64 tg.inc] 108)
    have hb3 := hbB.trans (hb2.mono hbB.size)
    have hb4 := hb3.alloc hb3.size (Obj.cells #[.int .i64 tg.rep, .int .i64 tg.reg, .int .i64 tg.pla, .int .i64 tg.idx, .int .i64 tg.inc] 108)
    have hq : w.heap.size < w2.heap.size := lt_blk A3
    have ho3 := (ho2.mono hbB.size).below (blw w2 (Obj.cells #[.int .i64 tg.rep, .int .i64 tg.reg, .int .i64 tg.pla, .int .i64 tg.idx, .int .i64 tg.inc] 108))
    clear A3 hb2 hb3 ho2
    generalize w2.alloc (Obj.cells #[.int .i64 tg.rep, .int .i64 tg.reg, .int .i64 tg.pla, .int .i64 tg.idx, .int .i64 tg.inc] 108) = w3 at *
    generalize w2.heap.size = q at *
    have q0 := blk_cell T3 0 _ rfl
    have q1 := blk_cell T3 1 _ rfl
    have q2 := blk_cell T3 2 _ rfl
    refine wp_seq_k (fun K hK => ?_)
    have HK := Lib.hid hK
    clear hK
    go_wp2
    refine HK.out _ _ ?_
    clear HK
    refine wp_seq_k (fun K hK => ?_)
    have HK := Lib.hid hK
    clear hK
    go_wp2_with fail
    have hbd := (Below.refl w3.heap.size w3).drew
    have F4 := tr_bl hbd C3
    have T11 := tr_bl hbd T3
    have hb14 := hb4.trans (hbd.mono hb4.size)
    have ho11 := ho3.below hbd
    clear C3 T3 hb4 ho3 q0 q1 q2
    refine wp_region_held_drew (S := fun w' => w'.heap[q]? = some (.cells #[.int .i64 tg.rep, .int .i64 tg.reg, .int .i64 tg.pla, .int .i64 tg.idx, .int .i64 tg.inc] 108 (0, 0))) (by kernel_rfl) T11 (fun hS0 => ?_)
    clear hbd
    generalize w3.drew = x0 at *
    refine wpAnyH_take (i := 0) (oi := ⟨_, _, _, _, _, _⟩) (v := ?_) rfl (by kernel_rfl) (by kernel_rfl) (by kernel_rfl) (fun _ _ _ h => h) (Or.inl ⟨by rfl, ?_⟩) (by assumption) ?_
    rotate_left
    · intro wS hSw; go_simp; (try with_reducible rfl)
    (try simp only [Act.put]); (try simp only [List.setIfInBounds_toArray]); (try simp only [List.set_cons_succ]); (try simp only [List.set_cons_zero])
    refine wpAnyH_take (i := 1) (oi := ⟨_, _, _, _, _, _⟩) (v := .agg (#[.int .i64 tg.rep, .int .i64 tg.reg, .int .i64 tg.pla, .int .i64 tg.idx, .int .i64 tg.inc])) rfl (by kernel_rfl) (by kernel_rfl) (by kernel_rfl) (fun _ _ _ h => h) (Or.inl ⟨by rfl, fun wS hSw => ?_⟩) (by assumption) ?_
    · exact exec_ldB 108 _ ⟨_, _, _, _, _, Tryz.isAgg108, Tryz.sizeOf108, rfl, hSw, ld5 _ _ _ _ _⟩
    (try simp only [Act.put]); (try simp only [List.setIfInBounds_toArray]); (try simp only [List.set_cons_succ]); (try simp only [List.set_cons_zero])
    refine wpAnyH_take (i := 2) (oi := ⟨_, _, _, _, _, _⟩) (v := ?_) rfl (by kernel_rfl) (by kernel_rfl) (by kernel_rfl) (fun _ _ _ h => h) (Or.inl ⟨by rfl, ?_⟩) (by assumption) ?_
    rotate_left
    · intro wS hSw; go_simp; (try with_reducible rfl)
    (try simp only [Act.put]); (try simp only [List.setIfInBounds_toArray]); (try simp only [List.set_cons_succ]); (try simp only [List.set_cons_zero])
    refine wpAnyH_take (i := 3) (oi := ⟨_, _, _, _, _, _⟩) (v := ?_) rfl (by kernel_rfl) (by kernel_rfl) (by kernel_rfl) (fun _ _ _ h => h) (Or.inl ⟨by rfl, ?_⟩) (by assumption) ?_
    rotate_left
    · intro wS hSw; go_simp; (try with_reducible rfl)
    (try simp only [Act.put]); (try simp only [List.setIfInBounds_toArray]); (try simp only [List.set_cons_succ]); (try simp only [List.set_cons_zero])
    refine wpAnyH_ready (rs := [4]) (by kernel_rfl) (by simp) ?_
    refine AllReadyH.cons (o := ⟨_, _, _, _, _, _⟩) rfl (fun K' hK' => ?_) AllReadyH.nil
    refine (if_pos (by rfl)).mpr ?_
    refine wp_stB 108 _ _ ?_
    refine ⟨_, _, _, ⟨_, _, _, Tryz.sizeOf108, rfl, F4, st5 _ rfl tg.rep tg.reg tg.pla tg.idx tg.inc⟩, ?_⟩
    intro w11 B11 g11
    refine hK'.out _ _ (tr_st g11 hS0 (by omega)) (fun _ => ?_)
    clear hK'
    (try simp only [Act.put]); (try simp only [List.setIfInBounds_toArray]); (try simp only [List.set_cons_succ]); (try simp only [List.set_cons_zero])
    refine wpAnyH_take (i := 5) (oi := ⟨_, _, _, _, _, _⟩) (v := ?_) rfl (by kernel_rfl) (by kernel_rfl) (by kernel_rfl) (fun _ _ _ h => h) (Or.inl ⟨by rfl, ?_⟩) (by assumption) ?_
    rotate_left
    · intro wS hSw; go_simp; (try with_reducible rfl)
    (try simp only [Act.put]); (try simp only [List.setIfInBounds_toArray]); (try simp only [List.set_cons_succ]); (try simp only [List.set_cons_zero])
    refine wpAnyH_done (by kernel_rfl) ?_ _
    refine HK.out _ _ ?_
    clear HK
    go_wp2
    refine bodyPost_ret (results_t1c1t1 rfl rfl (run_loadVar_all Tryz.isAgg108 Tryz.sizeOf108 B11 rfl)) rfl ⟨⟨a2, c2, rfl, ho11.st g11 F4 (by decide)⟩, bl_st hb14 g11 hb14.size (Nat.le_refl _)⟩
  case pos =>
    subst hst
    have h0 : (((1 : Nat) : Int) == 1) = true := rfl
    by_cases h1 : tg.rep = rep
    case neg =>
      rw [if_pos ⟨rfl, .inl h1⟩]
      have e1 : (tg.rep != rep) = true := by rw [bne_iff_ne]; exact h1
      go_enter Tryz.func52, Tryz.ntmps52
      refine wp_seq_k (fun K hK => ?_)
      have HK := Lib.hid hK
      clear hK
      go_wp2
      refine HK.out _ _ ?_
      clear HK
      refine wp_seq_k (fun K hK => ?_)
      have HK := Lib.hid hK
      clear hK
      go_wp2_with (go_at_call 75; refine (open_any a cap l _ (hs.below hbB) hl).mono ?_; rintro e w2 ⟨⟨a2, c2, rfl, ho2⟩, hb2⟩; rw [HR.out] at ho2; rw [HR.out]; have A3 := tr_bl hb2 B3)
      refine HK.out _ _ ?_
      clear HK
      have C3 := tr_al (Obj.cells #[.int .i64 tg.rep, .int .i64 tg.reg, .int .i64 tg.pla, .int .i64 tg.idx, .int .i64 tg.inc] 108) A3
      have T3 := heap_alloc_new w2 (Obj.cells #[.int .i64 tg.rep, .int .i64 tg.reg, .int .i64 tg.pla, .int .i64 tg.idx, .int .i64 tg.inc] 108)
      have hb3 := hbB.trans (hb2.mono hbB.size)
      have hb4 := hb3.alloc hb3.size (Obj.cells #[.int .i64 tg.rep, .int .i64 tg.reg, .int .i64 tg.pla, .int .i64 tg.idx, .int .i64 tg.inc] 108)
      have hq : w.heap.size < w2.heap.size := lt_blk A3
      have ho3 := (ho2.mono hbB.size).below (blw w2 (Obj.cells #[.int .i64 tg.rep, .int .i64 tg.reg, .int .i64 tg.pla, .int .i64 tg.idx, .int .i64 tg.inc] 108))
      clear A3 hb2 hb3 ho2
      generalize w2.alloc (Obj.cells #[.int .i64 tg.rep, .int .i64 tg.reg, .int .i64 tg.pla, .int .i64 tg.idx, .int .i64 tg.inc] 108) = w3 at *
      generalize w2.heap.size = q at *
      have q0 := blk_cell T3 0 _ rfl
      have q1 := blk_cell T3 1 _ rfl
      have q2 := blk_cell T3 2 _ rfl
      go_wp2_with ((with_reducible refine wpList_stB 108 _ _ ?_); refine ⟨_, _, _, ⟨_, _, _, Tryz.sizeOf108, rfl, C3, st5 _ rfl 0 0 0 0 0⟩, ?_⟩; intro w5 B5 g5)
      refine bodyPost_ret (results_t1c1t1 rfl rfl (run_loadVar_all Tryz.isAgg108 Tryz.sizeOf108 B5 rfl)) rfl ⟨FrRes.none rfl, bl_st hb4 g5 hb4.size (Nat.le_refl _)⟩
    case pos =>
      have e1 : (tg.rep != rep) = false := by simpa using h1
      by_cases h2 : tg.reg = reg
      case neg =>
        rw [if_pos ⟨rfl, .inr (.inl h2)⟩]
        have e2 : (tg.reg != reg) = true := by rw [bne_iff_ne]; exact h2
        clear h1
        go_enter Tryz.func52, Tryz.ntmps52
        refine wp_seq_k (fun K hK => ?_)
        have HK := Lib.hid hK
        clear hK
        go_wp2
        refine HK.out _ _ ?_
        clear HK
        refine wp_seq_k (fun K hK => ?_)
        have HK := Lib.hid hK
        clear hK
        go_wp2_with (go_at_call 75; refine (open_any a cap l _ (hs.below hbB) hl).mono ?_; rintro e w2 ⟨⟨a2, c2, rfl, ho2⟩, hb2⟩; rw [HR.out] at ho2; rw [HR.out]; have A3 := tr_bl hb2 B3)
        refine HK.out _ _ ?_
        clear HK
        have C3 := tr_al (Obj.cells #[.int .i64 tg.rep, .int .i64 tg.reg, .int .i64 tg.pla, .int .i64 tg.idx, .int .i64 tg.inc] 108) A3
        have T3 := heap_alloc_new w2 (Obj.cells #[.int .i64 tg.rep, .int .i64 tg.reg, .int .i64 tg.pla, .int .i64 tg.idx, .int .i64 tg.inc] 108)
        have hb3 := hbB.trans (hb2.mono hbB.size)
        have hb4 := hb3.alloc hb3.size (Obj.cells #[.int .i64 tg.rep, .int .i64 tg.reg, .int .i64 tg.pla, .int .i64 tg.idx, .int .i64 tg.inc] 108)
        have hq : w.heap.size < w2.heap.size := lt_blk A3
        have ho3 := (ho2.mono hbB.size).below (blw w2 (Obj.cells #[.int .i64 tg.rep, .int .i64 tg.reg, .int .i64 tg.pla, .int .i64 tg.idx, .int .i64 tg.inc] 108))
        clear A3 hb2 hb3 ho2
        generalize w2.alloc (Obj.cells #[.int .i64 tg.rep, .int .i64 tg.reg, .int .i64 tg.pla, .int .i64 tg.idx, .int .i64 tg.inc] 108) = w3 at *
        generalize w2.heap.size = q at *
        have q0 := blk_cell T3 0 _ rfl
        have q1 := blk_cell T3 1 _ rfl
        have q2 := blk_cell T3 2 _ rfl
        go_wp2_with ((with_reducible refine wpList_stB 108 _ _ ?_); refine ⟨_, _, _, ⟨_, _, _, Tryz.sizeOf108, rfl, C3, st5 _ rfl 0 0 0 0 0⟩, ?_⟩; intro w5 B5 g5)
        refine bodyPost_ret (results_t1c1t1 rfl rfl (run_loadVar_all Tryz.isAgg108 Tryz.sizeOf108 B5 rfl)) rfl ⟨FrRes.none rfl, bl_st hb4 g5 hb4.size (Nat.le_refl _)⟩
      case pos =>
        have e2 : (tg.reg != reg) = false := by simpa using h2
        by_cases h3 : tg.pla = pla
        case neg =>
          rw [if_pos ⟨rfl, .inr (.inr h3)⟩]
          have e3 : (tg.pla != pla) = true := by rw [bne_iff_ne]; exact h3
          clear h1 h2
          go_enter Tryz.func52, Tryz.ntmps52
          refine wp_seq_k (fun K hK => ?_)
          have HK := Lib.hid hK
          clear hK
          go_wp2
          refine HK.out _ _ ?_
          clear HK
          refine wp_seq_k (fun K hK => ?_)
          have HK := Lib.hid hK
          clear hK
          go_wp2_with (go_at_call 75; refine (open_any a cap l _ (hs.below hbB) hl).mono ?_; rintro e w2 ⟨⟨a2, c2, rfl, ho2⟩, hb2⟩; rw [HR.out] at ho2; rw [HR.out]; have A3 := tr_bl hb2 B3)
          refine HK.out _ _ ?_
          clear HK
          have C3 := tr_al (Obj.cells #[.int .i64 tg.rep, .int .i64 tg.reg, .int .i64 tg.pla, .int .i64 tg.idx, .int .i64 tg.inc] 108) A3
          have T3 := heap_alloc_new w2 (Obj.cells #[.int .i64 tg.rep, .int .i64 tg.reg, .int .i64 tg.pla, .int .i64 tg.idx, .int .i64 tg.inc] 108)
          have hb3 := hbB.trans (hb2.mono hbB.size)
          have hb4 := hb3.alloc hb3.size (Obj.cells #[.int .i64 tg.rep, .int .i64 tg.reg, .int .i64 tg.pla, .int .i64 tg.idx, .int .i64 tg.inc] 108)
          have hq : w.heap.size < w2.heap.size := lt_blk A3
          have ho3 := (ho2.mono hbB.size).below (blw w2 (Obj.cells #[.int .i64 tg.rep, .int .i64 tg.reg, .int .i64 tg.pla, .int .i64 tg.idx, .int .i64 tg.inc] 108))
          clear A3 hb2 hb3 ho2
          generalize w2.alloc (Obj.cells #[.int .i64 tg.rep, .int .i64 tg.reg, .int .i64 tg.pla, .int .i64 tg.idx, .int .i64 tg.inc] 108) = w3 at *
          generalize w2.heap.size = q at *
          have q0 := blk_cell T3 0 _ rfl
          have q1 := blk_cell T3 1 _ rfl
          have q2 := blk_cell T3 2 _ rfl
          go_wp2_with ((with_reducible refine wpList_stB 108 _ _ ?_); refine ⟨_, _, _, ⟨_, _, _, Tryz.sizeOf108, rfl, C3, st5 _ rfl 0 0 0 0 0⟩, ?_⟩; intro w5 B5 g5)
          refine bodyPost_ret (results_t1c1t1 rfl rfl (run_loadVar_all Tryz.isAgg108 Tryz.sizeOf108 B5 rfl)) rfl ⟨FrRes.none rfl, bl_st hb4 g5 hb4.size (Nat.le_refl _)⟩
        case pos =>
          rw [if_neg (by rintro ⟨_, h | h | h⟩ <;> contradiction)]
          have e3 : (tg.pla != pla) = false := by simpa using h3
          clear h1 h2 h3
          go_enter Tryz.func52, Tryz.ntmps52
          refine wp_seq_k (fun K hK => ?_)
          have HK := Lib.hid hK
          clear hK
          go_wp2
          refine HK.out _ _ ?_
          clear HK
          refine wp_seq_k (fun K hK => ?_)
          have HK := Lib.hid hK
          clear hK
          go_wp2_with (go_at_call 75; refine (open_any a cap l _ (hs.below hbB) hl).mono ?_; rintro e w2 ⟨⟨a2, c2, rfl, ho2⟩, hb2⟩; rw [HR.out] at ho2; rw [HR.out]; have A3 := tr_bl hb2 B3)
          refine HK.out _ _ ?_
          clear HK
          have C3 := tr_al (Obj.cells #[.int .i64 tg.rep, .int .i64 tg.reg, .int .i64 tg.pla, .int .i64 tg.idx, .int .i64 tg.inc] 108) A3
          have T3 := heap_alloc_new w2 (Obj.cells #[.int .i64 tg.rep, .int .i64 tg.reg, .int .i64 tg.pla, .int .i64 tg.idx, .int .i64 tg.inc] 108)
          have hb3 := hbB.trans (hb2.mono hbB.size)
          have hb4 := hb3.alloc hb3.size (Obj.cells #[.int .i64 tg.rep, .int .i64 tg.reg, .int .i64 tg.pla, .int .i64 tg.idx, .int .i64 tg.inc] 108)
          have hq : w.heap.size < w2.heap.size := lt_blk A3
          have ho3 := (ho2.mono hbB.size).below (blw w2 (Obj.cells #[.int .i64 tg.rep, .int .i64 tg.reg, .int .i64 tg.pla, .int .i64 tg.idx, .int .i64 tg.inc] 108))
          clear A3 hb2 hb3 ho2
          generalize w2.alloc (Obj.cells #[.int .i64 tg.rep, .int .i64 tg.reg, .int .i64 tg.pla, .int .i64 tg.idx, .int .i64 tg.inc] 108) = w3 at *
          generalize w2.heap.size = q at *
          have q0 := blk_cell T3 0 _ rfl
          have q1 := blk_cell T3 1 _ rfl
          have q2 := blk_cell T3 2 _ rfl
          refine wp_seq_k (fun K hK => ?_)
          have HK := Lib.hid hK
          clear hK
          go_wp2
          refine HK.out _ _ ?_
          clear HK
          refine wp_seq_k (fun K hK => ?_)
          have HK := Lib.hid hK
          clear hK
          go_wp2_with fail
          have hbd := (Below.refl w3.heap.size w3).drew
          have F4 := tr_bl hbd C3
          have T11 := tr_bl hbd T3
          have hb14 := hb4.trans (hbd.mono hb4.size)
          have ho11 := ho3.below hbd
          clear C3 T3 hb4 ho3 q0 q1 q2
          refine wp_region_held_drew (S := fun w' => w'.heap[q]? = some (.cells #[.int .i64 tg.rep, .int .i64 tg.reg, .int .i64 tg.pla, .int .i64 tg.idx, .int .i64 tg.inc] 108 (0, 0))) (by kernel_rfl) T11 (fun hS0 => ?_)
          clear hbd
          generalize w3.drew = x0 at *
          refine wpAnyH_take (i := 0) (oi := ⟨_, _, _, _, _, _⟩) (v := ?_) rfl (by kernel_rfl) (by kernel_rfl) (by kernel_rfl) (fun _ _ _ h => h) (Or.inl ⟨by rfl, ?_⟩) (by assumption) ?_
          rotate_left
          · intro wS hSw; go_simp; (try with_reducible rfl)
          (try simp only [Act.put]); (try simp only [List.setIfInBounds_toArray]); (try simp only [List.set_cons_succ]); (try simp only [List.set_cons_zero])
          refine wpAnyH_take (i := 1) (oi := ⟨_, _, _, _, _, _⟩) (v := .agg (#[.int .i64 tg.rep, .int .i64 tg.reg, .int .i64 tg.pla, .int .i64 tg.idx, .int .i64 tg.inc])) rfl (by kernel_rfl) (by kernel_rfl) (by kernel_rfl) (fun _ _ _ h => h) (Or.inl ⟨by rfl, fun wS hSw => ?_⟩) (by assumption) ?_
          · exact exec_ldB 108 _ ⟨_, _, _, _, _, Tryz.isAgg108, Tryz.sizeOf108, rfl, hSw, ld5 _ _ _ _ _⟩
          (try simp only [Act.put]); (try simp only [List.setIfInBounds_toArray]); (try simp only [List.set_cons_succ]); (try simp only [List.set_cons_zero])
          refine wpAnyH_take (i := 2) (oi := ⟨_, _, _, _, _, _⟩) (v := ?_) rfl (by kernel_rfl) (by kernel_rfl) (by kernel_rfl) (fun _ _ _ h => h) (Or.inl ⟨by rfl, ?_⟩) (by assumption) ?_
          rotate_left
          · intro wS hSw; go_simp; (try with_reducible rfl)
          (try simp only [Act.put]); (try simp only [List.setIfInBounds_toArray]); (try simp only [List.set_cons_succ]); (try simp only [List.set_cons_zero])
          refine wpAnyH_take (i := 3) (oi := ⟨_, _, _, _, _, _⟩) (v := ?_) rfl (by kernel_rfl) (by kernel_rfl) (by kernel_rfl) (fun _ _ _ h => h) (Or.inl ⟨by rfl, ?_⟩) (by assumption) ?_
          rotate_left
          · intro wS hSw; go_simp; (try with_reducible rfl)
          (try simp only [Act.put]); (try simp only [List.setIfInBounds_toArray]); (try simp only [List.set_cons_succ]); (try simp only [List.set_cons_zero])
          refine wpAnyH_ready (rs := [4]) (by kernel_rfl) (by simp) ?_
          refine AllReadyH.cons (o := ⟨_, _, _, _, _, _⟩) rfl (fun K' hK' => ?_) AllReadyH.nil
          refine (if_pos (by rfl)).mpr ?_
          refine wp_stB 108 _ _ ?_
          refine ⟨_, _, _, ⟨_, _, _, Tryz.sizeOf108, rfl, F4, st5 _ rfl tg.rep tg.reg tg.pla tg.idx tg.inc⟩, ?_⟩
          intro w11 B11 g11
          refine hK'.out _ _ (tr_st g11 hS0 (by omega)) (fun _ => ?_)
          clear hK'
          (try simp only [Act.put]); (try simp only [List.setIfInBounds_toArray]); (try simp only [List.set_cons_succ]); (try simp only [List.set_cons_zero])
          refine wpAnyH_take (i := 5) (oi := ⟨_, _, _, _, _, _⟩) (v := ?_) rfl (by kernel_rfl) (by kernel_rfl) (by kernel_rfl) (fun _ _ _ h => h) (Or.inl ⟨by rfl, ?_⟩) (by assumption) ?_
          rotate_left
          · intro wS hSw; go_simp; (try with_reducible rfl)
          (try simp only [Act.put]); (try simp only [List.setIfInBounds_toArray]); (try simp only [List.set_cons_succ]); (try simp only [List.set_cons_zero])
          refine wpAnyH_done (by kernel_rfl) ?_ _
          refine HK.out _ _ ?_
          clear HK
          go_wp2
          refine bodyPost_ret (results_t1c1t1 rfl rfl (run_loadVar_all Tryz.isAgg108 Tryz.sizeOf108 B11 rfl)) rfl ⟨⟨a2, c2, rfl, ho11.st g11 F4 (by decide)⟩, bl_st hb14 g11 hb14.size (Nat.le_refl _)⟩
end Go.Proofs.YtknchbhobopkeaaGreatDoor
namespace Go.Proofs.YtknchbhobopkeaaGreatDoor
open Go.RowKit
def txB (l : List UInt8) : ByteArray := ⟨l.toArray⟩
theorem txB_inj {l m : List UInt8} (h : txB l = txB m) : l = m := by
  have h1 := congrArg ByteArray.data h
  simpa [txB] using h1
theorem conv_bys (ad : Option Addr) (c : Nat) (p : List UInt8) (w : World) (h : Row w ad (bys p)) : (convert 75 9 (.slice ad p.length c)).run Tryz.prog w = .ok (.string (txB p)) w := by
  cases ad with
  | none =>
    have hp : p = [] := by
      rcases h with h | ⟨b, off, ha, _⟩
      · have := congrArg List.length h
        rw [bys_len] at this
        exact List.eq_nil_of_length_eq_zero this
      · cases ha
    subst hp
    exact run_convert_bytes_nil w _ _ Tryz.underlying75 Tryz.underlying5 _ _ _ Tryz.underlying9
  | some ad =>
    refine run_convert_bytes_back (P := Tryz.prog) w _ _ 5 ad c p Tryz.underlying75 Tryz.underlying5 Tryz.underlying9 (fun j hj => ?_)
    obtain ⟨b, off, ha, hc⟩ := h.at (k := j) (by rw [bys_len]; exact hj)
    injection ha with ha
    subst ha
    rw [addr_add]
    exact hc j _ (by simp [bys, hj, byv])
set_option maxRecDepth 100000 in
theorem equal_any (a b : Option Addr) (c d : Nat) (l m : List UInt8) (w : World) (hl : Row w a (bys l)) (hm : Row w b (bys m)) : Calls Tryz.prog 72 #[.slice a l.length c, .slice b m.length d] w fun e w' => e = .returned (.bool (decide (l = m))) ∧ w = w' := by
  have h1 := conv_bys a c l w hl
  have h2 := conv_bys b d m w hm
  by_cases h : l = m
  · subst h
    rw [decide_eq_true rfl]
    go_enter Tryz.func72, Tryz.ntmps72
    go_wp2
    go_ret
    exact ⟨rfl, rfl⟩
  · rw [decide_eq_false h]
    have hlst : ∀ l : List UInt8, (txB l).toList = l := fun l => by
      rw [ByteArray.toList_eq]
      rfl
    have hne : ((txB l).toList == (txB m).toList) = false := by
      rw [hlst, hlst, beq_eq_false_iff_ne]
      exact h
    clear hlst
    go_enter Tryz.func72, Tryz.ntmps72
    go_wp2
    go_ret
    exact ⟨rfl, rfl⟩
end Go.Proofs.YtknchbhobopkeaaGreatDoor
namespace Go.Proofs.YtknchbhobopkeaaGreatDoor
open Go.RowKit
def coA (st : Nat) (t : Tg) (v : Value) : Array Value := #[.int .u8 (st : Int), .int .i64 t.rep, .int .i64 t.reg, .int .i64 t.pla, .int .i64 t.idx, .int .i64 t.inc, v]
theorem coA_size (st : Nat) (t : Tg) (v : Value) : (coA st t v).size = 7 := rfl
section
variable {w : World} {q off : Nat} {T : TypeId} {st : Nat} {t : Tg} {v : Value}
theorem coA_0 (h : w.heap[q]? = some (.cells (coA st t v) T (0, 0))) : w.cell? ⟨q, 0, none⟩ = some (.int .u8 (st : Int)) := blk_cell h 0 _ rfl
theorem coA_4 (h : w.heap[q]? = some (.cells (coA st t v) T (0, 0))) : w.cell? ⟨q, 4, none⟩ = some (.int .i64 t.idx) := blk_cell h 4 _ rfl
theorem coA_5 (h : w.heap[q]? = some (.cells (coA st t v) T (0, 0))) : w.cell? ⟨q, 5, none⟩ = some (.int .i64 t.inc) := blk_cell h 5 _ rfl
theorem coA_6 (h : w.heap[q]? = some (.cells (coA st t v) T (0, 0))) : w.cell? ⟨q, 6, none⟩ = some v := blk_cell h 6 _ rfl
end
end Go.Proofs.YtknchbhobopkeaaGreatDoor
namespace Go.Proofs.YtknchbhobopkeaaGreatDoor
open Go.RowKit
def sameC (c x : Cp) : Bool := decide (c.st = x.st) && (decide (c.tg.idx = x.tg.idx) && decide (c.body = x.body))
def ceA (g : Nat) (rep reg : Int) (s0 : Nat) (t0 : Tg) (v0 : Value) (s1 : Nat) (t1 : Tg) (v1 : Value) : Array Value :=
  #[.pointer (some ⟨g, 0, none⟩), .int .i64 rep, .int .i64 reg, .int .u8 (s0 : Int), .int .i64 t0.rep, .int .i64 t0.reg, .int .i64 t0.pla, .int .i64 t0.idx, .int .i64 t0.inc, v0,
    .int .u8 (s1 : Int), .int .i64 t1.rep, .int .i64 t1.reg, .int .i64 t1.pla, .int .i64 t1.idx, .int .i64 t1.inc, v1]
section
variable {w : World} {q g : Nat} {rep reg : Int} {s0 s1 : Nat} {t0 t1 : Tg} {v0 v1 : Value}
end
theorem ceA_ld0 (g : Nat) (rep reg : Int) (s0 : Nat) (t0 : Tg) (v0 : Value) (s1 : Nat) (t1 : Tg) (v1 : Value) : 3 + 7 ≤ (ceA g rep reg s0 t0 v0 s1 t1 v1).size ∧ (ceA g rep reg s0 t0 v0 s1 t1 v1).extract 3 (3 + 7) = coA s0 t0 v0 := ⟨by show _ ≤ 17; omega, rfl⟩
theorem ceA_ld1 (g : Nat) (rep reg : Int) (s0 : Nat) (t0 : Tg) (v0 : Value) (s1 : Nat) (t1 : Tg) (v1 : Value) : 10 + 7 ≤ (ceA g rep reg s0 t0 v0 s1 t1 v1).size ∧ (ceA g rep reg s0 t0 v0 s1 t1 v1).extract 10 (10 + 7) = coA s1 t1 v1 := ⟨by show _ ≤ 17; omega, rfl⟩
def cpA (s0 : Nat) (t0 : Tg) (v0 : Value) (s1 : Nat) (t1 : Tg) (v1 : Value) : Array Value :=
  #[.int .u8 (s0 : Int), .int .i64 t0.rep, .int .i64 t0.reg, .int .i64 t0.pla, .int .i64 t0.idx, .int .i64 t0.inc, v0,
    .int .u8 (s1 : Int), .int .i64 t1.rep, .int .i64 t1.reg, .int .i64 t1.pla, .int .i64 t1.idx, .int .i64 t1.inc, v1]
theorem ceA_ldp (g : Nat) (rep reg : Int) (s0 : Nat) (t0 : Tg) (v0 : Value) (s1 : Nat) (t1 : Tg) (v1 : Value) : 3 + 14 ≤ (ceA g rep reg s0 t0 v0 s1 t1 v1).size ∧ (ceA g rep reg s0 t0 v0 s1 t1 v1).extract 3 (3 + 14) = cpA s0 t0 v0 s1 t1 v1 := ⟨by show _ ≤ 17; omega, rfl⟩
section
variable {w : World} {q : Nat} {T : TypeId} {s0 s1 : Nat} {t0 t1 : Tg} {v0 v1 : Value}
theorem cpA_0 (h : w.heap[q]? = some (.cells (cpA s0 t0 v0 s1 t1 v1) T (0, 0))) : w.cell? ⟨q, 0, none⟩ = some (.int .u8 (s0 : Int)) := blk_cell h 0 _ rfl
theorem cpA_7 (h : w.heap[q]? = some (.cells (cpA s0 t0 v0 s1 t1 v1) T (0, 0))) : w.cell? ⟨q, 7, none⟩ = some (.int .u8 (s1 : Int)) := blk_cell h 7 _ rfl
end
end Go.Proofs.YtknchbhobopkeaaGreatDoor
namespace Go.Proofs.YtknchbhobopkeaaGreatDoor
open Go.RowKit
theorem cpA_new (s0 : Nat) (t0 : Tg) (a0 : Option Addr) (n0 k0 : Nat) (s1 : Nat) (t1 : Tg) (a1 : Option Addr) (n1 k1 : Nat) : (Value.agg (cpA s0 t0 (.slice a0 n0 k0) s1 t1 (.slice a1 n1 k1))).cells = cpA s0 t0 (.slice a0 n0 k0) s1 t1 (.slice a1 n1 k1) ∧ (cpA s0 t0 (.slice a0 n0 k0) s1 t1 (.slice a1 n1 k1)).size = 14 ∧ ∀ u ∈ (cpA s0 t0 (.slice a0 n0 k0) s1 t1 (.slice a1 n1 k1)).toList, u.oneCell' = true :=
  ⟨rfl, rfl, by simp [cpA, Value.oneCell']⟩
end Go.Proofs.YtknchbhobopkeaaGreatDoor
namespace Go.Proofs.YtknchbhobopkeaaGreatDoor
structure Live (d : Dk) : Prop where
  len : d.pl.length = 156
  w : d.waits = []
  dn : d.down = false
  de : d.dead = false
section
variable {d : Dk} {t : Tg} {body : List UInt8} {k : Nat}
theorem live_at (h : Live d) (hk : k < 156) : liveD d k = 0 := by
  unfold liveD thereD
  rw [h.len, h.dn, h.de]
  simp
  omega
theorem live_0 (h : Live d) : live0 d = 0 := by
  unfold live0 there0
  rw [h.len, h.dn, h.de]
  simp
theorem seal64 (t : Tg) {body : List UInt8} (hb : body.length ≤ 43) : (sealF t body 64).length = 64 := sealF_len (by decide) (by simpa [roomN] using hb)
theorem put_0 (h : Live d) (hl : d.left = 0) (hk : firstN t.reg t.pla = (k : Int)) (hk2 : k < 156) (hb : body.length ≤ 43) : putC d t body = ({ d with dead := true }, 5) := by
  have h1 : spendD d = ({ d with dead := true }, 5) := by unfold spendD; rw [if_pos hl]
  have h2 : writeD d k (sealF t body 64) = ({ d with dead := true }, 5) := by
    unfold writeD
    rw [live_at h hk2, seal64 t hb, h1]
    simp
  unfold putC
  rw [hk, h2]
  simp
theorem write_go {d : Dk} (h : Live d) (hl : d.left ≠ 0) (hk2 : k < 156) (hb : body.length ≤ 43) : writeD d k (sealF t body 64) = ({ d with left := (if 0 < d.left then d.left - 1 else d.left), waits := [(sealF t body 64, k)] }, 0) := by
  unfold writeD
  rw [live_at h hk2, seal64 t hb]
  simp only [ne_eq, not_true, if_false]
  unfold spendD
  rw [if_neg hl]
  split
  · simp [h.w]
  · simp [h.w]
theorem put_1 (h : Live d) (hl : d.left = 1) (hk : firstN t.reg t.pla = (k : Int)) (hk2 : k < 156) (hb : body.length ≤ 43) : putC d t body = ({ d with left := 0, waits := [(sealF t body 64, k)], dead := true }, 5) := by
  unfold putC
  rw [hk, write_go h (by omega) hk2 hb, hl]
  simp only [ne_eq, not_true, if_false]
  unfold flushD
  have : live0 ({ d with left := (if (0 : Int) < 1 then 1 - 1 else 1), waits := [(sealF t body 64, k)] } : Dk) = 0 := by
    unfold live0 there0
    simp [h.len, h.dn, h.de]
  rw [this]
  simp [spendD]
theorem put_n (h : Live d) (h0 : d.left ≠ 0) (h1 : d.left ≠ 1) (hk : firstN t.reg t.pla = (k : Int)) (hk2 : k < 156) (hb : body.length ≤ 43) : putC d t body = ({ d with pl := d.pl.set k ⟨sealF t body 64, sealF t body 64, false⟩, waits := [], left := (if 0 < d.left then d.left - 2 else d.left) }, 0) := by
  unfold putC
  rw [hk, write_go h h0 hk2 hb]
  simp only [ne_eq, not_true, if_false]
  unfold flushD
  have : live0 ({ d with left := (if 0 < d.left then d.left - 1 else d.left), waits := [(sealF t body 64, k)] } : Dk) = 0 := by
    unfold live0 there0
    simp [h.len, h.dn, h.de]
  rw [this]
  unfold spendD
  simp only [ne_eq, not_true, if_false]
  by_cases hl : 0 < d.left
  · have h2 : ¬ d.left - 1 = 0 := by omega
    have h4 : d.left - 1 - 1 = d.left - 2 := by omega
    have h5 : 1 < d.left := by omega
    simp [hl, h2, h4, h5, thruD]
  · simp [hl, h0, thruD]
end
abbrev Vo := Option (Int × Int × List UInt8)
def okO : Vo → Prop
  | none => True
  | some (v, i, b) => 1 ≤ v ∧ v ≤ 1099511627776 ∧ 1 ≤ i ∧ i ≤ 1099511627776 ∧ b.length ≤ 43
def frO (reg : Int) (i : Int) : Vo → List UInt8
  | none => zeros64
  | some (v, c, b) => sealF ⟨0, reg, i, v, c⟩ b 64
def verO : Vo → Int
  | none => 0
  | some (v, _, _) => v
def bodO : Vo → List UInt8
  | none => []
  | some (_, _, b) => b
structure Cel (d : Dk) (reg : Int) (o0 o1 : Vo) : Prop where
  r : reg = 1 ∨ reg = 2
  k0 : okO o0
  k1 : okO o1
  p0 : ∃ m, d.pl[(firstN reg 0).toNat]? = some ⟨frO reg 0 o0, m, false⟩
  p1 : ∃ m, d.pl[(firstN reg 1).toNat]? = some ⟨frO reg 1 o1, m, false⟩
def coO (reg i : Int) : Vo → Cp
  | none => ⟨0, zeroTg, []⟩
  | some (v, c, b) => ⟨1, ⟨0, reg, i, v, c⟩, b⟩
theorem may_cell {reg i v c : Int} (hr : reg = 1 ∨ reg = 2) (hi : i = 0 ∨ i = 1) (h1 : 1 ≤ v) (h2 : v ≤ 1099511627776) (h3 : 1 ≤ c) (h4 : c ≤ 1099511627776) : mayTg ⟨0, reg, i, v, c⟩ = true := by
  have hp : placesN reg = 2 := by rcases hr with rfl | rfl <;> rfl
  have a1 : 0 ≤ i := by omega
  have a2 : i < 2 := by omega
  have a3 : 0 ≤ v := by omega
  simp [mayTg, hp, a1, a2, a3, h2, h3, h4]
theorem mine_fr {reg i : Int} {o : Vo} (hr : reg = 1 ∨ reg = 2) (hi : i = 0 ∨ i = 1) (h : okO o) : mineF (frO reg i o) 0 reg i = ((coO reg i o).st, (coO reg i o).tg, (coO reg i o).body) := by
  match o, h with
  | none, _ => rfl
  | some (v, c, b), ⟨h1, h2, h3, h4, h5⟩ => exact mine_seal (may_cell hr hi h1 h2 h3 h4) (by decide) (by simpa [roomN] using h5)
theorem first_cell {reg i : Int} (hr : reg = 1 ∨ reg = 2) (hi : i = 0 ∨ i = 1) : firstN reg i = (((firstN reg i).toNat : Nat) : Int) ∧ (firstN reg i).toNat < 156 := by
  rcases hr with rfl | rfl <;> rcases hi with rfl | rfl <;> decide
theorem read_cell {d : Dk} {s : Int} {f m : List UInt8} (hs : s = ((s.toNat : Nat) : Int)) (h2 : s.toNat < 156) (h : Live d) (hp : d.pl[s.toNat]? = some ⟨f, m, false⟩) : readD d s = (f, 0) := by
  have hl : liveD d s = 0 := by rw [hs]; exact live_at h h2
  unfold readD
  rw [hl, h.w, hp]
  simp [lastW]
theorem copy_cell {d : Dk} {reg : Int} {o0 o1 : Vo} (h : Live d) (hc : Cel d reg o0 o1) : copyC d 0 reg 0 = coO reg 0 o0 ∧ copyC d 0 reg 1 = coO reg 1 o1 := by
  obtain ⟨m0, e0⟩ := hc.p0
  obtain ⟨m1, e1⟩ := hc.p1
  obtain ⟨a, b⟩ := first_cell hc.r (i := 0) (.inl rfl)
  obtain ⟨a', b'⟩ := first_cell hc.r (i := 1) (.inr rfl)
  constructor
  · unfold copyC
    rw [read_cell a b h e0]
    simp only
    rw [mine_fr hc.r (.inl rfl) hc.k0]
  · unfold copyC
    rw [read_cell a' b' h e1]
    simp only
    rw [mine_fr hc.r (.inr rfl) hc.k1]
theorem open_cell {d : Dk} {reg : Int} (h : Live d) (hr : reg = 1 ∨ reg = 2) : openC d 0 reg = 0 := by
  have hu : upD d = true := by unfold upD; rw [h.len, h.dn, h.de]; rfl
  unfold openC
  rw [h.len, hu]
  rcases hr with rfl | rfl <;> simp
def maxO (o0 o1 : Vo) : Vo := if verO o0 < verO o1 then o1 else o0
theorem load_cell {d : Dk} {reg : Int} {o0 o1 : Vo} (h : Live d) (hc : Cel d reg o0 o1) : loadC d 0 reg = (verO (maxO o0 o1), bodO (maxO o0 o1), 0) := by
  obtain ⟨e0, e1⟩ := copy_cell h hc
  unfold loadC
  rw [open_cell h hc.r, e0, e1]
  have k0 := hc.k0
  have k1 := hc.k1
  match o0, o1, k0, k1 with
  | none, none, _, _ => rfl
  | some (v, c, b), none, ⟨h1, _⟩, _ =>
    have : ¬ v < 0 := by omega
    simp [loadedC, overC, coO, pickC, maxO, verO, bodO, this]
  | none, some (v, c, b), _, ⟨h1, _⟩ =>
    have : 0 < v := by omega
    simp [loadedC, overC, coO, pickC, maxO, verO, bodO, this]
  | some (v, c, b), some (v', c', b'), _, _ =>
    by_cases hv : v < v'
    · simp [loadedC, overC, coO, pickC, maxO, verO, bodO, hv]
    · simp [loadedC, overC, coO, pickC, maxO, verO, bodO, hv]
end Go.Proofs.YtknchbhobopkeaaGreatDoor
namespace Go.Proofs.YtknchbhobopkeaaGreatDoor
section
variable {d : Dk} {k j : Nat}
theorem read_live (h : Live d) (hj : j < 156) : readD d j = match d.pl[j]? with | none => ([], 2) | some p => if p.lost = true then ([], 50) else (p.rest, 0) := by
  unfold readD
  rw [live_at h hj, h.w]
  rfl
theorem live_set (h : Live d) (p : Pl) (x : Int) : Live { d with pl := d.pl.set k p, waits := [], left := x } := ⟨by simp [h.len], rfl, h.dn, h.de⟩
theorem read_set (h : Live d) (p : Pl) (x : Int) (hj : j < 156) (hk : k < 156) : readD { d with pl := d.pl.set k p, waits := [], left := x } j = if j = k then (if p.lost = true then ([], 50) else (p.rest, 0)) else readD d j := by
  rw [read_live (live_set h p x) hj, read_live h hj]
  by_cases e : j = k
  · subst e
    simp [List.getElem?_set_self (show j < d.pl.length by rw [h.len]; exact hj)]
  · rw [if_neg e]
    simp only
    rw [List.getElem?_set_ne (Ne.symm e)]
end
def putP (d : Dk) (k : Nat) (f : List UInt8) : Dk := { d with pl := d.pl.set k ⟨f, f, false⟩, waits := [], left := (if 0 < d.left then d.left - 2 else d.left) }
theorem putP_live {d : Dk} (h : Live d) (k : Nat) (f : List UInt8) : Live (putP d k f) := live_set h _ _
theorem putP_read {d : Dk} (h : Live d) {k j : Nat} (f : List UInt8) (hj : j < 156) (hk : k < 156) : readD (putP d k f) j = if j = k then (f, 0) else readD d j := by
  unfold putP
  rw [read_set h _ _ hj hk]
  rfl
theorem putP_left (d : Dk) (k : Nat) (f : List UInt8) : (putP d k f).left = if 0 < d.left then d.left - 2 else d.left := rfl
/-! Places of a cell. -/
def secC (reg : Int) (i : Nat) : Nat := (if reg = 1 then 0 else 2) + i
theorem sec_first {reg : Int} (hr : reg = 1 ∨ reg = 2) {i : Nat} (hi : i < 2) : firstN reg (i : Int) = ((secC reg i : Nat) : Int) ∧ secC reg i < 4 := by
  rcases hr with rfl | rfl <;> rcases (show i = 0 ∨ i = 1 by omega) with rfl | rfl <;> decide
def cop (d : Dk) (rep reg : Int) (i : Nat) : Cp := ⟨(mineF (readD d (secC reg i)).1 rep reg i).1, (mineF (readD d (secC reg i)).1 rep reg i).2.1, (mineF (readD d (secC reg i)).1 rep reg i).2.2⟩
theorem copy_cop {d : Dk} {rep reg : Int} (hr : reg = 1 ∨ reg = 2) : copyC d rep reg 0 = cop d rep reg 0 ∧ copyC d rep reg 1 = cop d rep reg 1 := by
  have a := (sec_first hr (i := 0) (by omega)).1
  have b := (sec_first hr (i := 1) (by omega)).1
  constructor
  · unfold copyC cop
    rw [← a]
    rfl
  · unfold copyC cop
    rw [← b]
    rfl
theorem cop_read {d d' : Dk} {rep reg : Int} {i : Nat} (h : readD d' (secC reg i) = readD d (secC reg i)) : cop d' rep reg i = cop d rep reg i := by unfold cop; rw [h]
theorem cop_frame {d : Dk} {rep reg v c : Int} {b : List UInt8} {i : Nat} {e : Int} (h : readD d (secC reg i) = (sealF ⟨rep, reg, i, v, c⟩ b 64, e)) (hm : mayTg ⟨rep, reg, i, v, c⟩ = true) (hb : b.length ≤ 43) : cop d rep reg i = ⟨1, ⟨rep, reg, i, v, c⟩, b⟩ := by
  unfold cop
  rw [h]
  simp only
  have := mine_seal (n := 64) hm (by decide) (show b.length ≤ roomN 64 from hb)
  simp only at this
  rw [this]
theorem cop_zero {d : Dk} {rep reg : Int} {i : Nat} {e : Int} (h : readD d (secC reg i) = (zeros64, e)) : cop d rep reg i = ⟨0, zeroTg, []⟩ := by
  unfold cop
  rw [h]
  rfl
theorem cop_none {d : Dk} {rep reg : Int} {i : Nat} {e : Int} (h : readD d (secC reg i) = ([], e)) : cop d rep reg i = ⟨2, zeroTg, []⟩ := by
  unfold cop
  rw [h]
  rfl
theorem may_cell2 {rep reg v c : Int} {i : Nat} (hp : 0 ≤ rep ∧ rep ≤ 6) (hr : reg = 1 ∨ reg = 2) (hi : i < 2) (h1 : 0 ≤ v) (h2 : v ≤ 1099511627776) (h3 : 1 ≤ c) (h4 : c ≤ 1099511627776) : mayTg ⟨rep, reg, i, v, c⟩ = true := by
  have hpl : placesN reg = 2 := by rcases hr with rfl | rfl <;> rfl
  have a2 : ((i : Nat) : Int) < 2 := by omega
  simp [mayTg, hpl, hp.1, hp.2, a2, h1, h2, h3, h4]
theorem open_live {d : Dk} {rep reg : Int} (h : Live d) (hp : 0 ≤ rep ∧ rep ≤ 6) (hr : reg = 1 ∨ reg = 2) : openC d rep reg = 0 := by
  have hu : upD d = true := by unfold upD; rw [h.len, h.dn, h.de]; rfl
  unfold openC
  rw [h.len, hu]
  have a : ¬ rep < 0 := by omega
  have b : ¬ 7 ≤ rep := by omega
  rcases hr with rfl | rfl <;> simp [a, b]
theorem load_live {d : Dk} {rep reg : Int} (h : Live d) (hp : 0 ≤ rep ∧ rep ≤ 6) (hr : reg = 1 ∨ reg = 2) : loadC d rep reg = if (loadedC (cop d rep reg 0) (cop d rep reg 1)).2.1 = false then (0, [], (loadedC (cop d rep reg 0) (cop d rep reg 1)).2.2) else ((pickC (cop d rep reg 0) (cop d rep reg 1)).tg.idx, (pickC (cop d rep reg 0) (cop d rep reg 1)).body, 0) := by
  unfold loadC
  rw [open_live h hp hr, (copy_cop hr).1, (copy_cop hr).2]
  simp
/-! A store: where there is power for all of it. -/
def firstP (c0 c1 : Cp) : Nat := if (loadedC c0 c1).2.1 = true then 1 - (loadedC c0 c1).1 else 0
theorem loaded_lt (c0 c1 : Cp) : (loadedC c0 c1).1 < 2 := by
  unfold loadedC
  split
  · simp
  · split
    · simp
    · split <;> simp
theorem firstP_lt (c0 c1 : Cp) : firstP c0 c1 < 2 := by unfold firstP; split <;> omega
section
variable {d : Dk} {rep reg inc : Int} {body : List UInt8}
theorem store_red (h : Live d) (hp : 0 ≤ rep ∧ rep ≤ 6) (hr : reg = 1 ∨ reg = 2) (hi : 1 ≤ inc ∧ inc ≤ 1099511627776) (hb : body.length ≤ 43) (he : (loadedC (cop d rep reg 0) (cop d rep reg 1)).2.2 = 0) (hv : (pickC (cop d rep reg 0) (cop d rep reg 1)).tg.idx + 1 ≤ 1099511627776) :
    storeC d rep reg inc body = (if (putC d ⟨rep, reg, (firstP (cop d rep reg 0) (cop d rep reg 1) : Nat), (pickC (cop d rep reg 0) (cop d rep reg 1)).tg.idx + 1, inc⟩ body).2 ≠ 0 then putC d ⟨rep, reg, (firstP (cop d rep reg 0) (cop d rep reg 1) : Nat), (pickC (cop d rep reg 0) (cop d rep reg 1)).tg.idx + 1, inc⟩ body
      else putC (putC d ⟨rep, reg, (firstP (cop d rep reg 0) (cop d rep reg 1) : Nat), (pickC (cop d rep reg 0) (cop d rep reg 1)).tg.idx + 1, inc⟩ body).1 ⟨rep, reg, ((1 - firstP (cop d rep reg 0) (cop d rep reg 1) : Nat) : Int), (pickC (cop d rep reg 0) (cop d rep reg 1)).tg.idx + 1, inc⟩ body) := by
  have hf : (if (loadedC (cop d rep reg 0) (cop d rep reg 1)).2.1 = true then 1 - ((loadedC (cop d rep reg 0) (cop d rep reg 1)).1 : Int) else 0) = ((firstP (cop d rep reg 0) (cop d rep reg 1) : Nat) : Int) := by
    have := loaded_lt (cop d rep reg 0) (cop d rep reg 1)
    unfold firstP
    split <;> omega
  have hf2 : (1 : Int) - ((firstP (cop d rep reg 0) (cop d rep reg 1) : Nat) : Int) = ((1 - firstP (cop d rep reg 0) (cop d rep reg 1) : Nat) : Int) := by
    have := firstP_lt (cop d rep reg 0) (cop d rep reg 1)
    omega
  unfold storeC
  rw [open_live h hp hr, (copy_cop hr).1, (copy_cop hr).2]
  simp only [ne_eq, not_true, false_and, if_false]
  rw [if_neg (by omega), if_neg (by omega), he]
  simp only [not_true, if_false]
  rw [if_neg (by omega), hf, hf2]
end
end Go.Proofs.YtknchbhobopkeaaGreatDoor
