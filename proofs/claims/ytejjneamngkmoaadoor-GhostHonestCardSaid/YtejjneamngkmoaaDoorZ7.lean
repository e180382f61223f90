/- Texts that the claim leans on, part 7: D37, D37b, D38, D39a, D39, D40, D41, X5. -/
import Derived.Test.YtejjneamngkmoaaDoorZ1
import Derived.Test.YtejjneamngkmoaaDoorZ2
import Derived.Test.YtejjneamngkmoaaDoorZ3
import Derived.Test.YtejjneamngkmoaaDoorZ4
import Derived.Test.YtejjneamngkmoaaDoorZ5
import Derived.Test.YtejjneamngkmoaaDoorZ6
import Derived.Test.YtejjneamngkmoaaDoorRows
import Derived.WalkKit
import Derived.WalkSpells
import Derived.WalkLawsBesides
import Derived.Handy
import Derived.Deep.QuietTactic
import Derived.BigQuiet
import Derived.Deep.DeepCutAuto
import Derived.Lib.Hide
import Derived.RegionTactic
import Derived.ChangeAlike
import Derived.Laws.ResultCell
import Derived.Outline
import Derived.Laws.IdiomStrings
import Derived.Laws.BytesArg
import Derived.Laws.MakeOwn
import Derived.Lib.SliceRun
import Derived.Laws.BitsAllLaws
import Derived.Great.BuildSlice
import Derived.Great.FillDense
import Derived.Laws.Rows
import Derived.Deep.Quiet
import Derived.Deep.RegionHeld3
import Derived.ProofKit
import Derived.OpenShut
import Derived.Laws.CopyOwn
import Derived.Laws.CopyRow
import Derived.Laws.NewBlocks
import Derived.Deep.RegionLaw
namespace Go.Proofs.YtejjneamngkmoaaDoor
open Go.RowKit

set_option maxRecDepth 100000 in
set_option maxHeartbeats 4000000 in
theorem open_m1 (b off : Nat) (cap : Nat) (l : List UInt8) (w : World) (hs : SlB w (some ⟨b, off, none⟩) cap l) (hl : l.length = 64) (hz : noughtsB l = false) : Calls Tryd.prog 69 #[.slice (some ⟨b, off, none⟩) 64 cap] w fun e w' => FrRes w.heap.size (openF l) e w' ∧ Below w.heap.size w w' := by
  rw [openF_ok (N := 64) hl (by decide) hz]
  have hroom : ∀ w, Calls Tryd.prog 73 #[.int .i64 1] w fun e w' => e = .returned (.int .i64 43) ∧ w = w' := fun w => room_any 1 w
  have hcap : 64 ≤ cap := by have := hs.le; omega
  have hmx := hs.max
  unfold maxLen at hmx
  have k2 : ¬ cap = 2 := by omega
  have k17 : ¬ cap = 17 := by omega
  have hbB := blw w (Obj.cells #[.int .i64 0, .int .i64 0, .int .i64 0, .int .i64 0, .int .i64 0] 37)
  have B3 := heap_alloc_new w (Obj.cells #[.int .i64 0, .int .i64 0, .int .i64 0, .int .i64 0, .int .i64 0] 37)
  have hno := noughts_any _ cap l (w.alloc (Obj.cells #[.int .i64 0, .int .i64 0, .int .i64 0, .int .i64 0, .int .i64 0] 37)) (hs.below hbB)
  rw [hl, hz] at hno
  obtain ⟨n, hn, hnlt⟩ : ∃ n, getN l 0 2 = n ∧ n < 65536 := ⟨_, rfl, getN_lt l 0 2⟩
  obtain ⟨s, hsn, hslt⟩ : ∃ s, getN l 60 4 = s ∧ s < 4294967296 := ⟨_, rfl, getN_lt l 60 4⟩
  have g1 : ∀ w', SlB w' (some ⟨b, off, none⟩) cap l → Calls Tryd.prog 79 #[.slice (some ⟨b, off, none⟩) 64 cap, .int .i64 0, .int .i64 2] w' fun e w'' => e = .returned (.tuple #[.int .i64 (n : Nat), .int .i64 2, .int .i64 0]) ∧ Below w'.heap.size w' w'' := fun w' h => by
    have := get_ok _ cap l 0 2 w' h (by omega) (by omega)
    rw [hl, hn] at this
    exact this
  have g2 : ∀ w', SlB w' (some ⟨b, off, none⟩) cap l → Calls Tryd.prog 79 #[.slice (some ⟨b, off, none⟩) 64 cap, .int .i64 60, .int .i64 4] w' fun e w'' => e = .returned (.tuple #[.int .i64 (s : Nat), .int .i64 64, .int .i64 0]) ∧ Below w'.heap.size w' w'' := fun w' h => by
    have := get_ok _ cap l 60 4 w' h (by omega) (by omega)
    rw [hl, hsn] at this
    exact this
  have hpa : ∀ w', SlB w' (some ⟨b, off, none⟩) cap l → Calls Tryd.prog 102 #[.slice (some ⟨b, off + 2, none⟩) 15 (cap - 2)] w' fun e w'' => e = .returned (.tuple #[tgV (parseT ((l.drop 2).take 15)).1, .int .i64 (parseT ((l.drop 2).take 15)).2]) ∧ Below w'.heap.size w' w'' := fun w' h =>
    tparse_any _ _ _ w' (h.sub 2 15 (by omega)) (by rw [List.length_take, List.length_drop]; omega)
  obtain ⟨tg, pe, hpt, hpe⟩ : ∃ tg pe, parseT ((l.drop 2).take 15) = (tg, pe) ∧ ((pe = 0 ∧ tg = tagAt l 2 ∧ mayTg (tagAt l 2) = true) ∨ (pe = 30 ∧ mayTg (tagAt l 2) = false)) := by
    unfold parseT
    rw [tagAt_sub]
    cases h : mayTg (tagAt l 2)
    · exact ⟨_, _, rfl, .inr ⟨rfl, rfl⟩⟩
    · exact ⟨_, _, rfl, .inl ⟨rfl, rfl, rfl⟩⟩
  rw [hpt] at hpa
  simp only at hpa
  have HPE := Lib.hid hpe
  have HL := Lib.hid hl
  have HN := Lib.hid hn
  have HS := Lib.hid hsn
  clear hpe hpt hz hl hn hsn
  go_enter Tryd.func69, Tryd.ntmps69
  refine wp_seq_k (fun K hK => ?_)
  have HK := Lib.hid hK
  clear hK
  go_wp2
  refine HK.out _ _ ?_
  clear HK
  refine wp_seq_k (fun K hK => ?_)
  have HK := Lib.hid hK
  clear hK
  go_wp2
  refine HK.out _ _ ?_
  clear HK
  refine wp_seq_k (fun K hK => ?_)
  have HK := Lib.hid hK
  clear hK
  go_wp2_with (go_at_call 73; refine (hroom _).mono ?_; rintro e w2 ⟨rfl, rfl⟩)
  refine HK.out _ _ ?_
  clear HK
  refine wp_seq_k (fun K hK => ?_)
  have HK := Lib.hid hK
  clear hK
  go_wp2_with (go_at_call 101; refine hno.mono ?_; rintro e w2 ⟨rfl, hb2⟩)
  refine HK.out _ _ ?_
  clear HK
  have A3 := tr_bl hb2 B3
  have hb3 := hbB.trans (hb2.mono hbB.size)
  have hs3 := hs.below hb3
  clear hno hb2 B3 hbB
  refine wp_seq_k (fun K hK => ?_)
  have HK := Lib.hid hK
  clear hK
  go_wp2_with (go_at_call 79; refine (g1 _ hs3).mono ?_; rintro e w4 ⟨rfl, hb4⟩)
  refine HK.out _ _ ?_
  clear HK
  have A4 := tr_bl hb4 A3
  have hb5 := hb3.trans (hb4.mono hb3.size)
  have hs5 := hs.below hb5
  clear A3 hb3 hs3 hb4
  refine wp_seq_k (fun K hK => ?_)
  have HK := Lib.hid hK
  clear hK
  go_wp2_with (go_at_call 102; refine (hpa _ hs5).mono ?_; rintro e w5 ⟨rfl, hb6⟩)
  refine HK.out _ _ ?_
  clear HK
  have A5 := tr_al (Obj.cells #[.int .i64 tg.rep, .int .i64 tg.reg, .int .i64 tg.pla, .int .i64 tg.idx, .int .i64 tg.inc] 37) (tr_bl hb6 A4)
  have T5 := heap_alloc_new w5 (Obj.cells #[.int .i64 tg.rep, .int .i64 tg.reg, .int .i64 tg.pla, .int .i64 tg.idx, .int .i64 tg.inc] 37)
  have hb50 := hb5.trans (hb6.mono hb5.size)
  have hb7 := hb50.alloc hb50.size (Obj.cells #[.int .i64 tg.rep, .int .i64 tg.reg, .int .i64 tg.pla, .int .i64 tg.idx, .int .i64 tg.inc] 37)
  have hq0 : w.heap.size < w5.heap.size := Nat.lt_of_lt_of_le (lt_blk A4) (hb6.size)
  have hs7 := hs.below hb7
  clear A4 hb5 hs5 hb6 hb50 hpa g1
  generalize w5.alloc (Obj.cells #[.int .i64 tg.rep, .int .i64 tg.reg, .int .i64 tg.pla, .int .i64 tg.idx, .int .i64 tg.inc] 37) = w6 at *
  generalize w5.heap.size = q at *
  refine wp_seq_k (fun K hK => ?_)
  have HK := Lib.hid hK
  clear hK
  go_wp2
  refine HK.out _ _ ?_
  clear HK
  refine wp_seq_k (fun K hK => ?_)
  have HK := Lib.hid hK
  clear hK
  go_wp2_with (go_at_call 79; refine (g2 _ hs7).mono ?_; rintro e w8 ⟨rfl, hb8'⟩)
  refine HK.out _ _ ?_
  clear HK
  have C3 := tr_bl hb8' A5
  have T8 := tr_bl hb8' T5
  have hb8 := hb7.trans (hb8'.mono hb7.size)
  have hs8 := hs.below hb8
  clear g2 hs7 hb7 hb8' A5 T5
  have hsum := sum_any _ cap (l.take 60) w8 (hs8.take 60)
  rw [show (l.take 60).length = 60 by rw [List.length_take, HL.out]; rfl] at hsum
  have hno7 : ∀ w', Below w8.heap.size w8 w' → n ≤ 43 → Calls Tryd.prog 101 #[.slice (some ⟨b, off + (17 + n), none⟩) (60 - (17 + n)) (cap - (17 + n))] w' fun e w'' => e = .returned (.bool (noughtsB ((l.drop (17 + n)).take (64 - 21 - n)))) ∧ Below w'.heap.size w' w'' := fun w' hb hnr => by
    have := noughts_any _ _ ((l.drop (17 + n)).take (64 - 21 - n)) w' ((hs8.below hb).sub (17 + n) (64 - 21 - n) (by rw [HL.out]; omega))
    rw [show ((l.drop (17 + n)).take (64 - 21 - n)).length = 60 - (17 + n) by rw [List.length_take, List.length_drop, HL.out]; omega] at this
    exact this
  have hok : okF l 64 = (mayTg (tagAt l 2) && (decide (n ≤ 43) && (decide (s = crcS (l.take 60)) && noughtsB ((l.drop (17 + n)).take (64 - 21 - n))))) := by
    unfold okF
    rw [HN.out, show 64 - 4 = 60 from rfl, HS.out, show roomN 64 = 43 from rfl]
  rw [hok, HN.out]
  clear hok
  have hz := crcS_lt (l.take 60)
  generalize crcS (l.take 60) = z at *
  generalize hnd : noughtsB ((l.drop (17 + n)).take (64 - 21 - n)) = nd at *
  clear hnd
  rcases HPE.out with ⟨h1, h2, h3⟩ | ⟨h1, h3⟩
  case inr =>
    rw [h3, Bool.false_and, if_neg (by simp)]
    subst h1
    clear h3 HPE
    go_wp2_with (first
      | (go_at_call 73; refine (hroom _).mono ?_; rintro e w2 ⟨rfl, rfl⟩)
      | (go_at_call 98; refine hsum.mono ?_; rintro e w7 ⟨rfl, hb7⟩; have D3 := tr_bl hb7 C3; have hb9 := hb8.trans (hb7.mono hb8.size))
      | (go_at_call 101; refine (hno8 _ hb7).mono ?_; rintro e w8 ⟨rfl, hb10⟩; have E3 := tr_bl hb10 D3; have hb11 := hb9.trans (hb10.mono hb9.size))
      | ((with_reducible refine wpList_stB 37 _ _ ?_); refine ⟨_, _, _, ⟨_, _, _, Tryd.sizeOf37, rfl, C3, st5 _ rfl 0 0 0 0 0⟩, ?_⟩; intro w5 B5 g5))
    refine bodyPost_ret (results_t1c1t1 rfl rfl (run_loadVar_all Tryd.isAgg37 Tryd.sizeOf37 B5 rfl)) rfl ⟨FrRes.none rfl, bl_st hb8 g5 hb8.size (Nat.le_refl _)⟩
  case inl =>
    rw [h3, Bool.true_and]
    subst h1
    have HTG := Lib.hid h2
    clear h3 HPE h2
    by_cases hnr : n ≤ 43
    case neg =>
      rw [decide_eq_false hnr, Bool.false_and, if_neg (by simp)]
      have hI : (43 : Int) < n := by omega
      go_wp2_with (first
        | (go_at_call 73; refine (hroom _).mono ?_; rintro e w2 ⟨rfl, rfl⟩)
        | (go_at_call 98; refine hsum.mono ?_; rintro e w7 ⟨rfl, hb7⟩; have D3 := tr_bl hb7 C3; have hb9 := hb8.trans (hb7.mono hb8.size))
        | (go_at_call 101; refine (hno8 _ hb7).mono ?_; rintro e w8 ⟨rfl, hb10⟩; have E3 := tr_bl hb10 D3; have hb11 := hb9.trans (hb10.mono hb9.size))
        | ((with_reducible refine wpList_stB 37 _ _ ?_); refine ⟨_, _, _, ⟨_, _, _, Tryd.sizeOf37, rfl, C3, st5 _ rfl 0 0 0 0 0⟩, ?_⟩; intro w5 B5 g5))
      refine bodyPost_ret (results_t1c1t1 rfl rfl (run_loadVar_all Tryd.isAgg37 Tryd.sizeOf37 B5 rfl)) rfl ⟨FrRes.none rfl, bl_st hb8 g5 hb8.size (Nat.le_refl _)⟩
    case pos =>
      rw [decide_eq_true hnr, Bool.true_and]
      have hI : (n : Int) ≤ 43 := by omega
      have kn : ¬ cap = 17 + n := by omega
      have hno8 := fun w' h => hno7 w' h hnr
      clear hno7
      by_cases hsz : s = z
      case neg =>
        rw [decide_eq_false hsz, Bool.false_and, if_neg (by simp)]
        have hne : ((s : Int) != (z : Int)) = true := by rw [bne_iff_ne]; omega
        go_wp2_with (first
          | (go_at_call 73; refine (hroom _).mono ?_; rintro e w2 ⟨rfl, rfl⟩)
          | (go_at_call 98; refine hsum.mono ?_; rintro e w7 ⟨rfl, hb7⟩; have D3 := tr_bl hb7 C3; have hb9 := hb8.trans (hb7.mono hb8.size))
          | (go_at_call 101; refine (hno8 _ hb7).mono ?_; rintro e w8 ⟨rfl, hb10⟩; have E3 := tr_bl hb10 D3; have hb11 := hb9.trans (hb10.mono hb9.size))
          | ((with_reducible refine wpList_stB 37 _ _ ?_); refine ⟨_, _, _, ⟨_, _, _, Tryd.sizeOf37, rfl, D3, st5 _ rfl 0 0 0 0 0⟩, ?_⟩; intro w5 B5 g5))
        refine bodyPost_ret (results_t1c1t1 rfl rfl (run_loadVar_all Tryd.isAgg37 Tryd.sizeOf37 B5 rfl)) rfl ⟨FrRes.none rfl, bl_st hb9 g5 hb9.size (Nat.le_refl _)⟩
      case pos =>
        subst hsz
        rw [decide_eq_true rfl, Bool.true_and]
        have hne : ((s : Int) != (s : Int)) = false := by simp
        cases nd
        case false =>
          rw [if_neg (by simp)]
          go_wp2_with (first
            | (go_at_call 73; refine (hroom _).mono ?_; rintro e w2 ⟨rfl, rfl⟩)
            | (go_at_call 98; refine hsum.mono ?_; rintro e w7 ⟨rfl, hb7⟩; have D3 := tr_bl hb7 C3; have hb9 := hb8.trans (hb7.mono hb8.size))
            | (go_at_call 101; refine (hno8 _ hb7).mono ?_; rintro e w8 ⟨rfl, hb10⟩; have E3 := tr_bl hb10 D3; have hb11 := hb9.trans (hb10.mono hb9.size))
            | ((with_reducible refine wpList_stB 37 _ _ ?_); refine ⟨_, _, _, ⟨_, _, _, Tryd.sizeOf37, rfl, E3, st5 _ rfl 0 0 0 0 0⟩, ?_⟩; intro w5 B5 g5))
          refine bodyPost_ret (results_t1c1t1 rfl rfl (run_loadVar_all Tryd.isAgg37 Tryd.sizeOf37 B5 rfl)) rfl ⟨FrRes.none rfl, bl_st hb11 g5 hb11.size (Nat.le_refl _)⟩
        case true =>
          rw [if_pos rfl]
          refine wp_seq_k (fun K hK => ?_)
          have HK := Lib.hid hK
          clear hK
          go_wp2_with (first
                      | (go_at_call 73; refine (hroom _).mono ?_; rintro e w2 ⟨rfl, rfl⟩)
                      | (go_at_call 98; refine hsum.mono ?_; rintro e w7 ⟨rfl, hb7⟩; have D3 := tr_bl hb7 C3; have T7 := tr_bl hb7 T8; have hb9 := hb8.trans (hb7.mono hb8.size))
                      | (go_at_call 101; refine (hno8 _ hb7).mono ?_; rintro e w9 ⟨rfl, hb10⟩; have E3 := tr_bl hb10 D3; have T9 := tr_bl hb10 T7; have hb11 := hb9.trans (hb10.mono hb9.size)))
          refine HK.out _ _ ?_
          clear HK
          have hbl : ((l.drop 17).take n).length = n := by rw [List.length_take, List.length_drop, HL.out]; omega
          have hcl := clone_any ⟨b, off + 17, none⟩ (cap - 17) ((l.drop 17).take n) w9 ((hs.below hb11).sub 17 n (by rw [HL.out]; omega)) (by omega)
          rw [hbl] at hcl
          have HBL := Lib.hid hbl
          clear hbl C3 T8 hs8 hsum hno8 hb7 D3 T7 hb9 hb10 hb8 hz
          refine wp_seq_k (fun K hK => ?_)
          have HK := Lib.hid hK
          clear hK
          go_wp2_with (go_at_call 103; refine hcl.mono ?_; rintro e w10 ⟨⟨g, c, rfl, hc1, hc2, ho⟩, hb12⟩)
          refine HK.out _ _ ?_
          clear HK
          clear hcl
          have F3 := tr_bl hb12 E3
          have T10 := tr_bl hb12 T9
          have hb13 := hb11.trans (hb12.mono hb11.size)
          have ho10 := ho.mono hb11.size
          clear E3 T9 hb11 hb12 ho
          unfold maxLen at hc2
          refine wp_seq_k (fun K hK => ?_)
          have HK := Lib.hid hK
          clear hK
          go_wp2_with fail
          have hbd := (Below.refl w10.heap.size w10).drew
          have F4 := tr_bl hbd F3
          have T11 := tr_bl hbd T10
          have hb14 := hb13.trans (hbd.mono hb13.size)
          have ho11 := ho10.below hbd
          clear F3 T10 hb13 ho10
          refine wp_region_held_drew (S := fun w' => w'.heap[q]? = some (.cells #[.int .i64 tg.rep, .int .i64 tg.reg, .int .i64 tg.pla, .int .i64 tg.idx, .int .i64 tg.inc] 37 (0, 0))) (by kernel_rfl) T11 (fun hS0 => ?_)
          clear hbd
          generalize w10.drew = x0 at *
          refine wpAnyH_take (i := 0) (oi := ⟨_, _, _, _, _, _⟩) (v := .agg (#[.int .i64 tg.rep, .int .i64 tg.reg, .int .i64 tg.pla, .int .i64 tg.idx, .int .i64 tg.inc])) rfl (by kernel_rfl) (by kernel_rfl) (by kernel_rfl) (fun _ _ _ h => h) (Or.inl ⟨by rfl, fun wS hSw => ?_⟩) (by assumption) ?_
          · exact exec_ldB 37 _ ⟨_, _, _, _, _, Tryd.isAgg37, Tryd.sizeOf37, rfl, hSw, ld5 _ _ _ _ _⟩
          (try simp only [Act.put])
          (try simp only [List.setIfInBounds_toArray])
          (try simp only [List.set_cons_succ])
          (try simp only [List.set_cons_zero])
          refine wpAnyH_take (i := 1) (oi := ⟨_, _, _, _, _, _⟩) (v := ?_) rfl (by kernel_rfl) (by kernel_rfl) (by kernel_rfl) (fun _ _ _ h => h) (Or.inl ⟨by rfl, ?_⟩) (by assumption) ?_
          rotate_left
          · intro wS hSw
            go_simp; (try with_reducible rfl)
          (try simp only [Act.put])
          (try simp only [List.setIfInBounds_toArray])
          (try simp only [List.set_cons_succ])
          (try simp only [List.set_cons_zero])
          refine wpAnyH_take (i := 2) (oi := ⟨_, _, _, _, _, _⟩) (v := ?_) rfl (by kernel_rfl) (by kernel_rfl) (by kernel_rfl) (fun _ _ _ h => h) (Or.inl ⟨by rfl, ?_⟩) (by assumption) ?_
          rotate_left
          · intro wS hSw
            go_simp; (try with_reducible rfl)
          (try simp only [Act.put])
          (try simp only [List.setIfInBounds_toArray])
          (try simp only [List.set_cons_succ])
          (try simp only [List.set_cons_zero])
          refine wpAnyH_take (i := 3) (oi := ⟨_, _, _, _, _, _⟩) (v := ?_) rfl (by kernel_rfl) (by kernel_rfl) (by kernel_rfl) (fun _ _ _ h => h) (Or.inl ⟨by rfl, ?_⟩) (by assumption) ?_
          rotate_left
          · intro wS hSw
            go_simp; (try with_reducible rfl)
          (try simp only [Act.put])
          (try simp only [List.setIfInBounds_toArray])
          (try simp only [List.set_cons_succ])
          (try simp only [List.set_cons_zero])
          refine wpAnyH_take (i := 4) (oi := ⟨_, _, _, _, _, _⟩) (v := ?_) rfl (by kernel_rfl) (by kernel_rfl) (by kernel_rfl) (fun _ _ _ h => h) (Or.inl ⟨by rfl, ?_⟩) (by assumption) ?_
          rotate_left
          · intro wS hSw
            go_simp; (try with_reducible rfl)
          (try simp only [Act.put])
          (try simp only [List.setIfInBounds_toArray])
          (try simp only [List.set_cons_succ])
          (try simp only [List.set_cons_zero])
          refine wpAnyH_take (i := 5) (oi := ⟨_, _, _, _, _, _⟩) (v := ?_) rfl (by kernel_rfl) (by kernel_rfl) (by kernel_rfl) (fun _ _ _ h => h) (Or.inl ⟨by rfl, ?_⟩) (by assumption) ?_
          rotate_left
          · intro wS hSw
            go_simp; (try with_reducible rfl)
          (try simp only [Act.put])
          (try simp only [List.setIfInBounds_toArray])
          (try simp only [List.set_cons_succ])
          (try simp only [List.set_cons_zero])
          refine wpAnyH_ready (rs := [6]) (by kernel_rfl) (by simp) ?_
          refine AllReadyH.cons (o := ⟨_, _, _, _, _, _⟩) rfl (fun K' hK' => ?_) AllReadyH.nil
          refine (if_pos (by rfl)).mpr ?_
          refine wp_stB 37 _ _ ?_
          refine ⟨_, _, _, ⟨_, _, _, Tryd.sizeOf37, rfl, F4, st5 _ rfl tg.rep tg.reg tg.pla tg.idx tg.inc⟩, ?_⟩
          intro w11 B11 g11
          refine hK'.out _ _ (tr_st g11 hS0 (by omega)) (fun _ => ?_)
          clear hK'
          (try simp only [Act.put])
          (try simp only [List.setIfInBounds_toArray])
          (try simp only [List.set_cons_succ])
          (try simp only [List.set_cons_zero])
          refine wpAnyH_take (i := 7) (oi := ⟨_, _, _, _, _, _⟩) (v := ?_) rfl (by kernel_rfl) (by kernel_rfl) (by kernel_rfl) (fun _ _ _ h => h) (Or.inl ⟨by rfl, ?_⟩) (by assumption) ?_
          rotate_left
          · intro wS hSw
            go_simp; (try with_reducible rfl)
          (try simp only [Act.put])
          (try simp only [List.setIfInBounds_toArray])
          (try simp only [List.set_cons_succ])
          (try simp only [List.set_cons_zero])
          refine wpAnyH_done (by kernel_rfl) ?_ _
          refine HK.out _ _ ?_
          clear HK
          go_wp2
          refine bodyPost_ret (results_t1c1t1 rfl rfl (run_loadVar_all Tryd.isAgg37 Tryd.sizeOf37 B11 rfl)) rfl ⟨⟨some ⟨g, 0, none⟩, n, ?_, ?_⟩, bl_st hb14 g11 hb14.size (Nat.le_refl _)⟩
          · rw [HBL.out, ← HTG.out]
            rfl
          · exact ho11.st g11 F4 (by decide)
end Go.Proofs.YtejjneamngkmoaaDoor

namespace Go.Proofs.YtejjneamngkmoaaDoor
open Go.RowKit

set_option maxRecDepth 100000 in
set_option maxHeartbeats 4000000 in
theorem open_m2 (b off : Nat) (cap : Nat) (l : List UInt8) (w : World) (hs : SlB w (some ⟨b, off, none⟩) cap l) (hl : l.length = 128) (hz : noughtsB l = false) : Calls Tryd.prog 69 #[.slice (some ⟨b, off, none⟩) 128 cap] w fun e w' => FrRes w.heap.size (openF l) e w' ∧ Below w.heap.size w w' := by
  rw [openF_ok (N := 128) hl (by decide) hz]
  have hroom : ∀ w, Calls Tryd.prog 73 #[.int .i64 2] w fun e w' => e = .returned (.int .i64 88) ∧ w = w' := fun w => room_any 2 w
  have hcap : 128 ≤ cap := by have := hs.le; omega
  have hmx := hs.max
  unfold maxLen at hmx
  have k2 : ¬ cap = 2 := by omega
  have k17 : ¬ cap = 17 := by omega
  have hbB := blw w (Obj.cells #[.int .i64 0, .int .i64 0, .int .i64 0, .int .i64 0, .int .i64 0] 37)
  have B3 := heap_alloc_new w (Obj.cells #[.int .i64 0, .int .i64 0, .int .i64 0, .int .i64 0, .int .i64 0] 37)
  have hno := noughts_any _ cap l (w.alloc (Obj.cells #[.int .i64 0, .int .i64 0, .int .i64 0, .int .i64 0, .int .i64 0] 37)) (hs.below hbB)
  rw [hl, hz] at hno
  obtain ⟨n, hn, hnlt⟩ : ∃ n, getN l 0 2 = n ∧ n < 65536 := ⟨_, rfl, getN_lt l 0 2⟩
  obtain ⟨s, hsn, hslt⟩ : ∃ s, getN l 124 4 = s ∧ s < 4294967296 := ⟨_, rfl, getN_lt l 124 4⟩
  have g1 : ∀ w', SlB w' (some ⟨b, off, none⟩) cap l → Calls Tryd.prog 79 #[.slice (some ⟨b, off, none⟩) 128 cap, .int .i64 0, .int .i64 2] w' fun e w'' => e = .returned (.tuple #[.int .i64 (n : Nat), .int .i64 2, .int .i64 0]) ∧ Below w'.heap.size w' w'' := fun w' h => by
    have := get_ok _ cap l 0 2 w' h (by omega) (by omega)
    rw [hl, hn] at this
    exact this
  have g2 : ∀ w', SlB w' (some ⟨b, off, none⟩) cap l → Calls Tryd.prog 79 #[.slice (some ⟨b, off, none⟩) 128 cap, .int .i64 124, .int .i64 4] w' fun e w'' => e = .returned (.tuple #[.int .i64 (s : Nat), .int .i64 128, .int .i64 0]) ∧ Below w'.heap.size w' w'' := fun w' h => by
    have := get_ok _ cap l 124 4 w' h (by omega) (by omega)
    rw [hl, hsn] at this
    exact this
  have hpa : ∀ w', SlB w' (some ⟨b, off, none⟩) cap l → Calls Tryd.prog 102 #[.slice (some ⟨b, off + 2, none⟩) 15 (cap - 2)] w' fun e w'' => e = .returned (.tuple #[tgV (parseT ((l.drop 2).take 15)).1, .int .i64 (parseT ((l.drop 2).take 15)).2]) ∧ Below w'.heap.size w' w'' := fun w' h =>
    tparse_any _ _ _ w' (h.sub 2 15 (by omega)) (by rw [List.length_take, List.length_drop]; omega)
  obtain ⟨tg, pe, hpt, hpe⟩ : ∃ tg pe, parseT ((l.drop 2).take 15) = (tg, pe) ∧ ((pe = 0 ∧ tg = tagAt l 2 ∧ mayTg (tagAt l 2) = true) ∨ (pe = 30 ∧ mayTg (tagAt l 2) = false)) := by
    unfold parseT
    rw [tagAt_sub]
    cases h : mayTg (tagAt l 2)
    · exact ⟨_, _, rfl, .inr ⟨rfl, rfl⟩⟩
    · exact ⟨_, _, rfl, .inl ⟨rfl, rfl, rfl⟩⟩
  rw [hpt] at hpa
  simp only at hpa
  have HPE := Lib.hid hpe
  have HL := Lib.hid hl
  have HN := Lib.hid hn
  have HS := Lib.hid hsn
  clear hpe hpt hz hl hn hsn
  go_enter Tryd.func69, Tryd.ntmps69
  refine wp_seq_k (fun K hK => ?_)
  have HK := Lib.hid hK
  clear hK
  go_wp2
  refine HK.out _ _ ?_
  clear HK
  refine wp_seq_k (fun K hK => ?_)
  have HK := Lib.hid hK
  clear hK
  go_wp2
  refine HK.out _ _ ?_
  clear HK
  refine wp_seq_k (fun K hK => ?_)
  have HK := Lib.hid hK
  clear hK
  go_wp2_with (go_at_call 73; refine (hroom _).mono ?_; rintro e w2 ⟨rfl, rfl⟩)
  refine HK.out _ _ ?_
  clear HK
  refine wp_seq_k (fun K hK => ?_)
  have HK := Lib.hid hK
  clear hK
  go_wp2_with (go_at_call 101; refine hno.mono ?_; rintro e w2 ⟨rfl, hb2⟩)
  refine HK.out _ _ ?_
  clear HK
  have A3 := tr_bl hb2 B3
  have hb3 := hbB.trans (hb2.mono hbB.size)
  have hs3 := hs.below hb3
  clear hno hb2 B3 hbB
  refine wp_seq_k (fun K hK => ?_)
  have HK := Lib.hid hK
  clear hK
  go_wp2_with (go_at_call 79; refine (g1 _ hs3).mono ?_; rintro e w4 ⟨rfl, hb4⟩)
  refine HK.out _ _ ?_
  clear HK
  have A4 := tr_bl hb4 A3
  have hb5 := hb3.trans (hb4.mono hb3.size)
  have hs5 := hs.below hb5
  clear A3 hb3 hs3 hb4
  refine wp_seq_k (fun K hK => ?_)
  have HK := Lib.hid hK
  clear hK
  go_wp2_with (go_at_call 102; refine (hpa _ hs5).mono ?_; rintro e w5 ⟨rfl, hb6⟩)
  refine HK.out _ _ ?_
  clear HK
  have A5 := tr_al (Obj.cells #[.int .i64 tg.rep, .int .i64 tg.reg, .int .i64 tg.pla, .int .i64 tg.idx, .int .i64 tg.inc] 37) (tr_bl hb6 A4)
  have T5 := heap_alloc_new w5 (Obj.cells #[.int .i64 tg.rep, .int .i64 tg.reg, .int .i64 tg.pla, .int .i64 tg.idx, .int .i64 tg.inc] 37)
  have hb50 := hb5.trans (hb6.mono hb5.size)
  have hb7 := hb50.alloc hb50.size (Obj.cells #[.int .i64 tg.rep, .int .i64 tg.reg, .int .i64 tg.pla, .int .i64 tg.idx, .int .i64 tg.inc] 37)
  have hq0 : w.heap.size < w5.heap.size := Nat.lt_of_lt_of_le (lt_blk A4) (hb6.size)
  have hs7 := hs.below hb7
  clear A4 hb5 hs5 hb6 hb50 hpa g1
  generalize w5.alloc (Obj.cells #[.int .i64 tg.rep, .int .i64 tg.reg, .int .i64 tg.pla, .int .i64 tg.idx, .int .i64 tg.inc] 37) = w6 at *
  generalize w5.heap.size = q at *
  refine wp_seq_k (fun K hK => ?_)
  have HK := Lib.hid hK
  clear hK
  go_wp2
  refine HK.out _ _ ?_
  clear HK
  refine wp_seq_k (fun K hK => ?_)
  have HK := Lib.hid hK
  clear hK
  go_wp2_with (go_at_call 79; refine (g2 _ hs7).mono ?_; rintro e w8 ⟨rfl, hb8'⟩)
  refine HK.out _ _ ?_
  clear HK
  have C3 := tr_bl hb8' A5
  have T8 := tr_bl hb8' T5
  have hb8 := hb7.trans (hb8'.mono hb7.size)
  have hs8 := hs.below hb8
  clear g2 hs7 hb7 hb8' A5 T5
  have hsum := sum_any _ cap (l.take 124) w8 (hs8.take 124)
  rw [show (l.take 124).length = 124 by rw [List.length_take, HL.out]; rfl] at hsum
  have hno7 : ∀ w', Below w8.heap.size w8 w' → n ≤ 88 → Calls Tryd.prog 101 #[.slice (some ⟨b, off + (17 + n), none⟩) (124 - (17 + n)) (cap - (17 + n))] w' fun e w'' => e = .returned (.bool (noughtsB ((l.drop (17 + n)).take (128 - 21 - n)))) ∧ Below w'.heap.size w' w'' := fun w' hb hnr => by
    have := noughts_any _ _ ((l.drop (17 + n)).take (128 - 21 - n)) w' ((hs8.below hb).sub (17 + n) (128 - 21 - n) (by rw [HL.out]; omega))
    rw [show ((l.drop (17 + n)).take (128 - 21 - n)).length = 124 - (17 + n) by rw [List.length_take, List.length_drop, HL.out]; omega] at this
    exact this
  have hok : okF l 128 = (mayTg (tagAt l 2) && (decide (n ≤ 88) && (decide (s = crcS (l.take 124)) && noughtsB ((l.drop (17 + n)).take (128 - 21 - n))))) := by
    unfold okF
    rw [HN.out, show 128 - 4 = 124 from rfl, HS.out, show roomN 128 = 88 from rfl]
  rw [hok, HN.out]
  clear hok
  have hz := crcS_lt (l.take 124)
  generalize crcS (l.take 124) = z at *
  generalize hnd : noughtsB ((l.drop (17 + n)).take (128 - 21 - n)) = nd at *
  clear hnd
  rcases HPE.out with ⟨h1, h2, h3⟩ | ⟨h1, h3⟩
  case inr =>
    rw [h3, Bool.false_and, if_neg (by simp)]
    subst h1
    clear h3 HPE
    go_wp2_with (first
      | (go_at_call 73; refine (hroom _).mono ?_; rintro e w2 ⟨rfl, rfl⟩)
      | (go_at_call 98; refine hsum.mono ?_; rintro e w7 ⟨rfl, hb7⟩; have D3 := tr_bl hb7 C3; have hb9 := hb8.trans (hb7.mono hb8.size))
      | (go_at_call 101; refine (hno8 _ hb7).mono ?_; rintro e w8 ⟨rfl, hb10⟩; have E3 := tr_bl hb10 D3; have hb11 := hb9.trans (hb10.mono hb9.size))
      | ((with_reducible refine wpList_stB 37 _ _ ?_); refine ⟨_, _, _, ⟨_, _, _, Tryd.sizeOf37, rfl, C3, st5 _ rfl 0 0 0 0 0⟩, ?_⟩; intro w5 B5 g5))
    refine bodyPost_ret (results_t1c1t1 rfl rfl (run_loadVar_all Tryd.isAgg37 Tryd.sizeOf37 B5 rfl)) rfl ⟨FrRes.none rfl, bl_st hb8 g5 hb8.size (Nat.le_refl _)⟩
  case inl =>
    rw [h3, Bool.true_and]
    subst h1
    have HTG := Lib.hid h2
    clear h3 HPE h2
    by_cases hnr : n ≤ 88
    case neg =>
      rw [decide_eq_false hnr, Bool.false_and, if_neg (by simp)]
      have hI : (88 : Int) < n := by omega
      go_wp2_with (first
        | (go_at_call 73; refine (hroom _).mono ?_; rintro e w2 ⟨rfl, rfl⟩)
        | (go_at_call 98; refine hsum.mono ?_; rintro e w7 ⟨rfl, hb7⟩; have D3 := tr_bl hb7 C3; have hb9 := hb8.trans (hb7.mono hb8.size))
        | (go_at_call 101; refine (hno8 _ hb7).mono ?_; rintro e w8 ⟨rfl, hb10⟩; have E3 := tr_bl hb10 D3; have hb11 := hb9.trans (hb10.mono hb9.size))
        | ((with_reducible refine wpList_stB 37 _ _ ?_); refine ⟨_, _, _, ⟨_, _, _, Tryd.sizeOf37, rfl, C3, st5 _ rfl 0 0 0 0 0⟩, ?_⟩; intro w5 B5 g5))
      refine bodyPost_ret (results_t1c1t1 rfl rfl (run_loadVar_all Tryd.isAgg37 Tryd.sizeOf37 B5 rfl)) rfl ⟨FrRes.none rfl, bl_st hb8 g5 hb8.size (Nat.le_refl _)⟩
    case pos =>
      rw [decide_eq_true hnr, Bool.true_and]
      have hI : (n : Int) ≤ 88 := by omega
      have kn : ¬ cap = 17 + n := by omega
      have hno8 := fun w' h => hno7 w' h hnr
      clear hno7
      by_cases hsz : s = z
      case neg =>
        rw [decide_eq_false hsz, Bool.false_and, if_neg (by simp)]
        have hne : ((s : Int) != (z : Int)) = true := by rw [bne_iff_ne]; omega
        go_wp2_with (first
          | (go_at_call 73; refine (hroom _).mono ?_; rintro e w2 ⟨rfl, rfl⟩)
          | (go_at_call 98; refine hsum.mono ?_; rintro e w7 ⟨rfl, hb7⟩; have D3 := tr_bl hb7 C3; have hb9 := hb8.trans (hb7.mono hb8.size))
          | (go_at_call 101; refine (hno8 _ hb7).mono ?_; rintro e w8 ⟨rfl, hb10⟩; have E3 := tr_bl hb10 D3; have hb11 := hb9.trans (hb10.mono hb9.size))
          | ((with_reducible refine wpList_stB 37 _ _ ?_); refine ⟨_, _, _, ⟨_, _, _, Tryd.sizeOf37, rfl, D3, st5 _ rfl 0 0 0 0 0⟩, ?_⟩; intro w5 B5 g5))
        refine bodyPost_ret (results_t1c1t1 rfl rfl (run_loadVar_all Tryd.isAgg37 Tryd.sizeOf37 B5 rfl)) rfl ⟨FrRes.none rfl, bl_st hb9 g5 hb9.size (Nat.le_refl _)⟩
      case pos =>
        subst hsz
        rw [decide_eq_true rfl, Bool.true_and]
        have hne : ((s : Int) != (s : Int)) = false := by simp
        cases nd
        case false =>
          rw [if_neg (by simp)]
          go_wp2_with (first
            | (go_at_call 73; refine (hroom _).mono ?_; rintro e w2 ⟨rfl, rfl⟩)
            | (go_at_call 98; refine hsum.mono ?_; rintro e w7 ⟨rfl, hb7⟩; have D3 := tr_bl hb7 C3; have hb9 := hb8.trans (hb7.mono hb8.size))
            | (go_at_call 101; refine (hno8 _ hb7).mono ?_; rintro e w8 ⟨rfl, hb10⟩; have E3 := tr_bl hb10 D3; have hb11 := hb9.trans (hb10.mono hb9.size))
            | ((with_reducible refine wpList_stB 37 _ _ ?_); refine ⟨_, _, _, ⟨_, _, _, Tryd.sizeOf37, rfl, E3, st5 _ rfl 0 0 0 0 0⟩, ?_⟩; intro w5 B5 g5))
          refine bodyPost_ret (results_t1c1t1 rfl rfl (run_loadVar_all Tryd.isAgg37 Tryd.sizeOf37 B5 rfl)) rfl ⟨FrRes.none rfl, bl_st hb11 g5 hb11.size (Nat.le_refl _)⟩
        case true =>
          rw [if_pos rfl]
          refine wp_seq_k (fun K hK => ?_)
          have HK := Lib.hid hK
          clear hK
          go_wp2_with (first
                      | (go_at_call 73; refine (hroom _).mono ?_; rintro e w2 ⟨rfl, rfl⟩)
                      | (go_at_call 98; refine hsum.mono ?_; rintro e w7 ⟨rfl, hb7⟩; have D3 := tr_bl hb7 C3; have T7 := tr_bl hb7 T8; have hb9 := hb8.trans (hb7.mono hb8.size))
                      | (go_at_call 101; refine (hno8 _ hb7).mono ?_; rintro e w9 ⟨rfl, hb10⟩; have E3 := tr_bl hb10 D3; have T9 := tr_bl hb10 T7; have hb11 := hb9.trans (hb10.mono hb9.size)))
          refine HK.out _ _ ?_
          clear HK
          have hbl : ((l.drop 17).take n).length = n := by rw [List.length_take, List.length_drop, HL.out]; omega
          have hcl := clone_any ⟨b, off + 17, none⟩ (cap - 17) ((l.drop 17).take n) w9 ((hs.below hb11).sub 17 n (by rw [HL.out]; omega)) (by omega)
          rw [hbl] at hcl
          have HBL := Lib.hid hbl
          clear hbl C3 T8 hs8 hsum hno8 hb7 D3 T7 hb9 hb10 hb8 hz
          refine wp_seq_k (fun K hK => ?_)
          have HK := Lib.hid hK
          clear hK
          go_wp2_with (go_at_call 103; refine hcl.mono ?_; rintro e w10 ⟨⟨g, c, rfl, hc1, hc2, ho⟩, hb12⟩)
          refine HK.out _ _ ?_
          clear HK
          clear hcl
          have F3 := tr_bl hb12 E3
          have T10 := tr_bl hb12 T9
          have hb13 := hb11.trans (hb12.mono hb11.size)
          have ho10 := ho.mono hb11.size
          clear E3 T9 hb11 hb12 ho
          unfold maxLen at hc2
          refine wp_seq_k (fun K hK => ?_)
          have HK := Lib.hid hK
          clear hK
          go_wp2_with fail
          have hbd := (Below.refl w10.heap.size w10).drew
          have F4 := tr_bl hbd F3
          have T11 := tr_bl hbd T10
          have hb14 := hb13.trans (hbd.mono hb13.size)
          have ho11 := ho10.below hbd
          clear F3 T10 hb13 ho10
          refine wp_region_held_drew (S := fun w' => w'.heap[q]? = some (.cells #[.int .i64 tg.rep, .int .i64 tg.reg, .int .i64 tg.pla, .int .i64 tg.idx, .int .i64 tg.inc] 37 (0, 0))) (by kernel_rfl) T11 (fun hS0 => ?_)
          clear hbd
          generalize w10.drew = x0 at *
          refine wpAnyH_take (i := 0) (oi := ⟨_, _, _, _, _, _⟩) (v := .agg (#[.int .i64 tg.rep, .int .i64 tg.reg, .int .i64 tg.pla, .int .i64 tg.idx, .int .i64 tg.inc])) rfl (by kernel_rfl) (by kernel_rfl) (by kernel_rfl) (fun _ _ _ h => h) (Or.inl ⟨by rfl, fun wS hSw => ?_⟩) (by assumption) ?_
          · exact exec_ldB 37 _ ⟨_, _, _, _, _, Tryd.isAgg37, Tryd.sizeOf37, rfl, hSw, ld5 _ _ _ _ _⟩
          (try simp only [Act.put])
          (try simp only [List.setIfInBounds_toArray])
          (try simp only [List.set_cons_succ])
          (try simp only [List.set_cons_zero])
          refine wpAnyH_take (i := 1) (oi := ⟨_, _, _, _, _, _⟩) (v := ?_) rfl (by kernel_rfl) (by kernel_rfl) (by kernel_rfl) (fun _ _ _ h => h) (Or.inl ⟨by rfl, ?_⟩) (by assumption) ?_
          rotate_left
          · intro wS hSw
            go_simp; (try with_reducible rfl)
          (try simp only [Act.put])
          (try simp only [List.setIfInBounds_toArray])
          (try simp only [List.set_cons_succ])
          (try simp only [List.set_cons_zero])
          refine wpAnyH_take (i := 2) (oi := ⟨_, _, _, _, _, _⟩) (v := ?_) rfl (by kernel_rfl) (by kernel_rfl) (by kernel_rfl) (fun _ _ _ h => h) (Or.inl ⟨by rfl, ?_⟩) (by assumption) ?_
          rotate_left
          · intro wS hSw
            go_simp; (try with_reducible rfl)
          (try simp only [Act.put])
          (try simp only [List.setIfInBounds_toArray])
          (try simp only [List.set_cons_succ])
          (try simp only [List.set_cons_zero])
          refine wpAnyH_take (i := 3) (oi := ⟨_, _, _, _, _, _⟩) (v := ?_) rfl (by kernel_rfl) (by kernel_rfl) (by kernel_rfl) (fun _ _ _ h => h) (Or.inl ⟨by rfl, ?_⟩) (by assumption) ?_
          rotate_left
          · intro wS hSw
            go_simp; (try with_reducible rfl)
          (try simp only [Act.put])
          (try simp only [List.setIfInBounds_toArray])
          (try simp only [List.set_cons_succ])
          (try simp only [List.set_cons_zero])
          refine wpAnyH_take (i := 4) (oi := ⟨_, _, _, _, _, _⟩) (v := ?_) rfl (by kernel_rfl) (by kernel_rfl) (by kernel_rfl) (fun _ _ _ h => h) (Or.inl ⟨by rfl, ?_⟩) (by assumption) ?_
          rotate_left
          · intro wS hSw
            go_simp; (try with_reducible rfl)
          (try simp only [Act.put])
          (try simp only [List.setIfInBounds_toArray])
          (try simp only [List.set_cons_succ])
          (try simp only [List.set_cons_zero])
          refine wpAnyH_take (i := 5) (oi := ⟨_, _, _, _, _, _⟩) (v := ?_) rfl (by kernel_rfl) (by kernel_rfl) (by kernel_rfl) (fun _ _ _ h => h) (Or.inl ⟨by rfl, ?_⟩) (by assumption) ?_
          rotate_left
          · intro wS hSw
            go_simp; (try with_reducible rfl)
          (try simp only [Act.put])
          (try simp only [List.setIfInBounds_toArray])
          (try simp only [List.set_cons_succ])
          (try simp only [List.set_cons_zero])
          refine wpAnyH_ready (rs := [6]) (by kernel_rfl) (by simp) ?_
          refine AllReadyH.cons (o := ⟨_, _, _, _, _, _⟩) rfl (fun K' hK' => ?_) AllReadyH.nil
          refine (if_pos (by rfl)).mpr ?_
          refine wp_stB 37 _ _ ?_
          refine ⟨_, _, _, ⟨_, _, _, Tryd.sizeOf37, rfl, F4, st5 _ rfl tg.rep tg.reg tg.pla tg.idx tg.inc⟩, ?_⟩
          intro w11 B11 g11
          refine hK'.out _ _ (tr_st g11 hS0 (by omega)) (fun _ => ?_)
          clear hK'
          (try simp only [Act.put])
          (try simp only [List.setIfInBounds_toArray])
          (try simp only [List.set_cons_succ])
          (try simp only [List.set_cons_zero])
          refine wpAnyH_take (i := 7) (oi := ⟨_, _, _, _, _, _⟩) (v := ?_) rfl (by kernel_rfl) (by kernel_rfl) (by kernel_rfl) (fun _ _ _ h => h) (Or.inl ⟨by rfl, ?_⟩) (by assumption) ?_
          rotate_left
          · intro wS hSw
            go_simp; (try with_reducible rfl)
          (try simp only [Act.put])
          (try simp only [List.setIfInBounds_toArray])
          (try simp only [List.set_cons_succ])
          (try simp only [List.set_cons_zero])
          refine wpAnyH_done (by kernel_rfl) ?_ _
          refine HK.out _ _ ?_
          clear HK
          go_wp2
          refine bodyPost_ret (results_t1c1t1 rfl rfl (run_loadVar_all Tryd.isAgg37 Tryd.sizeOf37 B11 rfl)) rfl ⟨⟨some ⟨g, 0, none⟩, n, ?_, ?_⟩, bl_st hb14 g11 hb14.size (Nat.le_refl _)⟩
          · rw [HBL.out, ← HTG.out]
            rfl
          · exact ho11.st g11 F4 (by decide)
end Go.Proofs.YtejjneamngkmoaaDoor

namespace Go.Proofs.YtejjneamngkmoaaDoor
open Go.RowKit

theorem open_any (a : Option Addr) (cap : Nat) (l : List UInt8) (w : World) (hs : SlB w a cap l) (hl : l.length ≤ 1000) : Calls Tryd.prog 69 #[.slice a l.length cap] w fun e w' => FrRes w.heap.size (openF l) e w' ∧ Below w.heap.size w w' := by
  by_cases hr : roomN l.length = 0
  · exact open_odd a cap l w hl hr
  · obtain ⟨h64, _⟩ := roomN_of (n := l.length) (by omega)
    rcases h64 with h | h
    · rw [h]
      cases hz : noughtsB l
      · obtain ⟨b, off, rfl⟩ := hs.some_of (by omega)
        exact open_m1 b off cap l w hs h hz
      · exact open_n1 a cap l w hs h hz
    · rw [h]
      cases hz : noughtsB l
      · obtain ⟨b, off, rfl⟩ := hs.some_of (by omega)
        exact open_m2 b off cap l w hs h hz
      · exact open_n2 a cap l w hs h hz
set_option maxRecDepth 100000 in
set_option maxHeartbeats 2000000 in
theorem mine_any (a : Option Addr) (cap : Nat) (l : List UInt8) (rep reg pla : Int) (w : World) (hs : SlB w a cap l) (hl : l.length ≤ 1000) : Calls Tryd.prog 33 #[.slice a l.length cap, .int .i64 rep, .int .i64 reg, .int .i64 pla] w fun e w' => FrRes w.heap.size (mineF l rep reg pla) e w' ∧ Below w.heap.size w w' := by
  obtain ⟨st, tg, body, hr⟩ : ∃ st tg body, openF l = (st, tg, body) := ⟨_, _, _, rfl⟩
  unfold mineF
  rw [hr]
  have HR := Lib.hid hr
  clear hr
  have hbB := blw w (Obj.cells #[.int .i64 0, .int .i64 0, .int .i64 0, .int .i64 0, .int .i64 0] 37)
  have B3 := heap_alloc_new w (Obj.cells #[.int .i64 0, .int .i64 0, .int .i64 0, .int .i64 0, .int .i64 0] 37)
  simp only
  by_cases hst : st = 1
  case neg =>
    rw [if_neg (fun hh => hst hh.1)]
    have h0 : ((st : Int) == 1) = false := by rw [beq_eq_false_iff_ne]; omega
    clear hst
    go_enter Tryd.func33, Tryd.ntmps33
    refine wp_seq_k (fun K hK => ?_)
    have HK := Lib.hid hK
    clear hK
    go_wp2
    refine HK.out _ _ ?_
    clear HK
    refine wp_seq_k (fun K hK => ?_)
    have HK := Lib.hid hK
    clear hK
    go_wp2_with (go_at_call 69; refine (open_any a cap l _ (hs.below hbB) hl).mono ?_; rintro e w2 ⟨⟨a2, c2, rfl, ho2⟩, hb2⟩; rw [HR.out] at ho2; rw [HR.out]; have A3 := tr_bl hb2 B3)
    refine HK.out _ _ ?_
    clear HK
    have C3 := tr_al (Obj.cells #[.int .i64 tg.rep, .int .i64 tg.reg, .int .i64 tg.pla, .int .i64 tg.idx, .int .i64 tg.inc] 37) A3
    have T3 := heap_alloc_new w2 (Obj.cells #[.int .i64 tg.rep, .int .i64 tg.reg, .int .i64 tg.pla, .int .i64 tg.idx, .int .i64 tg.inc] 37)
    have hb3 := hbB.trans (hb2.mono hbB.size)
    have hb4 := hb3.alloc hb3.size (Obj.cells #[.int .i64 tg.rep, .int .i64 tg.reg, .int .i64 tg.pla, .int .i64 tg.idx, .int .i64 tg.inc] 37)
    have hq : w.heap.size < w2.heap.size := lt_blk A3
    have ho3 := (ho2.mono hbB.size).below (blw w2 (Obj.cells #[.int .i64 tg.rep, .int .i64 tg.reg, .int .i64 tg.pla, .int .i64 tg.idx, .int .i64 tg.inc] 37))
    clear A3 hb2 hb3 ho2
    generalize w2.alloc (Obj.cells #[.int .i64 tg.rep, .int .i64 tg.reg, .int .i64 tg.pla, .int .i64 tg.idx, .int .i64 tg.inc] 37) = w3 at *
    generalize w2.heap.size = q at *
    have q0 := blk_cell T3 0 _ rfl
    have q1 := blk_cell T3 1 _ rfl
    have q2 := blk_cell T3 2 _ rfl
    refine wp_seq_k (fun K hK => ?_)
    have HK := Lib.hid hK
    clear hK
    go_wp2
    refine HK.out _ _ ?_
    clear HK
    refine wp_seq_k (fun K hK => ?_)
    have HK := Lib.hid hK
    clear hK
    go_wp2_with fail
    have hbd := (Below.refl w3.heap.size w3).drew
    have F4 := tr_bl hbd C3
    have T11 := tr_bl hbd T3
    have hb14 := hb4.trans (hbd.mono hb4.size)
    have ho11 := ho3.below hbd
    clear C3 T3 hb4 ho3 q0 q1 q2
    refine wp_region_held_drew (S := fun w' => w'.heap[q]? = some (.cells #[.int .i64 tg.rep, .int .i64 tg.reg, .int .i64 tg.pla, .int .i64 tg.idx, .int .i64 tg.inc] 37 (0, 0))) (by kernel_rfl) T11 (fun hS0 => ?_)
    clear hbd
    generalize w3.drew = x0 at *
    refine wpAnyH_take (i := 0) (oi := ⟨_, _, _, _, _, _⟩) (v := ?_) rfl (by kernel_rfl) (by kernel_rfl) (by kernel_rfl) (fun _ _ _ h => h) (Or.inl ⟨by rfl, ?_⟩) (by assumption) ?_
    rotate_left
    · intro wS hSw
      go_simp; (try with_reducible rfl)
    (try simp only [Act.put])
    (try simp only [List.setIfInBounds_toArray])
    (try simp only [List.set_cons_succ])
    (try simp only [List.set_cons_zero])
    refine wpAnyH_take (i := 1) (oi := ⟨_, _, _, _, _, _⟩) (v := .agg (#[.int .i64 tg.rep, .int .i64 tg.reg, .int .i64 tg.pla, .int .i64 tg.idx, .int .i64 tg.inc])) rfl (by kernel_rfl) (by kernel_rfl) (by kernel_rfl) (fun _ _ _ h => h) (Or.inl ⟨by rfl, fun wS hSw => ?_⟩) (by assumption) ?_
    · exact exec_ldB 37 _ ⟨_, _, _, _, _, Tryd.isAgg37, Tryd.sizeOf37, rfl, hSw, ld5 _ _ _ _ _⟩
    (try simp only [Act.put])
    (try simp only [List.setIfInBounds_toArray])
    (try simp only [List.set_cons_succ])
    (try simp only [List.set_cons_zero])
    refine wpAnyH_take (i := 2) (oi := ⟨_, _, _, _, _, _⟩) (v := ?_) rfl (by kernel_rfl) (by kernel_rfl) (by kernel_rfl) (fun _ _ _ h => h) (Or.inl ⟨by rfl, ?_⟩) (by assumption) ?_
    rotate_left
    · intro wS hSw
      go_simp; (try with_reducible rfl)
    (try simp only [Act.put])
    (try simp only [List.setIfInBounds_toArray])
    (try simp only [List.set_cons_succ])
    (try simp only [List.set_cons_zero])
    refine wpAnyH_take (i := 3) (oi := ⟨_, _, _, _, _, _⟩) (v := ?_) rfl (by kernel_rfl) (by kernel_rfl) (by kernel_rfl) (fun _ _ _ h => h) (Or.inl ⟨by rfl, ?_⟩) (by assumption) ?_
    rotate_left
    · intro wS hSw
      go_simp; (try with_reducible rfl)
    (try simp only [Act.put])
    (try simp only [List.setIfInBounds_toArray])
    (try simp only [List.set_cons_succ])
    (try simp only [List.set_cons_zero])
    refine wpAnyH_ready (rs := [4]) (by kernel_rfl) (by simp) ?_
    refine AllReadyH.cons (o := ⟨_, _, _, _, _, _⟩) rfl (fun K' hK' => ?_) AllReadyH.nil
    refine (if_pos (by rfl)).mpr ?_
    refine wp_stB 37 _ _ ?_
    refine ⟨_, _, _, ⟨_, _, _, Tryd.sizeOf37, rfl, F4, st5 _ rfl tg.rep tg.reg tg.pla tg.idx tg.inc⟩, ?_⟩
    intro w11 B11 g11
    refine hK'.out _ _ (tr_st g11 hS0 (by omega)) (fun _ => ?_)
    clear hK'
    (try simp only [Act.put])
    (try simp only [List.setIfInBounds_toArray])
    (try simp only [List.set_cons_succ])
    (try simp only [List.set_cons_zero])
    refine wpAnyH_take (i := 5) (oi := ⟨_, _, _, _, _, _⟩) (v := ?_) rfl (by kernel_rfl) (by kernel_rfl) (by kernel_rfl) (fun _ _ _ h => h) (Or.inl ⟨by rfl, ?_⟩) (by assumption) ?_
    rotate_left
    · intro wS hSw
      go_simp; (try with_reducible rfl)
    (try simp only [Act.put])
    (try simp only [List.setIfInBounds_toArray])
    (try simp only [List.set_cons_succ])
    (try simp only [List.set_cons_zero])
    refine wpAnyH_done (by kernel_rfl) ?_ _
    refine HK.out _ _ ?_
    clear HK
    go_wp2
    refine bodyPost_ret (results_t1c1t1 rfl rfl (run_loadVar_all Tryd.isAgg37 Tryd.sizeOf37 B11 rfl)) rfl ⟨⟨a2, c2, rfl, ho11.st g11 F4 (by decide)⟩, bl_st hb14 g11 hb14.size (Nat.le_refl _)⟩
  case pos =>
    subst hst
    have h0 : (((1 : Nat) : Int) == 1) = true := rfl
    by_cases h1 : tg.rep = rep
    case neg =>
      rw [if_pos ⟨rfl, .inl h1⟩]
      have e1 : (tg.rep != rep) = true := by rw [bne_iff_ne]; exact h1
      go_enter Tryd.func33, Tryd.ntmps33
      refine wp_seq_k (fun K hK => ?_)
      have HK := Lib.hid hK
      clear hK
      go_wp2
      refine HK.out _ _ ?_
      clear HK
      refine wp_seq_k (fun K hK => ?_)
      have HK := Lib.hid hK
      clear hK
      go_wp2_with (go_at_call 69; refine (open_any a cap l _ (hs.below hbB) hl).mono ?_; rintro e w2 ⟨⟨a2, c2, rfl, ho2⟩, hb2⟩; rw [HR.out] at ho2; rw [HR.out]; have A3 := tr_bl hb2 B3)
      refine HK.out _ _ ?_
      clear HK
      have C3 := tr_al (Obj.cells #[.int .i64 tg.rep, .int .i64 tg.reg, .int .i64 tg.pla, .int .i64 tg.idx, .int .i64 tg.inc] 37) A3
      have T3 := heap_alloc_new w2 (Obj.cells #[.int .i64 tg.rep, .int .i64 tg.reg, .int .i64 tg.pla, .int .i64 tg.idx, .int .i64 tg.inc] 37)
      have hb3 := hbB.trans (hb2.mono hbB.size)
      have hb4 := hb3.alloc hb3.size (Obj.cells #[.int .i64 tg.rep, .int .i64 tg.reg, .int .i64 tg.pla, .int .i64 tg.idx, .int .i64 tg.inc] 37)
      have hq : w.heap.size < w2.heap.size := lt_blk A3
      have ho3 := (ho2.mono hbB.size).below (blw w2 (Obj.cells #[.int .i64 tg.rep, .int .i64 tg.reg, .int .i64 tg.pla, .int .i64 tg.idx, .int .i64 tg.inc] 37))
      clear A3 hb2 hb3 ho2
      generalize w2.alloc (Obj.cells #[.int .i64 tg.rep, .int .i64 tg.reg, .int .i64 tg.pla, .int .i64 tg.idx, .int .i64 tg.inc] 37) = w3 at *
      generalize w2.heap.size = q at *
      have q0 := blk_cell T3 0 _ rfl
      have q1 := blk_cell T3 1 _ rfl
      have q2 := blk_cell T3 2 _ rfl
      go_wp2_with ((with_reducible refine wpList_stB 37 _ _ ?_); refine ⟨_, _, _, ⟨_, _, _, Tryd.sizeOf37, rfl, C3, st5 _ rfl 0 0 0 0 0⟩, ?_⟩; intro w5 B5 g5)
      refine bodyPost_ret (results_t1c1t1 rfl rfl (run_loadVar_all Tryd.isAgg37 Tryd.sizeOf37 B5 rfl)) rfl ⟨FrRes.none rfl, bl_st hb4 g5 hb4.size (Nat.le_refl _)⟩
    case pos =>
      have e1 : (tg.rep != rep) = false := by simpa using h1
      by_cases h2 : tg.reg = reg
      case neg =>
        rw [if_pos ⟨rfl, .inr (.inl h2)⟩]
        have e2 : (tg.reg != reg) = true := by rw [bne_iff_ne]; exact h2
        clear h1
        go_enter Tryd.func33, Tryd.ntmps33
        refine wp_seq_k (fun K hK => ?_)
        have HK := Lib.hid hK
        clear hK
        go_wp2
        refine HK.out _ _ ?_
        clear HK
        refine wp_seq_k (fun K hK => ?_)
        have HK := Lib.hid hK
        clear hK
        go_wp2_with (go_at_call 69; refine (open_any a cap l _ (hs.below hbB) hl).mono ?_; rintro e w2 ⟨⟨a2, c2, rfl, ho2⟩, hb2⟩; rw [HR.out] at ho2; rw [HR.out]; have A3 := tr_bl hb2 B3)
        refine HK.out _ _ ?_
        clear HK
        have C3 := tr_al (Obj.cells #[.int .i64 tg.rep, .int .i64 tg.reg, .int .i64 tg.pla, .int .i64 tg.idx, .int .i64 tg.inc] 37) A3
        have T3 := heap_alloc_new w2 (Obj.cells #[.int .i64 tg.rep, .int .i64 tg.reg, .int .i64 tg.pla, .int .i64 tg.idx, .int .i64 tg.inc] 37)
        have hb3 := hbB.trans (hb2.mono hbB.size)
        have hb4 := hb3.alloc hb3.size (Obj.cells #[.int .i64 tg.rep, .int .i64 tg.reg, .int .i64 tg.pla, .int .i64 tg.idx, .int .i64 tg.inc] 37)
        have hq : w.heap.size < w2.heap.size := lt_blk A3
        have ho3 := (ho2.mono hbB.size).below (blw w2 (Obj.cells #[.int .i64 tg.rep, .int .i64 tg.reg, .int .i64 tg.pla, .int .i64 tg.idx, .int .i64 tg.inc] 37))
        clear A3 hb2 hb3 ho2
        generalize w2.alloc (Obj.cells #[.int .i64 tg.rep, .int .i64 tg.reg, .int .i64 tg.pla, .int .i64 tg.idx, .int .i64 tg.inc] 37) = w3 at *
        generalize w2.heap.size = q at *
        have q0 := blk_cell T3 0 _ rfl
        have q1 := blk_cell T3 1 _ rfl
        have q2 := blk_cell T3 2 _ rfl
        go_wp2_with ((with_reducible refine wpList_stB 37 _ _ ?_); refine ⟨_, _, _, ⟨_, _, _, Tryd.sizeOf37, rfl, C3, st5 _ rfl 0 0 0 0 0⟩, ?_⟩; intro w5 B5 g5)
        refine bodyPost_ret (results_t1c1t1 rfl rfl (run_loadVar_all Tryd.isAgg37 Tryd.sizeOf37 B5 rfl)) rfl ⟨FrRes.none rfl, bl_st hb4 g5 hb4.size (Nat.le_refl _)⟩
      case pos =>
        have e2 : (tg.reg != reg) = false := by simpa using h2
        by_cases h3 : tg.pla = pla
        case neg =>
          rw [if_pos ⟨rfl, .inr (.inr h3)⟩]
          have e3 : (tg.pla != pla) = true := by rw [bne_iff_ne]; exact h3
          clear h1 h2
          go_enter Tryd.func33, Tryd.ntmps33
          refine wp_seq_k (fun K hK => ?_)
          have HK := Lib.hid hK
          clear hK
          go_wp2
          refine HK.out _ _ ?_
          clear HK
          refine wp_seq_k (fun K hK => ?_)
          have HK := Lib.hid hK
          clear hK
          go_wp2_with (go_at_call 69; refine (open_any a cap l _ (hs.below hbB) hl).mono ?_; rintro e w2 ⟨⟨a2, c2, rfl, ho2⟩, hb2⟩; rw [HR.out] at ho2; rw [HR.out]; have A3 := tr_bl hb2 B3)
          refine HK.out _ _ ?_
          clear HK
          have C3 := tr_al (Obj.cells #[.int .i64 tg.rep, .int .i64 tg.reg, .int .i64 tg.pla, .int .i64 tg.idx, .int .i64 tg.inc] 37) A3
          have T3 := heap_alloc_new w2 (Obj.cells #[.int .i64 tg.rep, .int .i64 tg.reg, .int .i64 tg.pla, .int .i64 tg.idx, .int .i64 tg.inc] 37)
          have hb3 := hbB.trans (hb2.mono hbB.size)
          have hb4 := hb3.alloc hb3.size (Obj.cells #[.int .i64 tg.rep, .int .i64 tg.reg, .int .i64 tg.pla, .int .i64 tg.idx, .int .i64 tg.inc] 37)
          have hq : w.heap.size < w2.heap.size := lt_blk A3
          have ho3 := (ho2.mono hbB.size).below (blw w2 (Obj.cells #[.int .i64 tg.rep, .int .i64 tg.reg, .int .i64 tg.pla, .int .i64 tg.idx, .int .i64 tg.inc] 37))
          clear A3 hb2 hb3 ho2
          generalize w2.alloc (Obj.cells #[.int .i64 tg.rep, .int .i64 tg.reg, .int .i64 tg.pla, .int .i64 tg.idx, .int .i64 tg.inc] 37) = w3 at *
          generalize w2.heap.size = q at *
          have q0 := blk_cell T3 0 _ rfl
          have q1 := blk_cell T3 1 _ rfl
          have q2 := blk_cell T3 2 _ rfl
          go_wp2_with ((with_reducible refine wpList_stB 37 _ _ ?_); refine ⟨_, _, _, ⟨_, _, _, Tryd.sizeOf37, rfl, C3, st5 _ rfl 0 0 0 0 0⟩, ?_⟩; intro w5 B5 g5)
          refine bodyPost_ret (results_t1c1t1 rfl rfl (run_loadVar_all Tryd.isAgg37 Tryd.sizeOf37 B5 rfl)) rfl ⟨FrRes.none rfl, bl_st hb4 g5 hb4.size (Nat.le_refl _)⟩
        case pos =>
          rw [if_neg (by rintro ⟨_, h | h | h⟩ <;> contradiction)]
          have e3 : (tg.pla != pla) = false := by simpa using h3
          clear h1 h2 h3
          go_enter Tryd.func33, Tryd.ntmps33
          refine wp_seq_k (fun K hK => ?_)
          have HK := Lib.hid hK
          clear hK
          go_wp2
          refine HK.out _ _ ?_
          clear HK
          refine wp_seq_k (fun K hK => ?_)
          have HK := Lib.hid hK
          clear hK
          go_wp2_with (go_at_call 69; refine (open_any a cap l _ (hs.below hbB) hl).mono ?_; rintro e w2 ⟨⟨a2, c2, rfl, ho2⟩, hb2⟩; rw [HR.out] at ho2; rw [HR.out]; have A3 := tr_bl hb2 B3)
          refine HK.out _ _ ?_
          clear HK
          have C3 := tr_al (Obj.cells #[.int .i64 tg.rep, .int .i64 tg.reg, .int .i64 tg.pla, .int .i64 tg.idx, .int .i64 tg.inc] 37) A3
          have T3 := heap_alloc_new w2 (Obj.cells #[.int .i64 tg.rep, .int .i64 tg.reg, .int .i64 tg.pla, .int .i64 tg.idx, .int .i64 tg.inc] 37)
          have hb3 := hbB.trans (hb2.mono hbB.size)
          have hb4 := hb3.alloc hb3.size (Obj.cells #[.int .i64 tg.rep, .int .i64 tg.reg, .int .i64 tg.pla, .int .i64 tg.idx, .int .i64 tg.inc] 37)
          have hq : w.heap.size < w2.heap.size := lt_blk A3
          have ho3 := (ho2.mono hbB.size).below (blw w2 (Obj.cells #[.int .i64 tg.rep, .int .i64 tg.reg, .int .i64 tg.pla, .int .i64 tg.idx, .int .i64 tg.inc] 37))
          clear A3 hb2 hb3 ho2
          generalize w2.alloc (Obj.cells #[.int .i64 tg.rep, .int .i64 tg.reg, .int .i64 tg.pla, .int .i64 tg.idx, .int .i64 tg.inc] 37) = w3 at *
          generalize w2.heap.size = q at *
          have q0 := blk_cell T3 0 _ rfl
          have q1 := blk_cell T3 1 _ rfl
          have q2 := blk_cell T3 2 _ rfl
          refine wp_seq_k (fun K hK => ?_)
          have HK := Lib.hid hK
          clear hK
          go_wp2
          refine HK.out _ _ ?_
          clear HK
          refine wp_seq_k (fun K hK => ?_)
          have HK := Lib.hid hK
          clear hK
          go_wp2_with fail
          have hbd := (Below.refl w3.heap.size w3).drew
          have F4 := tr_bl hbd C3
          have T11 := tr_bl hbd T3
          have hb14 := hb4.trans (hbd.mono hb4.size)
          have ho11 := ho3.below hbd
          clear C3 T3 hb4 ho3 q0 q1 q2
          refine wp_region_held_drew (S := fun w' => w'.heap[q]? = some (.cells #[.int .i64 tg.rep, .int .i64 tg.reg, .int .i64 tg.pla, .int .i64 tg.idx, .int .i64 tg.inc] 37 (0, 0))) (by kernel_rfl) T11 (fun hS0 => ?_)
          clear hbd
          generalize w3.drew = x0 at *
          refine wpAnyH_take (i := 0) (oi := ⟨_, _, _, _, _, _⟩) (v := ?_) rfl (by kernel_rfl) (by kernel_rfl) (by kernel_rfl) (fun _ _ _ h => h) (Or.inl ⟨by rfl, ?_⟩) (by assumption) ?_
          rotate_left
          · intro wS hSw
            go_simp; (try with_reducible rfl)
          (try simp only [Act.put])
          (try simp only [List.setIfInBounds_toArray])
          (try simp only [List.set_cons_succ])
          (try simp only [List.set_cons_zero])
          refine wpAnyH_take (i := 1) (oi := ⟨_, _, _, _, _, _⟩) (v := .agg (#[.int .i64 tg.rep, .int .i64 tg.reg, .int .i64 tg.pla, .int .i64 tg.idx, .int .i64 tg.inc])) rfl (by kernel_rfl) (by kernel_rfl) (by kernel_rfl) (fun _ _ _ h => h) (Or.inl ⟨by rfl, fun wS hSw => ?_⟩) (by assumption) ?_
          · exact exec_ldB 37 _ ⟨_, _, _, _, _, Tryd.isAgg37, Tryd.sizeOf37, rfl, hSw, ld5 _ _ _ _ _⟩
          (try simp only [Act.put])
          (try simp only [List.setIfInBounds_toArray])
          (try simp only [List.set_cons_succ])
          (try simp only [List.set_cons_zero])
          refine wpAnyH_take (i := 2) (oi := ⟨_, _, _, _, _, _⟩) (v := ?_) rfl (by kernel_rfl) (by kernel_rfl) (by kernel_rfl) (fun _ _ _ h => h) (Or.inl ⟨by rfl, ?_⟩) (by assumption) ?_
          rotate_left
          · intro wS hSw
            go_simp; (try with_reducible rfl)
          (try simp only [Act.put])
          (try simp only [List.setIfInBounds_toArray])
          (try simp only [List.set_cons_succ])
          (try simp only [List.set_cons_zero])
          refine wpAnyH_take (i := 3) (oi := ⟨_, _, _, _, _, _⟩) (v := ?_) rfl (by kernel_rfl) (by kernel_rfl) (by kernel_rfl) (fun _ _ _ h => h) (Or.inl ⟨by rfl, ?_⟩) (by assumption) ?_
          rotate_left
          · intro wS hSw
            go_simp; (try with_reducible rfl)
          (try simp only [Act.put])
          (try simp only [List.setIfInBounds_toArray])
          (try simp only [List.set_cons_succ])
          (try simp only [List.set_cons_zero])
          refine wpAnyH_ready (rs := [4]) (by kernel_rfl) (by simp) ?_
          refine AllReadyH.cons (o := ⟨_, _, _, _, _, _⟩) rfl (fun K' hK' => ?_) AllReadyH.nil
          refine (if_pos (by rfl)).mpr ?_
          refine wp_stB 37 _ _ ?_
          refine ⟨_, _, _, ⟨_, _, _, Tryd.sizeOf37, rfl, F4, st5 _ rfl tg.rep tg.reg tg.pla tg.idx tg.inc⟩, ?_⟩
          intro w11 B11 g11
          refine hK'.out _ _ (tr_st g11 hS0 (by omega)) (fun _ => ?_)
          clear hK'
          (try simp only [Act.put])
          (try simp only [List.setIfInBounds_toArray])
          (try simp only [List.set_cons_succ])
          (try simp only [List.set_cons_zero])
          refine wpAnyH_take (i := 5) (oi := ⟨_, _, _, _, _, _⟩) (v := ?_) rfl (by kernel_rfl) (by kernel_rfl) (by kernel_rfl) (fun _ _ _ h => h) (Or.inl ⟨by rfl, ?_⟩) (by assumption) ?_
          rotate_left
          · intro wS hSw
            go_simp; (try with_reducible rfl)
          (try simp only [Act.put])
          (try simp only [List.setIfInBounds_toArray])
          (try simp only [List.set_cons_succ])
          (try simp only [List.set_cons_zero])
          refine wpAnyH_done (by kernel_rfl) ?_ _
          refine HK.out _ _ ?_
          clear HK
          go_wp2
          refine bodyPost_ret (results_t1c1t1 rfl rfl (run_loadVar_all Tryd.isAgg37 Tryd.sizeOf37 B11 rfl)) rfl ⟨⟨a2, c2, rfl, ho11.st g11 F4 (by decide)⟩, bl_st hb14 g11 hb14.size (Nat.le_refl _)⟩
end Go.Proofs.YtejjneamngkmoaaDoor

namespace Go.Proofs.YtejjneamngkmoaaDoor
open Go.RowKit

def txB (l : List UInt8) : ByteArray := ⟨l.toArray⟩
theorem txB_inj {l m : List UInt8} (h : txB l = txB m) : l = m := by
  have h1 := congrArg ByteArray.data h
  simpa [txB] using h1
theorem conv_bys (ad : Option Addr) (c : Nat) (p : List UInt8) (w : World) (h : Row w ad (bys p)) : (convert 38 9 (.slice ad p.length c)).run Tryd.prog w = .ok (.string (txB p)) w := by
  cases ad with
  | none =>
    have hp : p = [] := by
      rcases h with h | ⟨b, off, ha, _⟩
      · have := congrArg List.length h
        rw [bys_len] at this
        exact List.eq_nil_of_length_eq_zero this
      · cases ha
    subst hp
    exact run_convert_bytes_nil w _ _ Tryd.underlying38 Tryd.underlying5 _ _ _ Tryd.underlying9
  | some ad =>
    refine run_convert_bytes_back (P := Tryd.prog) w _ _ 5 ad c p Tryd.underlying38 Tryd.underlying5 Tryd.underlying9 (fun j hj => ?_)
    obtain ⟨b, off, ha, hc⟩ := h.at (k := j) (by rw [bys_len]; exact hj)
    injection ha with ha
    subst ha
    rw [addr_add]
    exact hc j _ (by simp [bys, hj, byv])
set_option maxRecDepth 100000 in
theorem equal_any (a b : Option Addr) (c d : Nat) (l m : List UInt8) (w : World) (hl : Row w a (bys l)) (hm : Row w b (bys m)) : Calls Tryd.prog 84 #[.slice a l.length c, .slice b m.length d] w fun e w' => e = .returned (.bool (decide (l = m))) ∧ w = w' := by
  have h1 := conv_bys a c l w hl
  have h2 := conv_bys b d m w hm
  by_cases h : l = m
  · subst h
    rw [decide_eq_true rfl]
    go_enter Tryd.func84, Tryd.ntmps84
    go_wp2
    go_ret
    exact ⟨rfl, rfl⟩
  · rw [decide_eq_false h]
    have hlst : ∀ l : List UInt8, (txB l).toList = l := fun l => by
      rw [ByteArray.toList_eq]
      rfl
    have hne : ((txB l).toList == (txB m).toList) = false := by
      rw [hlst, hlst, beq_eq_false_iff_ne]
      exact h
    clear hlst
    go_enter Tryd.func84, Tryd.ntmps84
    go_wp2
    go_ret
    exact ⟨rfl, rfl⟩
end Go.Proofs.YtejjneamngkmoaaDoor

namespace Go.Proofs.YtejjneamngkmoaaDoor
open Go.RowKit

/-- A copy's cells. -/
def coA (st : Nat) (t : Tg) (v : Value) : Array Value := #[.int .u8 (st : Int), .int .i64 t.rep, .int .i64 t.reg, .int .i64 t.pla, .int .i64 t.idx, .int .i64 t.inc, v]
theorem coA_size (st : Nat) (t : Tg) (v : Value) : (coA st t v).size = 7 := rfl
section
variable {w : World} {q off : Nat} {T : TypeId} {st : Nat} {t : Tg} {v : Value}
theorem coA_0 (h : w.heap[q]? = some (.cells (coA st t v) T (0, 0))) : w.cell? ⟨q, 0, none⟩ = some (.int .u8 (st : Int)) := blk_cell h 0 _ rfl
theorem coA_4 (h : w.heap[q]? = some (.cells (coA st t v) T (0, 0))) : w.cell? ⟨q, 4, none⟩ = some (.int .i64 t.idx) := blk_cell h 4 _ rfl
theorem coA_5 (h : w.heap[q]? = some (.cells (coA st t v) T (0, 0))) : w.cell? ⟨q, 5, none⟩ = some (.int .i64 t.inc) := blk_cell h 5 _ rfl
theorem coA_6 (h : w.heap[q]? = some (.cells (coA st t v) T (0, 0))) : w.cell? ⟨q, 6, none⟩ = some v := blk_cell h 6 _ rfl
end
set_option maxRecDepth 100000 in
theorem over_any (c x : Cp) (v u : Value) (w : World) : Calls Tryd.prog 95 #[.agg (coA c.st c.tg v), .agg (coA x.st x.tg u)] w fun e w' => e = .returned (.bool (overC c x)) ∧ Below w.heap.size w w' := by
  unfold overC
  by_cases h1 : c.st = 1
  case neg =>
    rw [decide_eq_false h1, Bool.false_and]
    have e1 : ((c.st : Int) == 1) = false := by rw [beq_eq_false_iff_ne]; omega
    clear h1
    go_enter Tryd.func95, Tryd.ntmps95
    refine wp_seq_k (fun K hK => ?_)
    have HK := Lib.hid hK
    clear hK
    go_wp2
    have B1 := tr_al (Obj.cells (coA x.st x.tg u) 123) (heap_alloc_new w (Obj.cells (coA c.st c.tg v) 123))
    have B2 := heap_alloc_new (w.alloc (Obj.cells (coA c.st c.tg v) 123)) (Obj.cells (coA x.st x.tg u) 123)
    rw [show (w.alloc (Obj.cells (coA c.st c.tg v) 123)).heap.size = w.heap.size + 1 by simp] at B2
    have hb := (blw w (Obj.cells (coA c.st c.tg v) 123)).alloc (by simp) (Obj.cells (coA x.st x.tg u) 123)
    change K _ ((w.alloc (Obj.cells (coA c.st c.tg v) 123)).alloc (Obj.cells (coA x.st x.tg u) 123))
    generalize (w.alloc (Obj.cells (coA c.st c.tg v) 123)).alloc (Obj.cells (coA x.st x.tg u) 123) = w1 at *
    have a0 := coA_0 B1
    have a4 := coA_4 B1
    have a6 := coA_6 B1
    have b0 := coA_0 B2
    have b4 := coA_4 B2
    have b6 := coA_6 B2
    refine HK.out _ _ ?_
    clear HK B1 B2
    go_wp2
    go_ret
    exact ⟨rfl, hb⟩
  case pos =>
    rw [decide_eq_true h1, Bool.true_and]
    have e1 : ((c.st : Int) == 1) = true := by rw [beq_iff_eq]; omega
    clear h1
    by_cases h2 : x.st ≠ 1
    case pos =>
      rw [decide_eq_true h2, Bool.true_or]
      have e2 : ((x.st : Int) != 1) = true := by rw [bne_iff_ne]; omega
      clear h2
      go_enter Tryd.func95, Tryd.ntmps95
      refine wp_seq_k (fun K hK => ?_)
      have HK := Lib.hid hK
      clear hK
      go_wp2
      have B1 := tr_al (Obj.cells (coA x.st x.tg u) 123) (heap_alloc_new w (Obj.cells (coA c.st c.tg v) 123))
      have B2 := heap_alloc_new (w.alloc (Obj.cells (coA c.st c.tg v) 123)) (Obj.cells (coA x.st x.tg u) 123)
      rw [show (w.alloc (Obj.cells (coA c.st c.tg v) 123)).heap.size = w.heap.size + 1 by simp] at B2
      have hb := (blw w (Obj.cells (coA c.st c.tg v) 123)).alloc (by simp) (Obj.cells (coA x.st x.tg u) 123)
      change K _ ((w.alloc (Obj.cells (coA c.st c.tg v) 123)).alloc (Obj.cells (coA x.st x.tg u) 123))
      generalize (w.alloc (Obj.cells (coA c.st c.tg v) 123)).alloc (Obj.cells (coA x.st x.tg u) 123) = w1 at *
      have a0 := coA_0 B1
      have a4 := coA_4 B1
      have a6 := coA_6 B1
      have b0 := coA_0 B2
      have b4 := coA_4 B2
      have b6 := coA_6 B2
      refine HK.out _ _ ?_
      clear HK B1 B2
      go_wp2
      go_ret
      exact ⟨rfl, hb⟩
    case neg =>
      rw [decide_eq_false h2, Bool.false_or]
      have e2 : ((x.st : Int) != 1) = false := by rw [bne_eq_false_iff_eq]; omega
      clear h2
      go_enter Tryd.func95, Tryd.ntmps95
      refine wp_seq_k (fun K hK => ?_)
      have HK := Lib.hid hK
      clear hK
      go_wp2
      have B1 := tr_al (Obj.cells (coA x.st x.tg u) 123) (heap_alloc_new w (Obj.cells (coA c.st c.tg v) 123))
      have B2 := heap_alloc_new (w.alloc (Obj.cells (coA c.st c.tg v) 123)) (Obj.cells (coA x.st x.tg u) 123)
      rw [show (w.alloc (Obj.cells (coA c.st c.tg v) 123)).heap.size = w.heap.size + 1 by simp] at B2
      have hb := (blw w (Obj.cells (coA c.st c.tg v) 123)).alloc (by simp) (Obj.cells (coA x.st x.tg u) 123)
      change K _ ((w.alloc (Obj.cells (coA c.st c.tg v) 123)).alloc (Obj.cells (coA x.st x.tg u) 123))
      generalize (w.alloc (Obj.cells (coA c.st c.tg v) 123)).alloc (Obj.cells (coA x.st x.tg u) 123) = w1 at *
      have a0 := coA_0 B1
      have a4 := coA_4 B1
      have a6 := coA_6 B1
      have b0 := coA_0 B2
      have b4 := coA_4 B2
      have b6 := coA_6 B2
      refine HK.out _ _ ?_
      clear HK B1 B2
      go_wp2
      go_ret
      exact ⟨rfl, hb⟩
set_option maxRecDepth 100000 in
theorem pick_any (c x : Cp) (v u : Value) (w : World) : Calls Tryd.prog 94 #[.func (.func 95) #[.agg (coA c.st c.tg v)] #[], .agg (coA x.st x.tg u)] w fun e w' => e = .returned (.int .i64 (if overC c x = true then 1 else 0)) ∧ Below w.heap.size w w' := by
  have hov := over_any c x v u
  generalize overC c x = r at *
  go_enter Tryd.func94, Tryd.ntmps94
  refine wp_seq_k (fun K hK => ?_)
  have HK := Lib.hid hK
  clear hK
  go_wp2
  refine HK.out _ _ ?_
  clear HK
  have B2 := heap_alloc_new w (Obj.cells (coA x.st x.tg u) 123)
  have hb := blw w (Obj.cells (coA x.st x.tg u) 123)
  change Code.wp _ _ _ _ (w.alloc (Obj.cells (coA x.st x.tg u) 123))
  generalize w.alloc (Obj.cells (coA x.st x.tg u) 123) = w1 at *
  cases r
  case false =>
    go_wp2_with (first
      | ((with_reducible refine wpList_ldB 123 _ ?_); refine ⟨rfl, _, ⟨_, _, _, _, _, Tryd.isAgg123, Tryd.sizeOf123, rfl, ‹_›, arr_all (coA_size x.st x.tg u)⟩, ?_⟩)
      | (go_at_call 95; refine (hov _).mono ?_; rintro e w2 ⟨rfl, hb2⟩))
    go_ret
    exact ⟨rfl, hb.trans (hb2.mono hb.size)⟩
  case true =>
    go_wp2_with (first
      | ((with_reducible refine wpList_ldB 123 _ ?_); refine ⟨rfl, _, ⟨_, _, _, _, _, Tryd.isAgg123, Tryd.sizeOf123, rfl, ‹_›, arr_all (coA_size x.st x.tg u)⟩, ?_⟩)
      | (go_at_call 95; refine (hov _).mono ?_; rintro e w2 ⟨rfl, hb2⟩))
    go_ret
    exact ⟨rfl, hb.trans (hb2.mono hb.size)⟩
end Go.Proofs.YtejjneamngkmoaaDoor

namespace Go.Proofs.YtejjneamngkmoaaDoor
open Go.RowKit

def sameC (c x : Cp) : Bool := decide (c.st = x.st) && (decide (c.tg.idx = x.tg.idx) && decide (c.body = x.body))
set_option maxRecDepth 100000 in
theorem same_any (c x : Cp) (a b : Option Addr) (k m : Nat) (w : World) (hc : SlB w a k c.body) (hx : SlB w b m x.body) : Calls Tryd.prog 75 #[.agg (coA c.st c.tg (.slice a c.body.length k)), .agg (coA x.st x.tg (.slice b x.body.length m))] w fun e w' => e = .returned (.bool (sameC c x)) ∧ Below w.heap.size w w' := by
  unfold sameC
  by_cases h1 : c.st = x.st
  case neg =>
    rw [decide_eq_false h1, Bool.false_and]
    have e1 : ((c.st : Int) == (x.st : Int)) = false := by rw [beq_eq_false_iff_ne]; omega
    clear h1
    go_enter Tryd.func75, Tryd.ntmps75
    refine wp_seq_k (fun K hK => ?_)
    have HK := Lib.hid hK
    clear hK
    go_wp2
    have B1 := tr_al (Obj.cells (coA x.st x.tg (.slice b x.body.length m)) 123) (heap_alloc_new w (Obj.cells (coA c.st c.tg (.slice a c.body.length k)) 123))
    have B2 := heap_alloc_new (w.alloc (Obj.cells (coA c.st c.tg (.slice a c.body.length k)) 123)) (Obj.cells (coA x.st x.tg (.slice b x.body.length m)) 123)
    rw [show (w.alloc (Obj.cells (coA c.st c.tg (.slice a c.body.length k)) 123)).heap.size = w.heap.size + 1 by simp] at B2
    have hb := (blw w (Obj.cells (coA c.st c.tg (.slice a c.body.length k)) 123)).alloc (by simp) (Obj.cells (coA x.st x.tg (.slice b x.body.length m)) 123)
    change K _ ((w.alloc (Obj.cells (coA c.st c.tg (.slice a c.body.length k)) 123)).alloc (Obj.cells (coA x.st x.tg (.slice b x.body.length m)) 123))
    generalize (w.alloc (Obj.cells (coA c.st c.tg (.slice a c.body.length k)) 123)).alloc (Obj.cells (coA x.st x.tg (.slice b x.body.length m)) 123) = w1 at *
    have a0 := coA_0 B1
    have a4 := coA_4 B1
    have a6 := coA_6 B1
    have b0 := coA_0 B2
    have b4 := coA_4 B2
    have b6 := coA_6 B2
    refine HK.out _ _ ?_
    clear HK B1 B2
    go_wp2
    go_ret
    exact ⟨rfl, hb⟩
  case pos =>
    rw [decide_eq_true h1, Bool.true_and]
    have e1 : ((c.st : Int) == (x.st : Int)) = true := by rw [beq_iff_eq]; omega
    clear h1
    by_cases h2 : c.tg.idx = x.tg.idx
    case neg =>
      rw [decide_eq_false h2, Bool.false_and]
      have e2 : (c.tg.idx == x.tg.idx) = false := by rw [beq_eq_false_iff_ne]; exact h2
      clear h2
      go_enter Tryd.func75, Tryd.ntmps75
      refine wp_seq_k (fun K hK => ?_)
      have HK := Lib.hid hK
      clear hK
      go_wp2
      have B1 := tr_al (Obj.cells (coA x.st x.tg (.slice b x.body.length m)) 123) (heap_alloc_new w (Obj.cells (coA c.st c.tg (.slice a c.body.length k)) 123))
      have B2 := heap_alloc_new (w.alloc (Obj.cells (coA c.st c.tg (.slice a c.body.length k)) 123)) (Obj.cells (coA x.st x.tg (.slice b x.body.length m)) 123)
      rw [show (w.alloc (Obj.cells (coA c.st c.tg (.slice a c.body.length k)) 123)).heap.size = w.heap.size + 1 by simp] at B2
      have hb := (blw w (Obj.cells (coA c.st c.tg (.slice a c.body.length k)) 123)).alloc (by simp) (Obj.cells (coA x.st x.tg (.slice b x.body.length m)) 123)
      change K _ ((w.alloc (Obj.cells (coA c.st c.tg (.slice a c.body.length k)) 123)).alloc (Obj.cells (coA x.st x.tg (.slice b x.body.length m)) 123))
      generalize (w.alloc (Obj.cells (coA c.st c.tg (.slice a c.body.length k)) 123)).alloc (Obj.cells (coA x.st x.tg (.slice b x.body.length m)) 123) = w1 at *
      have a0 := coA_0 B1
      have a4 := coA_4 B1
      have a6 := coA_6 B1
      have b0 := coA_0 B2
      have b4 := coA_4 B2
      have b6 := coA_6 B2
      refine HK.out _ _ ?_
      clear HK B1 B2
      go_wp2
      go_ret
      exact ⟨rfl, hb⟩
    case pos =>
      rw [decide_eq_true h2, Bool.true_and]
      have e2 : (c.tg.idx == x.tg.idx) = true := by rw [beq_iff_eq]; exact h2
      clear h2
      obtain ⟨r, hr⟩ : ∃ r, decide (c.body = x.body) = r := ⟨_, rfl⟩
      rw [hr]
      have HR := Lib.hid hr
      clear hr
      go_enter Tryd.func75, Tryd.ntmps75
      refine wp_seq_k (fun K hK => ?_)
      have HK := Lib.hid hK
      clear hK
      go_wp2
      have B1 := tr_al (Obj.cells (coA x.st x.tg (.slice b x.body.length m)) 123) (heap_alloc_new w (Obj.cells (coA c.st c.tg (.slice a c.body.length k)) 123))
      have B2 := heap_alloc_new (w.alloc (Obj.cells (coA c.st c.tg (.slice a c.body.length k)) 123)) (Obj.cells (coA x.st x.tg (.slice b x.body.length m)) 123)
      rw [show (w.alloc (Obj.cells (coA c.st c.tg (.slice a c.body.length k)) 123)).heap.size = w.heap.size + 1 by simp] at B2
      have hb := (blw w (Obj.cells (coA c.st c.tg (.slice a c.body.length k)) 123)).alloc (by simp) (Obj.cells (coA x.st x.tg (.slice b x.body.length m)) 123)
      change K _ ((w.alloc (Obj.cells (coA c.st c.tg (.slice a c.body.length k)) 123)).alloc (Obj.cells (coA x.st x.tg (.slice b x.body.length m)) 123))
      generalize (w.alloc (Obj.cells (coA c.st c.tg (.slice a c.body.length k)) 123)).alloc (Obj.cells (coA x.st x.tg (.slice b x.body.length m)) 123) = w1 at *
      have a0 := coA_0 B1
      have a4 := coA_4 B1
      have a6 := coA_6 B1
      have b0 := coA_0 B2
      have b4 := coA_4 B2
      have b6 := coA_6 B2
      refine HK.out _ _ ?_
      clear HK B1 B2
      have heq := equal_any a b k m c.body x.body w1 (hc.below hb).row (hx.below hb).row
      rw [HR.out] at heq
      go_wp2_with (go_at_call 84; refine heq.mono ?_; rintro e w2 ⟨rfl, rfl⟩)
      go_ret
      exact ⟨rfl, hb⟩

/-- The cell's box: its disk, its replica and region, both copies. -/
def ceA (g : Nat) (rep reg : Int) (s0 : Nat) (t0 : Tg) (v0 : Value) (s1 : Nat) (t1 : Tg) (v1 : Value) : Array Value :=
  #[.pointer (some ⟨g, 0, none⟩), .int .i64 rep, .int .i64 reg, .int .u8 (s0 : Int), .int .i64 t0.rep, .int .i64 t0.reg, .int .i64 t0.pla, .int .i64 t0.idx, .int .i64 t0.inc, v0,
    .int .u8 (s1 : Int), .int .i64 t1.rep, .int .i64 t1.reg, .int .i64 t1.pla, .int .i64 t1.idx, .int .i64 t1.inc, v1]
section
variable {w : World} {q g : Nat} {rep reg : Int} {s0 s1 : Nat} {t0 t1 : Tg} {v0 v1 : Value}
theorem ceA_0 (h : w.heap[q]? = some (.cells (ceA g rep reg s0 t0 v0 s1 t1 v1) 126 (0, 0))) : w.cell? ⟨q, 0, none⟩ = some (.pointer (some ⟨g, 0, none⟩)) := blk_cell h 0 _ rfl
theorem ceA_1 (h : w.heap[q]? = some (.cells (ceA g rep reg s0 t0 v0 s1 t1 v1) 126 (0, 0))) : w.cell? ⟨q, 1, none⟩ = some (.int .i64 rep) := blk_cell h 1 _ rfl
theorem ceA_2 (h : w.heap[q]? = some (.cells (ceA g rep reg s0 t0 v0 s1 t1 v1) 126 (0, 0))) : w.cell? ⟨q, 2, none⟩ = some (.int .i64 reg) := blk_cell h 2 _ rfl
theorem ceA_7 (h : w.heap[q]? = some (.cells (ceA g rep reg s0 t0 v0 s1 t1 v1) 126 (0, 0))) : w.cell? ⟨q, 7, none⟩ = some (.int .i64 t0.idx) := blk_cell h 7 _ rfl
theorem ceA_9 (h : w.heap[q]? = some (.cells (ceA g rep reg s0 t0 v0 s1 t1 v1) 126 (0, 0))) : w.cell? ⟨q, 9, none⟩ = some v0 := blk_cell h 9 _ rfl
theorem ceA_14 (h : w.heap[q]? = some (.cells (ceA g rep reg s0 t0 v0 s1 t1 v1) 126 (0, 0))) : w.cell? ⟨q, 14, none⟩ = some (.int .i64 t1.idx) := blk_cell h 14 _ rfl
theorem ceA_16 (h : w.heap[q]? = some (.cells (ceA g rep reg s0 t0 v0 s1 t1 v1) 126 (0, 0))) : w.cell? ⟨q, 16, none⟩ = some v1 := blk_cell h 16 _ rfl
end
theorem ceA_ld0 (g : Nat) (rep reg : Int) (s0 : Nat) (t0 : Tg) (v0 : Value) (s1 : Nat) (t1 : Tg) (v1 : Value) : 3 + 7 ≤ (ceA g rep reg s0 t0 v0 s1 t1 v1).size ∧ (ceA g rep reg s0 t0 v0 s1 t1 v1).extract 3 (3 + 7) = coA s0 t0 v0 := ⟨by show _ ≤ 17; omega, rfl⟩
theorem ceA_ld1 (g : Nat) (rep reg : Int) (s0 : Nat) (t0 : Tg) (v0 : Value) (s1 : Nat) (t1 : Tg) (v1 : Value) : 10 + 7 ≤ (ceA g rep reg s0 t0 v0 s1 t1 v1).size ∧ (ceA g rep reg s0 t0 v0 s1 t1 v1).extract 10 (10 + 7) = coA s1 t1 v1 := ⟨by show _ ≤ 17; omega, rfl⟩
/-- Both copies, one behind the other. -/
def cpA (s0 : Nat) (t0 : Tg) (v0 : Value) (s1 : Nat) (t1 : Tg) (v1 : Value) : Array Value :=
  #[.int .u8 (s0 : Int), .int .i64 t0.rep, .int .i64 t0.reg, .int .i64 t0.pla, .int .i64 t0.idx, .int .i64 t0.inc, v0,
    .int .u8 (s1 : Int), .int .i64 t1.rep, .int .i64 t1.reg, .int .i64 t1.pla, .int .i64 t1.idx, .int .i64 t1.inc, v1]
theorem ceA_ldp (g : Nat) (rep reg : Int) (s0 : Nat) (t0 : Tg) (v0 : Value) (s1 : Nat) (t1 : Tg) (v1 : Value) : 3 + 14 ≤ (ceA g rep reg s0 t0 v0 s1 t1 v1).size ∧ (ceA g rep reg s0 t0 v0 s1 t1 v1).extract 3 (3 + 14) = cpA s0 t0 v0 s1 t1 v1 := ⟨by show _ ≤ 17; omega, rfl⟩
section
variable {w : World} {q : Nat} {T : TypeId} {s0 s1 : Nat} {t0 t1 : Tg} {v0 v1 : Value}
theorem cpA_0 (h : w.heap[q]? = some (.cells (cpA s0 t0 v0 s1 t1 v1) T (0, 0))) : w.cell? ⟨q, 0, none⟩ = some (.int .u8 (s0 : Int)) := blk_cell h 0 _ rfl
theorem cpA_7 (h : w.heap[q]? = some (.cells (cpA s0 t0 v0 s1 t1 v1) T (0, 0))) : w.cell? ⟨q, 7, none⟩ = some (.int .u8 (s1 : Int)) := blk_cell h 7 _ rfl
end
end Go.Proofs.YtejjneamngkmoaaDoor

namespace Go.Proofs.YtejjneamngkmoaaDoor
open Go.RowKit

theorem cpA_new (s0 : Nat) (t0 : Tg) (a0 : Option Addr) (n0 k0 : Nat) (s1 : Nat) (t1 : Tg) (a1 : Option Addr) (n1 k1 : Nat) : (Value.agg (cpA s0 t0 (.slice a0 n0 k0) s1 t1 (.slice a1 n1 k1))).cells = cpA s0 t0 (.slice a0 n0 k0) s1 t1 (.slice a1 n1 k1) ∧ (cpA s0 t0 (.slice a0 n0 k0) s1 t1 (.slice a1 n1 k1)).size = 14 ∧ ∀ u ∈ (cpA s0 t0 (.slice a0 n0 k0) s1 t1 (.slice a1 n1 k1)).toList, u.oneCell' = true :=
  ⟨rfl, rfl, by simp [cpA, Value.oneCell']⟩
set_option maxRecDepth 100000 in
set_option maxHeartbeats 1000000 in
theorem loaded_any (q g : Nat) (rep reg : Int) (c0 c1 : Cp) (a0 a1 : Option Addr) (n0 k0 n1 k1 : Nat) (w : World) (hB : (w.heap[q]? = some (.cells (ceA g rep reg c0.st c0.tg (.slice a0 n0 k0) c1.st c1.tg (.slice a1 n1 k1)) 126 (0, 0)))) : Calls Tryd.prog 61 #[.pointer (some ⟨q, 0, none⟩)] w fun e w' => e = .returned (.tuple #[.int .i64 ((loadedC c0 c1).1 : Nat), .bool (loadedC c0 c1).2.1, .int .i64 (loadedC c0 c1).2.2]) ∧ Below w.heap.size w w' := by
  have hpk := pick_any c1 c0 (.slice a1 n1 k1) (.slice a0 n0 k0)
  unfold loadedC
  cases hr : overC c1 c0
  case true =>
    have h1 : ((c1.st : Int) == 1) = true := by have := over_good hr; rw [beq_iff_eq]; omega
    rw [hr] at hpk
    simp only [if_true] at hpk ⊢
    clear hr
    go_enter Tryd.func61, Tryd.ntmps61
    refine wp_seq_k (fun K hK => ?_)
    have HK := Lib.hid hK
    clear hK
    go_wp2
    refine HK.out _ _ ?_
    clear HK
    refine wp_seq_k (fun K hK => ?_)
    have HK := Lib.hid hK
    clear hK
    go_wp2_with fail
    have hbd := (Below.refl w.heap.size w).drew
    refine wp_region_held_drew (S := fun w' => w'.heap[q]? = some (.cells (ceA g rep reg c0.st c0.tg (.slice a0 n0 k0) c1.st c1.tg (.slice a1 n1 k1)) 126 (0, 0))) (by kernel_rfl) (tr_bl hbd hB) (fun hS0 => ?_)
    generalize w.drew = x0 at *
    refine wpAnyH_take (i := 0) (oi := ⟨_, _, _, _, _, _⟩) (v := ?_) rfl (by kernel_rfl) (by kernel_rfl) (by kernel_rfl) (fun _ _ _ h => h) (Or.inl ⟨by rfl, ?_⟩) (by assumption) ?_
    rotate_left
    · intro wS hSw
      go_simp; (try with_reducible rfl)
    (try simp only [Act.put])
    (try simp only [List.setIfInBounds_toArray])
    (try simp only [List.set_cons_succ])
    (try simp only [List.set_cons_zero])
    refine wpAnyH_take (i := 1) (oi := ⟨_, _, _, _, _, _⟩) (v := ?_) rfl (by kernel_rfl) (by kernel_rfl) (by kernel_rfl) (fun _ _ _ h => h) (Or.inl ⟨by rfl, ?_⟩) (by assumption) ?_
    rotate_left
    · intro wS hSw
      go_simp; (try with_reducible rfl)
    (try simp only [Act.put])
    (try simp only [List.setIfInBounds_toArray])
    (try simp only [List.set_cons_succ])
    (try simp only [List.set_cons_zero])
    refine wpAnyH_take (i := 2) (oi := ⟨_, _, _, _, _, _⟩) (v := ?_) rfl (by kernel_rfl) (by kernel_rfl) (by kernel_rfl) (fun _ _ _ h => h) (Or.inl ⟨by rfl, ?_⟩) (by assumption) ?_
    rotate_left
    · intro wS hSw
      go_simp; (try with_reducible rfl)
    (try simp only [Act.put])
    (try simp only [List.setIfInBounds_toArray])
    (try simp only [List.set_cons_succ])
    (try simp only [List.set_cons_zero])
    refine wpAnyH_take (i := 3) (oi := ⟨_, _, _, _, _, _⟩) (v := ?_) rfl (by kernel_rfl) (by kernel_rfl) (by kernel_rfl) (fun _ _ _ h => h) (Or.inl ⟨by rfl, ?_⟩) (by assumption) ?_
    rotate_left
    · intro wS hSw
      go_simp; (try with_reducible rfl)
    (try simp only [Act.put])
    (try simp only [List.setIfInBounds_toArray])
    (try simp only [List.set_cons_succ])
    (try simp only [List.set_cons_zero])
    refine wpAnyH_take (i := 4) (oi := ⟨_, _, _, _, _, _⟩) (v := .agg (coA c1.st c1.tg (.slice a1 n1 k1))) rfl (by kernel_rfl) (by kernel_rfl) (by kernel_rfl) (fun _ _ _ h => h) (Or.inl ⟨by rfl, fun wS hSw => ?_⟩) (by assumption) ?_
    · exact exec_ldB 123 _ ⟨_, _, _, _, _, Tryd.isAgg123, Tryd.sizeOf123, rfl, hSw, ceA_ld1 _ _ _ _ _ _ _ _ _⟩
    (try simp only [Act.put])
    (try simp only [List.setIfInBounds_toArray])
    (try simp only [List.set_cons_succ])
    (try simp only [List.set_cons_zero])
    refine wpAnyH_take (i := 5) (oi := ⟨_, _, _, _, _, _⟩) (v := ?_) rfl (by kernel_rfl) (by kernel_rfl) (by kernel_rfl) (fun _ _ _ h => h) (Or.inl ⟨by rfl, ?_⟩) (by assumption) ?_
    rotate_left
    · intro wS hSw
      go_simp; (try with_reducible rfl)
    (try simp only [Act.put])
    (try simp only [List.setIfInBounds_toArray])
    (try simp only [List.set_cons_succ])
    (try simp only [List.set_cons_zero])
    refine wpAnyH_take (i := 6) (oi := ⟨_, _, _, _, _, _⟩) (v := ?_) rfl (by kernel_rfl) (by kernel_rfl) (by kernel_rfl) (fun _ _ _ h => h) (Or.inl ⟨by rfl, ?_⟩) (by assumption) ?_
    rotate_left
    · intro wS hSw
      go_simp; (try with_reducible rfl)
    (try simp only [Act.put])
    (try simp only [List.setIfInBounds_toArray])
    (try simp only [List.set_cons_succ])
    (try simp only [List.set_cons_zero])
    refine wpAnyH_take (i := 7) (oi := ⟨_, _, _, _, _, _⟩) (v := ?_) rfl (by kernel_rfl) (by kernel_rfl) (by kernel_rfl) (fun _ _ _ h => h) (Or.inl ⟨by rfl, ?_⟩) (by assumption) ?_
    rotate_left
    · intro wS hSw
      go_simp; (try with_reducible rfl)
    (try simp only [Act.put])
    (try simp only [List.setIfInBounds_toArray])
    (try simp only [List.set_cons_succ])
    (try simp only [List.set_cons_zero])
    refine wpAnyH_take (i := 8) (oi := ⟨_, _, _, _, _, _⟩) (v := ?_) rfl (by kernel_rfl) (by kernel_rfl) (by kernel_rfl) (fun _ _ _ h => h) (Or.inl ⟨by rfl, ?_⟩) (by assumption) ?_
    rotate_left
    · intro wS hSw
      go_simp; (try with_reducible rfl)
    (try simp only [Act.put])
    (try simp only [List.setIfInBounds_toArray])
    (try simp only [List.set_cons_succ])
    (try simp only [List.set_cons_zero])
    refine wpAnyH_take (i := 9) (oi := ⟨_, _, _, _, _, _⟩) (v := ?_) rfl (by kernel_rfl) (by kernel_rfl) (by kernel_rfl) (fun _ _ _ h => h) (Or.inl ⟨by rfl, ?_⟩) (by assumption) ?_
    rotate_left
    · intro wS hSw
      go_simp; (try with_reducible rfl)
    (try simp only [Act.put])
    (try simp only [List.setIfInBounds_toArray])
    (try simp only [List.set_cons_succ])
    (try simp only [List.set_cons_zero])
    refine wpAnyH_take (i := 10) (oi := ⟨_, _, _, _, _, _⟩) (v := .agg (coA c0.st c0.tg (.slice a0 n0 k0))) rfl (by kernel_rfl) (by kernel_rfl) (by kernel_rfl) (fun _ _ _ h => h) (Or.inl ⟨by rfl, fun wS hSw => ?_⟩) (by assumption) ?_
    · exact exec_ldB 123 _ ⟨_, _, _, _, _, Tryd.isAgg123, Tryd.sizeOf123, rfl, hSw, ceA_ld0 _ _ _ _ _ _ _ _ _⟩
    (try simp only [Act.put])
    (try simp only [List.setIfInBounds_toArray])
    (try simp only [List.set_cons_succ])
    (try simp only [List.set_cons_zero])
    refine wpAnyH_ready (rs := [11]) (by kernel_rfl) (by simp) ?_
    refine AllReadyH.cons (o := ⟨_, _, _, _, _, _⟩) rfl (fun K' hK' => ?_) AllReadyH.nil
    refine (if_pos (by rfl)).mpr ?_
    go_simp
    refine (hpk _).mono ?_
    rintro e w1 ⟨rfl, hb1⟩
    have B1 := tr_bl hb1 hS0
    have hb := hbd.trans (hb1.mono hbd.size)
    refine hK'.out _ _ B1 (fun _ => ?_)
    clear hK' hb1 hbd hS0 hpk
    (try simp only [Act.put])
    (try simp only [List.setIfInBounds_toArray])
    (try simp only [List.set_cons_succ])
    (try simp only [List.set_cons_zero])
    refine wpAnyH_take (i := 12) (oi := ⟨_, _, _, _, _, _⟩) (v := ?_) rfl (by kernel_rfl) (by kernel_rfl) (by kernel_rfl) (fun _ _ _ h => h) (Or.inl ⟨by rfl, ?_⟩) (by assumption) ?_
    rotate_left
    · intro wS hSw
      go_simp; (try with_reducible rfl)
    (try simp only [Act.put])
    (try simp only [List.setIfInBounds_toArray])
    (try simp only [List.set_cons_succ])
    (try simp only [List.set_cons_zero])
    refine wpAnyH_done (by kernel_rfl) ?_ _
    refine HK.out _ _ ?_
    clear HK
    refine wp_seq_k (fun K hK => ?_)
    have HK2 := Lib.hid hK
    clear hK
    refine wp_seq_k (fun K hK => ?_)
    have HK := Lib.hid hK
    clear hK
    go_wp2_with (first
      | ((with_reducible refine wpList_ldB 124 _ ?_); refine ⟨rfl, _, ⟨_, _, _, _, _, Tryd.isAgg124, Tryd.sizeOf124, rfl, ‹_›, ceA_ldp _ _ _ _ _ _ _ _ _⟩, ?_⟩)
      | ((first | (with_reducible refine wpList_stNew 124 _ _ ?_) | (with_reducible refine wp_stNew 124 _ _ ?_)); refine ⟨_, _, ⟨Tryd.sizeOf124, rfl, cpA_new _ _ _ _ _ _ _ _ _ _⟩, rfl, ?_⟩))
    refine HK.out _ _ ?_
    clear HK
    have P2 := heap_alloc_new w1 (Obj.cells (cpA c0.st c0.tg (.slice a0 n0 k0) c1.st c1.tg (.slice a1 n1 k1)) 124)
    have hb2 := hb.alloc hb.size (Obj.cells (cpA c0.st c0.tg (.slice a0 n0 k0) c1.st c1.tg (.slice a1 n1 k1)) 124)
    generalize w1.alloc (Obj.cells (cpA c0.st c0.tg (.slice a0 n0 k0) c1.st c1.tg (.slice a1 n1 k1)) 124) = w2 at *
    generalize w1.heap.size = p at *
    have p0 := cpA_0 P2
    have p7 := cpA_7 P2
    clear P2
    go_wp2
    go_ret3
    exact ⟨rfl, hb2⟩
  case false =>
    rw [hr] at hpk
    simp only [Bool.false_eq_true, if_false] at hpk ⊢
    clear hr
    by_cases h1 : c0.st = 1
    case pos =>
      rw [if_pos h1]
      have e1 : ((c0.st : Int) == 1) = true := by rw [beq_iff_eq]; omega
      clear h1
      go_enter Tryd.func61, Tryd.ntmps61
      refine wp_seq_k (fun K hK => ?_)
      have HK := Lib.hid hK
      clear hK
      go_wp2
      refine HK.out _ _ ?_
      clear HK
      refine wp_seq_k (fun K hK => ?_)
      have HK := Lib.hid hK
      clear hK
      go_wp2_with fail
      have hbd := (Below.refl w.heap.size w).drew
      refine wp_region_held_drew (S := fun w' => w'.heap[q]? = some (.cells (ceA g rep reg c0.st c0.tg (.slice a0 n0 k0) c1.st c1.tg (.slice a1 n1 k1)) 126 (0, 0))) (by kernel_rfl) (tr_bl hbd hB) (fun hS0 => ?_)
      generalize w.drew = x0 at *
      refine wpAnyH_take (i := 0) (oi := ⟨_, _, _, _, _, _⟩) (v := ?_) rfl (by kernel_rfl) (by kernel_rfl) (by kernel_rfl) (fun _ _ _ h => h) (Or.inl ⟨by rfl, ?_⟩) (by assumption) ?_
      rotate_left
      · intro wS hSw
        go_simp; (try with_reducible rfl)
      (try simp only [Act.put])
      (try simp only [List.setIfInBounds_toArray])
      (try simp only [List.set_cons_succ])
      (try simp only [List.set_cons_zero])
      refine wpAnyH_take (i := 1) (oi := ⟨_, _, _, _, _, _⟩) (v := ?_) rfl (by kernel_rfl) (by kernel_rfl) (by kernel_rfl) (fun _ _ _ h => h) (Or.inl ⟨by rfl, ?_⟩) (by assumption) ?_
      rotate_left
      · intro wS hSw
        go_simp; (try with_reducible rfl)
      (try simp only [Act.put])
      (try simp only [List.setIfInBounds_toArray])
      (try simp only [List.set_cons_succ])
      (try simp only [List.set_cons_zero])
      refine wpAnyH_take (i := 2) (oi := ⟨_, _, _, _, _, _⟩) (v := ?_) rfl (by kernel_rfl) (by kernel_rfl) (by kernel_rfl) (fun _ _ _ h => h) (Or.inl ⟨by rfl, ?_⟩) (by assumption) ?_
      rotate_left
      · intro wS hSw
        go_simp; (try with_reducible rfl)
      (try simp only [Act.put])
      (try simp only [List.setIfInBounds_toArray])
      (try simp only [List.set_cons_succ])
      (try simp only [List.set_cons_zero])
      refine wpAnyH_take (i := 3) (oi := ⟨_, _, _, _, _, _⟩) (v := ?_) rfl (by kernel_rfl) (by kernel_rfl) (by kernel_rfl) (fun _ _ _ h => h) (Or.inl ⟨by rfl, ?_⟩) (by assumption) ?_
      rotate_left
      · intro wS hSw
        go_simp; (try with_reducible rfl)
      (try simp only [Act.put])
      (try simp only [List.setIfInBounds_toArray])
      (try simp only [List.set_cons_succ])
      (try simp only [List.set_cons_zero])
      refine wpAnyH_take (i := 4) (oi := ⟨_, _, _, _, _, _⟩) (v := .agg (coA c1.st c1.tg (.slice a1 n1 k1))) rfl (by kernel_rfl) (by kernel_rfl) (by kernel_rfl) (fun _ _ _ h => h) (Or.inl ⟨by rfl, fun wS hSw => ?_⟩) (by assumption) ?_
      · exact exec_ldB 123 _ ⟨_, _, _, _, _, Tryd.isAgg123, Tryd.sizeOf123, rfl, hSw, ceA_ld1 _ _ _ _ _ _ _ _ _⟩
      (try simp only [Act.put])
      (try simp only [List.setIfInBounds_toArray])
      (try simp only [List.set_cons_succ])
      (try simp only [List.set_cons_zero])
      refine wpAnyH_take (i := 5) (oi := ⟨_, _, _, _, _, _⟩) (v := ?_) rfl (by kernel_rfl) (by kernel_rfl) (by kernel_rfl) (fun _ _ _ h => h) (Or.inl ⟨by rfl, ?_⟩) (by assumption) ?_
      rotate_left
      · intro wS hSw
        go_simp; (try with_reducible rfl)
      (try simp only [Act.put])
      (try simp only [List.setIfInBounds_toArray])
      (try simp only [List.set_cons_succ])
      (try simp only [List.set_cons_zero])
      refine wpAnyH_take (i := 6) (oi := ⟨_, _, _, _, _, _⟩) (v := ?_) rfl (by kernel_rfl) (by kernel_rfl) (by kernel_rfl) (fun _ _ _ h => h) (Or.inl ⟨by rfl, ?_⟩) (by assumption) ?_
      rotate_left
      · intro wS hSw
        go_simp; (try with_reducible rfl)
      (try simp only [Act.put])
      (try simp only [List.setIfInBounds_toArray])
      (try simp only [List.set_cons_succ])
      (try simp only [List.set_cons_zero])
      refine wpAnyH_take (i := 7) (oi := ⟨_, _, _, _, _, _⟩) (v := ?_) rfl (by kernel_rfl) (by kernel_rfl) (by kernel_rfl) (fun _ _ _ h => h) (Or.inl ⟨by rfl, ?_⟩) (by assumption) ?_
      rotate_left
      · intro wS hSw
        go_simp; (try with_reducible rfl)
      (try simp only [Act.put])
      (try simp only [List.setIfInBounds_toArray])
      (try simp only [List.set_cons_succ])
      (try simp only [List.set_cons_zero])
      refine wpAnyH_take (i := 8) (oi := ⟨_, _, _, _, _, _⟩) (v := ?_) rfl (by kernel_rfl) (by kernel_rfl) (by kernel_rfl) (fun _ _ _ h => h) (Or.inl ⟨by rfl, ?_⟩) (by assumption) ?_
      rotate_left
      · intro wS hSw
        go_simp; (try with_reducible rfl)
      (try simp only [Act.put])
      (try simp only [List.setIfInBounds_toArray])
      (try simp only [List.set_cons_succ])
      (try simp only [List.set_cons_zero])
      refine wpAnyH_take (i := 9) (oi := ⟨_, _, _, _, _, _⟩) (v := ?_) rfl (by kernel_rfl) (by kernel_rfl) (by kernel_rfl) (fun _ _ _ h => h) (Or.inl ⟨by rfl, ?_⟩) (by assumption) ?_
      rotate_left
      · intro wS hSw
        go_simp; (try with_reducible rfl)
      (try simp only [Act.put])
      (try simp only [List.setIfInBounds_toArray])
      (try simp only [List.set_cons_succ])
      (try simp only [List.set_cons_zero])
      refine wpAnyH_take (i := 10) (oi := ⟨_, _, _, _, _, _⟩) (v := .agg (coA c0.st c0.tg (.slice a0 n0 k0))) rfl (by kernel_rfl) (by kernel_rfl) (by kernel_rfl) (fun _ _ _ h => h) (Or.inl ⟨by rfl, fun wS hSw => ?_⟩) (by assumption) ?_
      · exact exec_ldB 123 _ ⟨_, _, _, _, _, Tryd.isAgg123, Tryd.sizeOf123, rfl, hSw, ceA_ld0 _ _ _ _ _ _ _ _ _⟩
      (try simp only [Act.put])
      (try simp only [List.setIfInBounds_toArray])
      (try simp only [List.set_cons_succ])
      (try simp only [List.set_cons_zero])
      refine wpAnyH_ready (rs := [11]) (by kernel_rfl) (by simp) ?_
      refine AllReadyH.cons (o := ⟨_, _, _, _, _, _⟩) rfl (fun K' hK' => ?_) AllReadyH.nil
      refine (if_pos (by rfl)).mpr ?_
      go_simp
      refine (hpk _).mono ?_
      rintro e w1 ⟨rfl, hb1⟩
      have B1 := tr_bl hb1 hS0
      have hb := hbd.trans (hb1.mono hbd.size)
      refine hK'.out _ _ B1 (fun _ => ?_)
      clear hK' hb1 hbd hS0 hpk
      (try simp only [Act.put])
      (try simp only [List.setIfInBounds_toArray])
      (try simp only [List.set_cons_succ])
      (try simp only [List.set_cons_zero])
      refine wpAnyH_take (i := 12) (oi := ⟨_, _, _, _, _, _⟩) (v := ?_) rfl (by kernel_rfl) (by kernel_rfl) (by kernel_rfl) (fun _ _ _ h => h) (Or.inl ⟨by rfl, ?_⟩) (by assumption) ?_
      rotate_left
      · intro wS hSw
        go_simp; (try with_reducible rfl)
      (try simp only [Act.put])
      (try simp only [List.setIfInBounds_toArray])
      (try simp only [List.set_cons_succ])
      (try simp only [List.set_cons_zero])
      refine wpAnyH_done (by kernel_rfl) ?_ _
      refine HK.out _ _ ?_
      clear HK
      refine wp_seq_k (fun K hK => ?_)
      have HK2 := Lib.hid hK
      clear hK
      refine wp_seq_k (fun K hK => ?_)
      have HK := Lib.hid hK
      clear hK
      go_wp2_with (first
        | ((with_reducible refine wpList_ldB 124 _ ?_); refine ⟨rfl, _, ⟨_, _, _, _, _, Tryd.isAgg124, Tryd.sizeOf124, rfl, ‹_›, ceA_ldp _ _ _ _ _ _ _ _ _⟩, ?_⟩)
        | ((first | (with_reducible refine wpList_stNew 124 _ _ ?_) | (with_reducible refine wp_stNew 124 _ _ ?_)); refine ⟨_, _, ⟨Tryd.sizeOf124, rfl, cpA_new _ _ _ _ _ _ _ _ _ _⟩, rfl, ?_⟩))
      refine HK.out _ _ ?_
      clear HK
      have P2 := heap_alloc_new w1 (Obj.cells (cpA c0.st c0.tg (.slice a0 n0 k0) c1.st c1.tg (.slice a1 n1 k1)) 124)
      have hb2 := hb.alloc hb.size (Obj.cells (cpA c0.st c0.tg (.slice a0 n0 k0) c1.st c1.tg (.slice a1 n1 k1)) 124)
      generalize w1.alloc (Obj.cells (cpA c0.st c0.tg (.slice a0 n0 k0) c1.st c1.tg (.slice a1 n1 k1)) 124) = w2 at *
      generalize w1.heap.size = p at *
      have p0 := cpA_0 P2
      have p7 := cpA_7 P2
      clear P2
      go_wp2
      go_ret3
      exact ⟨rfl, hb2⟩
    case neg =>
      rw [if_neg h1]
      have e1 : ((c0.st : Int) == 1) = false := by rw [beq_eq_false_iff_ne]; omega
      clear h1
      by_cases h2 : c0.st = 0
      case pos =>
        rw [if_pos (.inl h2)]
        have e2 : ((c0.st : Int) == 0) = true := by rw [beq_iff_eq]; omega
        clear h2
        go_enter Tryd.func61, Tryd.ntmps61
        refine wp_seq_k (fun K hK => ?_)
        have HK := Lib.hid hK
        clear hK
        go_wp2
        refine HK.out _ _ ?_
        clear HK
        refine wp_seq_k (fun K hK => ?_)
        have HK := Lib.hid hK
        clear hK
        go_wp2_with fail
        have hbd := (Below.refl w.heap.size w).drew
        refine wp_region_held_drew (S := fun w' => w'.heap[q]? = some (.cells (ceA g rep reg c0.st c0.tg (.slice a0 n0 k0) c1.st c1.tg (.slice a1 n1 k1)) 126 (0, 0))) (by kernel_rfl) (tr_bl hbd hB) (fun hS0 => ?_)
        generalize w.drew = x0 at *
        refine wpAnyH_take (i := 0) (oi := ⟨_, _, _, _, _, _⟩) (v := ?_) rfl (by kernel_rfl) (by kernel_rfl) (by kernel_rfl) (fun _ _ _ h => h) (Or.inl ⟨by rfl, ?_⟩) (by assumption) ?_
        rotate_left
        · intro wS hSw
          go_simp; (try with_reducible rfl)
        (try simp only [Act.put])
        (try simp only [List.setIfInBounds_toArray])
        (try simp only [List.set_cons_succ])
        (try simp only [List.set_cons_zero])
        refine wpAnyH_take (i := 1) (oi := ⟨_, _, _, _, _, _⟩) (v := ?_) rfl (by kernel_rfl) (by kernel_rfl) (by kernel_rfl) (fun _ _ _ h => h) (Or.inl ⟨by rfl, ?_⟩) (by assumption) ?_
        rotate_left
        · intro wS hSw
          go_simp; (try with_reducible rfl)
        (try simp only [Act.put])
        (try simp only [List.setIfInBounds_toArray])
        (try simp only [List.set_cons_succ])
        (try simp only [List.set_cons_zero])
        refine wpAnyH_take (i := 2) (oi := ⟨_, _, _, _, _, _⟩) (v := ?_) rfl (by kernel_rfl) (by kernel_rfl) (by kernel_rfl) (fun _ _ _ h => h) (Or.inl ⟨by rfl, ?_⟩) (by assumption) ?_
        rotate_left
        · intro wS hSw
          go_simp; (try with_reducible rfl)
        (try simp only [Act.put])
        (try simp only [List.setIfInBounds_toArray])
        (try simp only [List.set_cons_succ])
        (try simp only [List.set_cons_zero])
        refine wpAnyH_take (i := 3) (oi := ⟨_, _, _, _, _, _⟩) (v := ?_) rfl (by kernel_rfl) (by kernel_rfl) (by kernel_rfl) (fun _ _ _ h => h) (Or.inl ⟨by rfl, ?_⟩) (by assumption) ?_
        rotate_left
        · intro wS hSw
          go_simp; (try with_reducible rfl)
        (try simp only [Act.put])
        (try simp only [List.setIfInBounds_toArray])
        (try simp only [List.set_cons_succ])
        (try simp only [List.set_cons_zero])
        refine wpAnyH_take (i := 4) (oi := ⟨_, _, _, _, _, _⟩) (v := .agg (coA c1.st c1.tg (.slice a1 n1 k1))) rfl (by kernel_rfl) (by kernel_rfl) (by kernel_rfl) (fun _ _ _ h => h) (Or.inl ⟨by rfl, fun wS hSw => ?_⟩) (by assumption) ?_
        · exact exec_ldB 123 _ ⟨_, _, _, _, _, Tryd.isAgg123, Tryd.sizeOf123, rfl, hSw, ceA_ld1 _ _ _ _ _ _ _ _ _⟩
        (try simp only [Act.put])
        (try simp only [List.setIfInBounds_toArray])
        (try simp only [List.set_cons_succ])
        (try simp only [List.set_cons_zero])
        refine wpAnyH_take (i := 5) (oi := ⟨_, _, _, _, _, _⟩) (v := ?_) rfl (by kernel_rfl) (by kernel_rfl) (by kernel_rfl) (fun _ _ _ h => h) (Or.inl ⟨by rfl, ?_⟩) (by assumption) ?_
        rotate_left
        · intro wS hSw
          go_simp; (try with_reducible rfl)
        (try simp only [Act.put])
        (try simp only [List.setIfInBounds_toArray])
        (try simp only [List.set_cons_succ])
        (try simp only [List.set_cons_zero])
        refine wpAnyH_take (i := 6) (oi := ⟨_, _, _, _, _, _⟩) (v := ?_) rfl (by kernel_rfl) (by kernel_rfl) (by kernel_rfl) (fun _ _ _ h => h) (Or.inl ⟨by rfl, ?_⟩) (by assumption) ?_
        rotate_left
        · intro wS hSw
          go_simp; (try with_reducible rfl)
        (try simp only [Act.put])
        (try simp only [List.setIfInBounds_toArray])
        (try simp only [List.set_cons_succ])
        (try simp only [List.set_cons_zero])
        refine wpAnyH_take (i := 7) (oi := ⟨_, _, _, _, _, _⟩) (v := ?_) rfl (by kernel_rfl) (by kernel_rfl) (by kernel_rfl) (fun _ _ _ h => h) (Or.inl ⟨by rfl, ?_⟩) (by assumption) ?_
        rotate_left
        · intro wS hSw
          go_simp; (try with_reducible rfl)
        (try simp only [Act.put])
        (try simp only [List.setIfInBounds_toArray])
        (try simp only [List.set_cons_succ])
        (try simp only [List.set_cons_zero])
        refine wpAnyH_take (i := 8) (oi := ⟨_, _, _, _, _, _⟩) (v := ?_) rfl (by kernel_rfl) (by kernel_rfl) (by kernel_rfl) (fun _ _ _ h => h) (Or.inl ⟨by rfl, ?_⟩) (by assumption) ?_
        rotate_left
        · intro wS hSw
          go_simp; (try with_reducible rfl)
        (try simp only [Act.put])
        (try simp only [List.setIfInBounds_toArray])
        (try simp only [List.set_cons_succ])
        (try simp only [List.set_cons_zero])
        refine wpAnyH_take (i := 9) (oi := ⟨_, _, _, _, _, _⟩) (v := ?_) rfl (by kernel_rfl) (by kernel_rfl) (by kernel_rfl) (fun _ _ _ h => h) (Or.inl ⟨by rfl, ?_⟩) (by assumption) ?_
        rotate_left
        · intro wS hSw
          go_simp; (try with_reducible rfl)
        (try simp only [Act.put])
        (try simp only [List.setIfInBounds_toArray])
        (try simp only [List.set_cons_succ])
        (try simp only [List.set_cons_zero])
        refine wpAnyH_take (i := 10) (oi := ⟨_, _, _, _, _, _⟩) (v := .agg (coA c0.st c0.tg (.slice a0 n0 k0))) rfl (by kernel_rfl) (by kernel_rfl) (by kernel_rfl) (fun _ _ _ h => h) (Or.inl ⟨by rfl, fun wS hSw => ?_⟩) (by assumption) ?_
        · exact exec_ldB 123 _ ⟨_, _, _, _, _, Tryd.isAgg123, Tryd.sizeOf123, rfl, hSw, ceA_ld0 _ _ _ _ _ _ _ _ _⟩
        (try simp only [Act.put])
        (try simp only [List.setIfInBounds_toArray])
        (try simp only [List.set_cons_succ])
        (try simp only [List.set_cons_zero])
        refine wpAnyH_ready (rs := [11]) (by kernel_rfl) (by simp) ?_
        refine AllReadyH.cons (o := ⟨_, _, _, _, _, _⟩) rfl (fun K' hK' => ?_) AllReadyH.nil
        refine (if_pos (by rfl)).mpr ?_
        go_simp
        refine (hpk _).mono ?_
        rintro e w1 ⟨rfl, hb1⟩
        have B1 := tr_bl hb1 hS0
        have hb := hbd.trans (hb1.mono hbd.size)
        refine hK'.out _ _ B1 (fun _ => ?_)
        clear hK' hb1 hbd hS0 hpk
        (try simp only [Act.put])
        (try simp only [List.setIfInBounds_toArray])
        (try simp only [List.set_cons_succ])
        (try simp only [List.set_cons_zero])
        refine wpAnyH_take (i := 12) (oi := ⟨_, _, _, _, _, _⟩) (v := ?_) rfl (by kernel_rfl) (by kernel_rfl) (by kernel_rfl) (fun _ _ _ h => h) (Or.inl ⟨by rfl, ?_⟩) (by assumption) ?_
        rotate_left
        · intro wS hSw
          go_simp; (try with_reducible rfl)
        (try simp only [Act.put])
        (try simp only [List.setIfInBounds_toArray])
        (try simp only [List.set_cons_succ])
        (try simp only [List.set_cons_zero])
        refine wpAnyH_done (by kernel_rfl) ?_ _
        refine HK.out _ _ ?_
        clear HK
        refine wp_seq_k (fun K hK => ?_)
        have HK2 := Lib.hid hK
        clear hK
        refine wp_seq_k (fun K hK => ?_)
        have HK := Lib.hid hK
        clear hK
        go_wp2_with (first
          | ((with_reducible refine wpList_ldB 124 _ ?_); refine ⟨rfl, _, ⟨_, _, _, _, _, Tryd.isAgg124, Tryd.sizeOf124, rfl, ‹_›, ceA_ldp _ _ _ _ _ _ _ _ _⟩, ?_⟩)
          | ((first | (with_reducible refine wpList_stNew 124 _ _ ?_) | (with_reducible refine wp_stNew 124 _ _ ?_)); refine ⟨_, _, ⟨Tryd.sizeOf124, rfl, cpA_new _ _ _ _ _ _ _ _ _ _⟩, rfl, ?_⟩))
        refine HK.out _ _ ?_
        clear HK
        have P2 := heap_alloc_new w1 (Obj.cells (cpA c0.st c0.tg (.slice a0 n0 k0) c1.st c1.tg (.slice a1 n1 k1)) 124)
        have hb2 := hb.alloc hb.size (Obj.cells (cpA c0.st c0.tg (.slice a0 n0 k0) c1.st c1.tg (.slice a1 n1 k1)) 124)
        generalize w1.alloc (Obj.cells (cpA c0.st c0.tg (.slice a0 n0 k0) c1.st c1.tg (.slice a1 n1 k1)) 124) = w2 at *
        generalize w1.heap.size = p at *
        have p0 := cpA_0 P2
        have p7 := cpA_7 P2
        clear P2
        go_wp2
        go_ret3
        exact ⟨rfl, hb2⟩
      case neg =>
        have e2 : ((c0.st : Int) == 0) = false := by rw [beq_eq_false_iff_ne]; omega
        by_cases h3 : c1.st = 0
        case pos =>
          rw [if_pos (.inr h3)]
          have e3 : ((c1.st : Int) == 0) = true := by rw [beq_iff_eq]; omega
          clear h2 h3
          go_enter Tryd.func61, Tryd.ntmps61
          refine wp_seq_k (fun K hK => ?_)
          have HK := Lib.hid hK
          clear hK
          go_wp2
          refine HK.out _ _ ?_
          clear HK
          refine wp_seq_k (fun K hK => ?_)
          have HK := Lib.hid hK
          clear hK
          go_wp2_with fail
          have hbd := (Below.refl w.heap.size w).drew
          refine wp_region_held_drew (S := fun w' => w'.heap[q]? = some (.cells (ceA g rep reg c0.st c0.tg (.slice a0 n0 k0) c1.st c1.tg (.slice a1 n1 k1)) 126 (0, 0))) (by kernel_rfl) (tr_bl hbd hB) (fun hS0 => ?_)
          generalize w.drew = x0 at *
          refine wpAnyH_take (i := 0) (oi := ⟨_, _, _, _, _, _⟩) (v := ?_) rfl (by kernel_rfl) (by kernel_rfl) (by kernel_rfl) (fun _ _ _ h => h) (Or.inl ⟨by rfl, ?_⟩) (by assumption) ?_
          rotate_left
          · intro wS hSw
            go_simp; (try with_reducible rfl)
          (try simp only [Act.put])
          (try simp only [List.setIfInBounds_toArray])
          (try simp only [List.set_cons_succ])
          (try simp only [List.set_cons_zero])
          refine wpAnyH_take (i := 1) (oi := ⟨_, _, _, _, _, _⟩) (v := ?_) rfl (by kernel_rfl) (by kernel_rfl) (by kernel_rfl) (fun _ _ _ h => h) (Or.inl ⟨by rfl, ?_⟩) (by assumption) ?_
          rotate_left
          · intro wS hSw
            go_simp; (try with_reducible rfl)
          (try simp only [Act.put])
          (try simp only [List.setIfInBounds_toArray])
          (try simp only [List.set_cons_succ])
          (try simp only [List.set_cons_zero])
          refine wpAnyH_take (i := 2) (oi := ⟨_, _, _, _, _, _⟩) (v := ?_) rfl (by kernel_rfl) (by kernel_rfl) (by kernel_rfl) (fun _ _ _ h => h) (Or.inl ⟨by rfl, ?_⟩) (by assumption) ?_
          rotate_left
          · intro wS hSw
            go_simp; (try with_reducible rfl)
          (try simp only [Act.put])
          (try simp only [List.setIfInBounds_toArray])
          (try simp only [List.set_cons_succ])
          (try simp only [List.set_cons_zero])
          refine wpAnyH_take (i := 3) (oi := ⟨_, _, _, _, _, _⟩) (v := ?_) rfl (by kernel_rfl) (by kernel_rfl) (by kernel_rfl) (fun _ _ _ h => h) (Or.inl ⟨by rfl, ?_⟩) (by assumption) ?_
          rotate_left
          · intro wS hSw
            go_simp; (try with_reducible rfl)
          (try simp only [Act.put])
          (try simp only [List.setIfInBounds_toArray])
          (try simp only [List.set_cons_succ])
          (try simp only [List.set_cons_zero])
          refine wpAnyH_take (i := 4) (oi := ⟨_, _, _, _, _, _⟩) (v := .agg (coA c1.st c1.tg (.slice a1 n1 k1))) rfl (by kernel_rfl) (by kernel_rfl) (by kernel_rfl) (fun _ _ _ h => h) (Or.inl ⟨by rfl, fun wS hSw => ?_⟩) (by assumption) ?_
          · exact exec_ldB 123 _ ⟨_, _, _, _, _, Tryd.isAgg123, Tryd.sizeOf123, rfl, hSw, ceA_ld1 _ _ _ _ _ _ _ _ _⟩
          (try simp only [Act.put])
          (try simp only [List.setIfInBounds_toArray])
          (try simp only [List.set_cons_succ])
          (try simp only [List.set_cons_zero])
          refine wpAnyH_take (i := 5) (oi := ⟨_, _, _, _, _, _⟩) (v := ?_) rfl (by kernel_rfl) (by kernel_rfl) (by kernel_rfl) (fun _ _ _ h => h) (Or.inl ⟨by rfl, ?_⟩) (by assumption) ?_
          rotate_left
          · intro wS hSw
            go_simp; (try with_reducible rfl)
          (try simp only [Act.put])
          (try simp only [List.setIfInBounds_toArray])
          (try simp only [List.set_cons_succ])
          (try simp only [List.set_cons_zero])
          refine wpAnyH_take (i := 6) (oi := ⟨_, _, _, _, _, _⟩) (v := ?_) rfl (by kernel_rfl) (by kernel_rfl) (by kernel_rfl) (fun _ _ _ h => h) (Or.inl ⟨by rfl, ?_⟩) (by assumption) ?_
          rotate_left
          · intro wS hSw
            go_simp; (try with_reducible rfl)
          (try simp only [Act.put])
          (try simp only [List.setIfInBounds_toArray])
          (try simp only [List.set_cons_succ])
          (try simp only [List.set_cons_zero])
          refine wpAnyH_take (i := 7) (oi := ⟨_, _, _, _, _, _⟩) (v := ?_) rfl (by kernel_rfl) (by kernel_rfl) (by kernel_rfl) (fun _ _ _ h => h) (Or.inl ⟨by rfl, ?_⟩) (by assumption) ?_
          rotate_left
          · intro wS hSw
            go_simp; (try with_reducible rfl)
          (try simp only [Act.put])
          (try simp only [List.setIfInBounds_toArray])
          (try simp only [List.set_cons_succ])
          (try simp only [List.set_cons_zero])
          refine wpAnyH_take (i := 8) (oi := ⟨_, _, _, _, _, _⟩) (v := ?_) rfl (by kernel_rfl) (by kernel_rfl) (by kernel_rfl) (fun _ _ _ h => h) (Or.inl ⟨by rfl, ?_⟩) (by assumption) ?_
          rotate_left
          · intro wS hSw
            go_simp; (try with_reducible rfl)
          (try simp only [Act.put])
          (try simp only [List.setIfInBounds_toArray])
          (try simp only [List.set_cons_succ])
          (try simp only [List.set_cons_zero])
          refine wpAnyH_take (i := 9) (oi := ⟨_, _, _, _, _, _⟩) (v := ?_) rfl (by kernel_rfl) (by kernel_rfl) (by kernel_rfl) (fun _ _ _ h => h) (Or.inl ⟨by rfl, ?_⟩) (by assumption) ?_
          rotate_left
          · intro wS hSw
            go_simp; (try with_reducible rfl)
          (try simp only [Act.put])
          (try simp only [List.setIfInBounds_toArray])
          (try simp only [List.set_cons_succ])
          (try simp only [List.set_cons_zero])
          refine wpAnyH_take (i := 10) (oi := ⟨_, _, _, _, _, _⟩) (v := .agg (coA c0.st c0.tg (.slice a0 n0 k0))) rfl (by kernel_rfl) (by kernel_rfl) (by kernel_rfl) (fun _ _ _ h => h) (Or.inl ⟨by rfl, fun wS hSw => ?_⟩) (by assumption) ?_
          · exact exec_ldB 123 _ ⟨_, _, _, _, _, Tryd.isAgg123, Tryd.sizeOf123, rfl, hSw, ceA_ld0 _ _ _ _ _ _ _ _ _⟩
          (try simp only [Act.put])
          (try simp only [List.setIfInBounds_toArray])
          (try simp only [List.set_cons_succ])
          (try simp only [List.set_cons_zero])
          refine wpAnyH_ready (rs := [11]) (by kernel_rfl) (by simp) ?_
          refine AllReadyH.cons (o := ⟨_, _, _, _, _, _⟩) rfl (fun K' hK' => ?_) AllReadyH.nil
          refine (if_pos (by rfl)).mpr ?_
          go_simp
          refine (hpk _).mono ?_
          rintro e w1 ⟨rfl, hb1⟩
          have B1 := tr_bl hb1 hS0
          have hb := hbd.trans (hb1.mono hbd.size)
          refine hK'.out _ _ B1 (fun _ => ?_)
          clear hK' hb1 hbd hS0 hpk
          (try simp only [Act.put])
          (try simp only [List.setIfInBounds_toArray])
          (try simp only [List.set_cons_succ])
          (try simp only [List.set_cons_zero])
          refine wpAnyH_take (i := 12) (oi := ⟨_, _, _, _, _, _⟩) (v := ?_) rfl (by kernel_rfl) (by kernel_rfl) (by kernel_rfl) (fun _ _ _ h => h) (Or.inl ⟨by rfl, ?_⟩) (by assumption) ?_
          rotate_left
          · intro wS hSw
            go_simp; (try with_reducible rfl)
          (try simp only [Act.put])
          (try simp only [List.setIfInBounds_toArray])
          (try simp only [List.set_cons_succ])
          (try simp only [List.set_cons_zero])
          refine wpAnyH_done (by kernel_rfl) ?_ _
          refine HK.out _ _ ?_
          clear HK
          refine wp_seq_k (fun K hK => ?_)
          have HK2 := Lib.hid hK
          clear hK
          refine wp_seq_k (fun K hK => ?_)
          have HK := Lib.hid hK
          clear hK
          go_wp2_with (first
            | ((with_reducible refine wpList_ldB 124 _ ?_); refine ⟨rfl, _, ⟨_, _, _, _, _, Tryd.isAgg124, Tryd.sizeOf124, rfl, ‹_›, ceA_ldp _ _ _ _ _ _ _ _ _⟩, ?_⟩)
            | ((first | (with_reducible refine wpList_stNew 124 _ _ ?_) | (with_reducible refine wp_stNew 124 _ _ ?_)); refine ⟨_, _, ⟨Tryd.sizeOf124, rfl, cpA_new _ _ _ _ _ _ _ _ _ _⟩, rfl, ?_⟩))
          refine HK.out _ _ ?_
          clear HK
          have P2 := heap_alloc_new w1 (Obj.cells (cpA c0.st c0.tg (.slice a0 n0 k0) c1.st c1.tg (.slice a1 n1 k1)) 124)
          have hb2 := hb.alloc hb.size (Obj.cells (cpA c0.st c0.tg (.slice a0 n0 k0) c1.st c1.tg (.slice a1 n1 k1)) 124)
          generalize w1.alloc (Obj.cells (cpA c0.st c0.tg (.slice a0 n0 k0) c1.st c1.tg (.slice a1 n1 k1)) 124) = w2 at *
          generalize w1.heap.size = p at *
          have p0 := cpA_0 P2
          have p7 := cpA_7 P2
          clear P2
          go_wp2
          go_ret3
          exact ⟨rfl, hb2⟩
        case neg =>
          rw [if_neg (by rintro (h | h) <;> contradiction)]
          have e3 : ((c1.st : Int) == 0) = false := by rw [beq_eq_false_iff_ne]; omega
          clear h2 h3
          go_enter Tryd.func61, Tryd.ntmps61
          refine wp_seq_k (fun K hK => ?_)
          have HK := Lib.hid hK
          clear hK
          go_wp2
          refine HK.out _ _ ?_
          clear HK
          refine wp_seq_k (fun K hK => ?_)
          have HK := Lib.hid hK
          clear hK
          go_wp2_with fail
          have hbd := (Below.refl w.heap.size w).drew
          refine wp_region_held_drew (S := fun w' => w'.heap[q]? = some (.cells (ceA g rep reg c0.st c0.tg (.slice a0 n0 k0) c1.st c1.tg (.slice a1 n1 k1)) 126 (0, 0))) (by kernel_rfl) (tr_bl hbd hB) (fun hS0 => ?_)
          generalize w.drew = x0 at *
          refine wpAnyH_take (i := 0) (oi := ⟨_, _, _, _, _, _⟩) (v := ?_) rfl (by kernel_rfl) (by kernel_rfl) (by kernel_rfl) (fun _ _ _ h => h) (Or.inl ⟨by rfl, ?_⟩) (by assumption) ?_
          rotate_left
          · intro wS hSw
            go_simp; (try with_reducible rfl)
          (try simp only [Act.put])
          (try simp only [List.setIfInBounds_toArray])
          (try simp only [List.set_cons_succ])
          (try simp only [List.set_cons_zero])
          refine wpAnyH_take (i := 1) (oi := ⟨_, _, _, _, _, _⟩) (v := ?_) rfl (by kernel_rfl) (by kernel_rfl) (by kernel_rfl) (fun _ _ _ h => h) (Or.inl ⟨by rfl, ?_⟩) (by assumption) ?_
          rotate_left
          · intro wS hSw
            go_simp; (try with_reducible rfl)
          (try simp only [Act.put])
          (try simp only [List.setIfInBounds_toArray])
          (try simp only [List.set_cons_succ])
          (try simp only [List.set_cons_zero])
          refine wpAnyH_take (i := 2) (oi := ⟨_, _, _, _, _, _⟩) (v := ?_) rfl (by kernel_rfl) (by kernel_rfl) (by kernel_rfl) (fun _ _ _ h => h) (Or.inl ⟨by rfl, ?_⟩) (by assumption) ?_
          rotate_left
          · intro wS hSw
            go_simp; (try with_reducible rfl)
          (try simp only [Act.put])
          (try simp only [List.setIfInBounds_toArray])
          (try simp only [List.set_cons_succ])
          (try simp only [List.set_cons_zero])
          refine wpAnyH_take (i := 3) (oi := ⟨_, _, _, _, _, _⟩) (v := ?_) rfl (by kernel_rfl) (by kernel_rfl) (by kernel_rfl) (fun _ _ _ h => h) (Or.inl ⟨by rfl, ?_⟩) (by assumption) ?_
          rotate_left
          · intro wS hSw
            go_simp; (try with_reducible rfl)
          (try simp only [Act.put])
          (try simp only [List.setIfInBounds_toArray])
          (try simp only [List.set_cons_succ])
          (try simp only [List.set_cons_zero])
          refine wpAnyH_take (i := 4) (oi := ⟨_, _, _, _, _, _⟩) (v := .agg (coA c1.st c1.tg (.slice a1 n1 k1))) rfl (by kernel_rfl) (by kernel_rfl) (by kernel_rfl) (fun _ _ _ h => h) (Or.inl ⟨by rfl, fun wS hSw => ?_⟩) (by assumption) ?_
          · exact exec_ldB 123 _ ⟨_, _, _, _, _, Tryd.isAgg123, Tryd.sizeOf123, rfl, hSw, ceA_ld1 _ _ _ _ _ _ _ _ _⟩
          (try simp only [Act.put])
          (try simp only [List.setIfInBounds_toArray])
          (try simp only [List.set_cons_succ])
          (try simp only [List.set_cons_zero])
          refine wpAnyH_take (i := 5) (oi := ⟨_, _, _, _, _, _⟩) (v := ?_) rfl (by kernel_rfl) (by kernel_rfl) (by kernel_rfl) (fun _ _ _ h => h) (Or.inl ⟨by rfl, ?_⟩) (by assumption) ?_
          rotate_left
          · intro wS hSw
            go_simp; (try with_reducible rfl)
          (try simp only [Act.put])
          (try simp only [List.setIfInBounds_toArray])
          (try simp only [List.set_cons_succ])
          (try simp only [List.set_cons_zero])
          refine wpAnyH_take (i := 6) (oi := ⟨_, _, _, _, _, _⟩) (v := ?_) rfl (by kernel_rfl) (by kernel_rfl) (by kernel_rfl) (fun _ _ _ h => h) (Or.inl ⟨by rfl, ?_⟩) (by assumption) ?_
          rotate_left
          · intro wS hSw
            go_simp; (try with_reducible rfl)
          (try simp only [Act.put])
          (try simp only [List.setIfInBounds_toArray])
          (try simp only [List.set_cons_succ])
          (try simp only [List.set_cons_zero])
          refine wpAnyH_take (i := 7) (oi := ⟨_, _, _, _, _, _⟩) (v := ?_) rfl (by kernel_rfl) (by kernel_rfl) (by kernel_rfl) (fun _ _ _ h => h) (Or.inl ⟨by rfl, ?_⟩) (by assumption) ?_
          rotate_left
          · intro wS hSw
            go_simp; (try with_reducible rfl)
          (try simp only [Act.put])
          (try simp only [List.setIfInBounds_toArray])
          (try simp only [List.set_cons_succ])
          (try simp only [List.set_cons_zero])
          refine wpAnyH_take (i := 8) (oi := ⟨_, _, _, _, _, _⟩) (v := ?_) rfl (by kernel_rfl) (by kernel_rfl) (by kernel_rfl) (fun _ _ _ h => h) (Or.inl ⟨by rfl, ?_⟩) (by assumption) ?_
          rotate_left
          · intro wS hSw
            go_simp; (try with_reducible rfl)
          (try simp only [Act.put])
          (try simp only [List.setIfInBounds_toArray])
          (try simp only [List.set_cons_succ])
          (try simp only [List.set_cons_zero])
          refine wpAnyH_take (i := 9) (oi := ⟨_, _, _, _, _, _⟩) (v := ?_) rfl (by kernel_rfl) (by kernel_rfl) (by kernel_rfl) (fun _ _ _ h => h) (Or.inl ⟨by rfl, ?_⟩) (by assumption) ?_
          rotate_left
          · intro wS hSw
            go_simp; (try with_reducible rfl)
          (try simp only [Act.put])
          (try simp only [List.setIfInBounds_toArray])
          (try simp only [List.set_cons_succ])
          (try simp only [List.set_cons_zero])
          refine wpAnyH_take (i := 10) (oi := ⟨_, _, _, _, _, _⟩) (v := .agg (coA c0.st c0.tg (.slice a0 n0 k0))) rfl (by kernel_rfl) (by kernel_rfl) (by kernel_rfl) (fun _ _ _ h => h) (Or.inl ⟨by rfl, fun wS hSw => ?_⟩) (by assumption) ?_
          · exact exec_ldB 123 _ ⟨_, _, _, _, _, Tryd.isAgg123, Tryd.sizeOf123, rfl, hSw, ceA_ld0 _ _ _ _ _ _ _ _ _⟩
          (try simp only [Act.put])
          (try simp only [List.setIfInBounds_toArray])
          (try simp only [List.set_cons_succ])
          (try simp only [List.set_cons_zero])
          refine wpAnyH_ready (rs := [11]) (by kernel_rfl) (by simp) ?_
          refine AllReadyH.cons (o := ⟨_, _, _, _, _, _⟩) rfl (fun K' hK' => ?_) AllReadyH.nil
          refine (if_pos (by rfl)).mpr ?_
          go_simp
          refine (hpk _).mono ?_
          rintro e w1 ⟨rfl, hb1⟩
          have B1 := tr_bl hb1 hS0
          have hb := hbd.trans (hb1.mono hbd.size)
          refine hK'.out _ _ B1 (fun _ => ?_)
          clear hK' hb1 hbd hS0 hpk
          (try simp only [Act.put])
          (try simp only [List.setIfInBounds_toArray])
          (try simp only [List.set_cons_succ])
          (try simp only [List.set_cons_zero])
          refine wpAnyH_take (i := 12) (oi := ⟨_, _, _, _, _, _⟩) (v := ?_) rfl (by kernel_rfl) (by kernel_rfl) (by kernel_rfl) (fun _ _ _ h => h) (Or.inl ⟨by rfl, ?_⟩) (by assumption) ?_
          rotate_left
          · intro wS hSw
            go_simp; (try with_reducible rfl)
          (try simp only [Act.put])
          (try simp only [List.setIfInBounds_toArray])
          (try simp only [List.set_cons_succ])
          (try simp only [List.set_cons_zero])
          refine wpAnyH_done (by kernel_rfl) ?_ _
          refine HK.out _ _ ?_
          clear HK
          refine wp_seq_k (fun K hK => ?_)
          have HK2 := Lib.hid hK
          clear hK
          refine wp_seq_k (fun K hK => ?_)
          have HK := Lib.hid hK
          clear hK
          go_wp2_with (first
            | ((with_reducible refine wpList_ldB 124 _ ?_); refine ⟨rfl, _, ⟨_, _, _, _, _, Tryd.isAgg124, Tryd.sizeOf124, rfl, ‹_›, ceA_ldp _ _ _ _ _ _ _ _ _⟩, ?_⟩)
            | ((first | (with_reducible refine wpList_stNew 124 _ _ ?_) | (with_reducible refine wp_stNew 124 _ _ ?_)); refine ⟨_, _, ⟨Tryd.sizeOf124, rfl, cpA_new _ _ _ _ _ _ _ _ _ _⟩, rfl, ?_⟩))
          refine HK.out _ _ ?_
          clear HK
          have P2 := heap_alloc_new w1 (Obj.cells (cpA c0.st c0.tg (.slice a0 n0 k0) c1.st c1.tg (.slice a1 n1 k1)) 124)
          have hb2 := hb.alloc hb.size (Obj.cells (cpA c0.st c0.tg (.slice a0 n0 k0) c1.st c1.tg (.slice a1 n1 k1)) 124)
          generalize w1.alloc (Obj.cells (cpA c0.st c0.tg (.slice a0 n0 k0) c1.st c1.tg (.slice a1 n1 k1)) 124) = w2 at *
          generalize w1.heap.size = p at *
          have p0 := cpA_0 P2
          have p7 := cpA_7 P2
          clear P2
          go_wp2
          refine HK2.out _ _ ?_
          clear HK2
          go_wp2
          go_ret3
          exact ⟨rfl, hb2⟩
end Go.Proofs.YtejjneamngkmoaaDoor

namespace Go.Proofs.YtejjneamngkmoaaDoor

/-- A disk of 156 sectors that is up, with nothing waiting. -/
structure Live (d : Dk) : Prop where
  len : d.pl.length = 156
  w : d.waits = []
  dn : d.down = false
  de : d.dead = false
section
variable {d : Dk} {t : Tg} {body : List UInt8} {k : Nat}
theorem live_at (h : Live d) (hk : k < 156) : liveD d k = 0 := by
  unfold liveD thereD
  rw [h.len, h.dn, h.de]
  simp
  omega
theorem live_0 (h : Live d) : live0 d = 0 := by
  unfold live0 there0
  rw [h.len, h.dn, h.de]
  simp
theorem seal64 (t : Tg) {body : List UInt8} (hb : body.length ≤ 43) : (sealF t body 64).length = 64 := sealF_len (by decide) (by simpa [roomN] using hb)
theorem put_0 (h : Live d) (hl : d.left = 0) (hk : firstN t.reg t.pla = (k : Int)) (hk2 : k < 156) (hb : body.length ≤ 43) : putC d t body = ({ d with dead := true }, 5) := by
  have h1 : spendD d = ({ d with dead := true }, 5) := by unfold spendD; rw [if_pos hl]
  have h2 : writeD d k (sealF t body 64) = ({ d with dead := true }, 5) := by
    unfold writeD
    rw [live_at h hk2, seal64 t hb, h1]
    simp
  unfold putC
  rw [hk, h2]
  simp
theorem write_go {d : Dk} (h : Live d) (hl : d.left ≠ 0) (hk2 : k < 156) (hb : body.length ≤ 43) : writeD d k (sealF t body 64) = ({ d with left := (if 0 < d.left then d.left - 1 else d.left), waits := [(sealF t body 64, k)] }, 0) := by
  unfold writeD
  rw [live_at h hk2, seal64 t hb]
  simp only [ne_eq, not_true, if_false]
  unfold spendD
  rw [if_neg hl]
  split
  · simp [h.w]
  · simp [h.w]
theorem put_1 (h : Live d) (hl : d.left = 1) (hk : firstN t.reg t.pla = (k : Int)) (hk2 : k < 156) (hb : body.length ≤ 43) : putC d t body = ({ d with left := 0, waits := [(sealF t body 64, k)], dead := true }, 5) := by
  unfold putC
  rw [hk, write_go h (by omega) hk2 hb, hl]
  simp only [ne_eq, not_true, if_false]
  unfold flushD
  have : live0 ({ d with left := (if (0 : Int) < 1 then 1 - 1 else 1), waits := [(sealF t body 64, k)] } : Dk) = 0 := by
    unfold live0 there0
    simp [h.len, h.dn, h.de]
  rw [this]
  simp [spendD]
theorem put_n (h : Live d) (h0 : d.left ≠ 0) (h1 : d.left ≠ 1) (hk : firstN t.reg t.pla = (k : Int)) (hk2 : k < 156) (hb : body.length ≤ 43) : putC d t body = ({ d with pl := d.pl.set k ⟨sealF t body 64, sealF t body 64, false⟩, waits := [], left := (if 0 < d.left then d.left - 2 else d.left) }, 0) := by
  unfold putC
  rw [hk, write_go h h0 hk2 hb]
  simp only [ne_eq, not_true, if_false]
  unfold flushD
  have : live0 ({ d with left := (if 0 < d.left then d.left - 1 else d.left), waits := [(sealF t body 64, k)] } : Dk) = 0 := by
    unfold live0 there0
    simp [h.len, h.dn, h.de]
  rw [this]
  unfold spendD
  simp only [ne_eq, not_true, if_false]
  by_cases hl : 0 < d.left
  · have h2 : ¬ d.left - 1 = 0 := by omega
    have h4 : d.left - 1 - 1 = d.left - 2 := by omega
    have h5 : 1 < d.left := by omega
    simp [hl, h2, h4, h5, thruD]
  · simp [hl, h0, thruD]
end

/-- What a place holds: nothing, or a version, its incarnation, a body. -/
abbrev Vo := Option (Int × Int × List UInt8)
def okO : Vo → Prop
  | none => True
  | some (v, i, b) => 1 ≤ v ∧ v ≤ 1099511627776 ∧ 1 ≤ i ∧ i ≤ 1099511627776 ∧ b.length ≤ 43
def frO (reg : Int) (i : Int) : Vo → List UInt8
  | none => zeros64
  | some (v, c, b) => sealF ⟨0, reg, i, v, c⟩ b 64
def verO : Vo → Int
  | none => 0
  | some (v, _, _) => v
def bodO : Vo → List UInt8
  | none => []
  | some (_, _, b) => b
/-- Of a replica's region both places hold frames, or noughts. -/
structure Cel (d : Dk) (reg : Int) (o0 o1 : Vo) : Prop where
  r : reg = 1 ∨ reg = 2
  k0 : okO o0
  k1 : okO o1
  p0 : ∃ m, d.pl[(firstN reg 0).toNat]? = some ⟨frO reg 0 o0, m, false⟩
  p1 : ∃ m, d.pl[(firstN reg 1).toNat]? = some ⟨frO reg 1 o1, m, false⟩
def coO (reg i : Int) : Vo → Cp
  | none => ⟨0, zeroTg, []⟩
  | some (v, c, b) => ⟨1, ⟨0, reg, i, v, c⟩, b⟩
theorem may_cell {reg i v c : Int} (hr : reg = 1 ∨ reg = 2) (hi : i = 0 ∨ i = 1) (h1 : 1 ≤ v) (h2 : v ≤ 1099511627776) (h3 : 1 ≤ c) (h4 : c ≤ 1099511627776) : mayTg ⟨0, reg, i, v, c⟩ = true := by
  have hp : placesN reg = 2 := by rcases hr with rfl | rfl <;> rfl
  have a1 : 0 ≤ i := by omega
  have a2 : i < 2 := by omega
  have a3 : 0 ≤ v := by omega
  simp [mayTg, hp, a1, a2, a3, h2, h3, h4]
theorem mine_fr {reg i : Int} {o : Vo} (hr : reg = 1 ∨ reg = 2) (hi : i = 0 ∨ i = 1) (h : okO o) : mineF (frO reg i o) 0 reg i = ((coO reg i o).st, (coO reg i o).tg, (coO reg i o).body) := by
  match o, h with
  | none, _ => rfl
  | some (v, c, b), ⟨h1, h2, h3, h4, h5⟩ => exact mine_seal (may_cell hr hi h1 h2 h3 h4) (by decide) (by simpa [roomN] using h5)
theorem first_cell {reg i : Int} (hr : reg = 1 ∨ reg = 2) (hi : i = 0 ∨ i = 1) : firstN reg i = (((firstN reg i).toNat : Nat) : Int) ∧ (firstN reg i).toNat < 156 := by
  rcases hr with rfl | rfl <;> rcases hi with rfl | rfl <;> decide
theorem read_cell {d : Dk} {s : Int} {f m : List UInt8} (hs : s = ((s.toNat : Nat) : Int)) (h2 : s.toNat < 156) (h : Live d) (hp : d.pl[s.toNat]? = some ⟨f, m, false⟩) : readD d s = (f, 0) := by
  have hl : liveD d s = 0 := by rw [hs]; exact live_at h h2
  unfold readD
  rw [hl, h.w, hp]
  simp [lastW]
theorem copy_cell {d : Dk} {reg : Int} {o0 o1 : Vo} (h : Live d) (hc : Cel d reg o0 o1) : copyC d 0 reg 0 = coO reg 0 o0 ∧ copyC d 0 reg 1 = coO reg 1 o1 := by
  obtain ⟨m0, e0⟩ := hc.p0
  obtain ⟨m1, e1⟩ := hc.p1
  obtain ⟨a, b⟩ := first_cell hc.r (i := 0) (.inl rfl)
  obtain ⟨a', b'⟩ := first_cell hc.r (i := 1) (.inr rfl)
  constructor
  · unfold copyC
    rw [read_cell a b h e0]
    simp only
    rw [mine_fr hc.r (.inl rfl) hc.k0]
  · unfold copyC
    rw [read_cell a' b' h e1]
    simp only
    rw [mine_fr hc.r (.inr rfl) hc.k1]
theorem open_cell {d : Dk} {reg : Int} (h : Live d) (hr : reg = 1 ∨ reg = 2) : openC d 0 reg = 0 := by
  have hu : upD d = true := by unfold upD; rw [h.len, h.dn, h.de]; rfl
  unfold openC
  rw [h.len, hu]
  rcases hr with rfl | rfl <;> simp

/-- What is loaded: the greater version, the first one of two. -/
def maxO (o0 o1 : Vo) : Vo := if verO o0 < verO o1 then o1 else o0
theorem load_cell {d : Dk} {reg : Int} {o0 o1 : Vo} (h : Live d) (hc : Cel d reg o0 o1) : loadC d 0 reg = (verO (maxO o0 o1), bodO (maxO o0 o1), 0) := by
  obtain ⟨e0, e1⟩ := copy_cell h hc
  unfold loadC
  rw [open_cell h hc.r, e0, e1]
  have k0 := hc.k0
  have k1 := hc.k1
  match o0, o1, k0, k1 with
  | none, none, _, _ => rfl
  | some (v, c, b), none, ⟨h1, _⟩, _ =>
    have : ¬ v < 0 := by omega
    simp [loadedC, overC, coO, pickC, maxO, verO, bodO, this]
  | none, some (v, c, b), _, ⟨h1, _⟩ =>
    have : 0 < v := by omega
    simp [loadedC, overC, coO, pickC, maxO, verO, bodO, this]
  | some (v, c, b), some (v', c', b'), _, _ =>
    by_cases hv : v < v'
    · simp [loadedC, overC, coO, pickC, maxO, verO, bodO, hv]
    · simp [loadedC, overC, coO, pickC, maxO, verO, bodO, hv]
end Go.Proofs.YtejjneamngkmoaaDoor

