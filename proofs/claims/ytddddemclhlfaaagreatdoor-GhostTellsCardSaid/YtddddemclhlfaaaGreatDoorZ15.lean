/- Texts that the claim leans on, part 15: C19, C20, DP, C21, Open, OB, Args, OBB. -/
import Derived.Test.YtddddemclhlfaaaGreatDoorZ1
import Derived.Test.YtddddemclhlfaaaGreatDoorZ2
import Derived.Test.YtddddemclhlfaaaGreatDoorZ3
import Derived.Test.YtddddemclhlfaaaGreatDoorZ4
import Derived.Test.YtddddemclhlfaaaGreatDoorZ5
import Derived.Test.YtddddemclhlfaaaGreatDoorZ6
import Derived.Test.YtddddemclhlfaaaGreatDoorZ7
import Derived.Test.YtddddemclhlfaaaGreatDoorZ8
import Derived.Test.YtddddemclhlfaaaGreatDoorZ9
import Derived.Test.YtddddemclhlfaaaGreatDoorZ10
import Derived.Test.YtddddemclhlfaaaGreatDoorZ11
import Derived.Test.YtddddemclhlfaaaGreatDoorZ12
import Derived.Test.YtddddemclhlfaaaGreatDoorZ13
import Derived.Test.YtddddemclhlfaaaGreatDoorZ14
import Derived.Test.YtddddemclhlfaaaGreatDoorRows
import Derived.WalkKit
import Derived.WalkSpells
import Derived.WalkLawsBesides
import Derived.Handy
import Derived.Deep.QuietTactic
import Derived.BigQuiet
import Derived.Deep.DeepCutAuto
import Derived.Lib.Hide
import Derived.RegionTactic
import Derived.ChangeAlike
import Derived.Laws.ResultCell
import Derived.Outline
import Derived.IntWalk
import Derived.ChangeSlices
import Derived.ProofKit
import Derived.Lib.SmallJoins
import Derived.Deep.Slices
import Derived.Shelf.Abstract
import Derived.Shelf.RegionOpen
import Derived.OwnWalkIn
import Derived.TacticsInMore
import Derived.LoopNIn
import Derived.LoopIn
import Derived.Maps.AppendAt
import Derived.RangeFuncNested
import Derived.RangeFuncBound
import Derived.RangeFuncCalls
import Derived.RangeFuncLeaves
import Derived.RangeFuncBox
import Derived.Laws.MakeOwn
import Derived.Laws.OwnMore
import Derived.Laws.IdiomStrings
import Derived.Laws.BytesArg
import Derived.Laws.BitsAllLaws
import Derived.Lib.SliceRun
import Derived.Great.BuildSlice
import Derived.Great.FillDense
import Derived.Laws.Rows
import Derived.Deep.Quiet
import Derived.Deep.RegionHeld3
import Derived.OpenShut
import Derived.Laws.CopyOwn
import Derived.Laws.CopyRow
import Derived.Laws.NewBlocks
import Derived.Deep.RegionLaw
namespace Go.Proofs.YtddddemclhlfaaaGreatDoor
open Go.RowKit
theorem placeG_imp {d : Dk} {rep reg pla : Int} (h : (placeG d rep reg pla).2.1 = true) : (placeG d rep reg pla).1 = true := by
  unfold placeG at h ⊢
  split at h
  · cases h
  · rename_i h1
    rw [if_neg h1]
    simp only [Bool.and_eq_true] at h
    exact h.1
section
variable {B g : Nat} {q : RQ} {d : Dk} {w w' : World}
set_option maxRecDepth 100000 in
set_option maxHeartbeats 2000000 in
theorem rseen_any (h : RefB B g q d w) (rep : Int) : Calls Tryz.prog 16 #[.pointer (some ⟨g, 0, none⟩), .int .i64 rep] w fun e w' => e = .returned (.tuple #[.bool (seenG d rep).1, .int .i64 (seenG d rep).2]) ∧ Below w.heap.size w w' := by
  have hk := rasked_any h rep 1 0
  unfold seenG
  by_cases ha : askG d rep 1 0 = 0
  case neg =>
    have h2 : askG d rep 1 0 = 2 := by
      unfold askG askN at ha ⊢
      rw [if_neg (by have := h.n0; omega)] at ha ⊢
      split at ha
      · rw [if_pos (by assumption)]
      · exact absurd rfl ha
    rw [decide_eq_false ha] at hk
    rw [if_pos ha, h2]
    clear ha h2
    go_enter Tryz.func16, Tryz.ntmps16
    go_wp2_with (go_at_call 51; refine hk.mono ?_; rintro e w1 ⟨rfl, rfl⟩)
    go_ret2
    exact ⟨rfl, Below.refl _ _⟩
  case pos =>
    rw [decide_eq_true ha] at hk
    rw [if_neg (by simpa using ha)]
    clear ha
    obtain ⟨res, hres⟩ : ∃ res, seenR d rep 5 = res := ⟨_, rfl⟩
    simp only [hres]
    have HRES := Lib.hid hres
    clear hres
    go_enter Tryz.func16, Tryz.ntmps16
    refine wp_seq_k (fun K hK => ?_)
    have HK := Lib.hid hK
    clear hK
    go_wp2
    refine HK.out _ _ ?_
    clear HK
    refine wp_seq_k (fun K hK => ?_)
    have HK := Lib.hid hK
    clear hK
    go_wp2_with (go_at_call 51; refine hk.mono ?_; rintro e w1 ⟨rfl, rfl⟩)
    refine HK.out _ _ ?_
    clear HK
    refine wp_seq_k (fun K hK => ?_)
    have HK := Lib.hid hK
    clear hK hk
    go_wp2
    go_loopw [6] (fun s wr => ∃ r : Nat, r ≤ 5 ∧ s = .int .i64 ((r : Int) + 1) ∧ Hid (seenR d rep r = true) ∧ Below w.heap.size w wr) (fun s _ => 6 - (intOf s).toNat)
    case atStart => exact ⟨0, by omega, rfl, Lib.hid rfl, Below.refl _ _⟩
    case round =>
      obtain ⟨r, hr5, rfl, HSR, hbr⟩ := hrel
      by_cases hlt : r < 5
      case neg =>
        obtain rfl : r = 5 := by omega
        have hres : res = true := by rw [← HRES.out, HSR.out]
        subst hres
        clear hlt
        go_wp2
        refine HK.out _ _ ?_
        clear HK
        go_wp2
        go_ret2
        exact ⟨rfl, hbr⟩
      case pos =>
        have hps := rplaces_any ((r : Int) + 1)
        obtain ⟨N, hN, hN48⟩ : ∃ N : Nat, placesN ((r : Int) + 1) = N ∧ N ≤ 48 := by
          rcases (show r = 0 ∨ r = 1 ∨ r = 2 ∨ r = 3 ∨ r = 4 by omega) with rfl | rfl | rfl | rfl | rfl
          · exact ⟨2, rfl, by omega⟩
          · exact ⟨2, rfl, by omega⟩
          · exact ⟨24, rfl, by omega⟩
          · exact ⟨48, rfl, by omega⟩
          · exact ⟨16, rfl, by omega⟩
        rw [hN] at hps
        have HN := Lib.hid hN
        have HLT := Lib.hid hlt
        clear hN
        refine wp_seq_k (fun K hK => ?_)
        have HK := Lib.hid hK
        clear hK
        go_wp2
        refine HK.out _ _ ?_
        clear HK
        rw [decide_eq_true (show (r : Int) + 1 ≤ 5 by omega)]
        refine wp_seq_k (fun K hK => ?_)
        have HK1 := Lib.hid hK
        clear hK
        refine wp_block ?_
        refine wp_seq_k (fun K hK => ?_)
        have HK := Lib.hid hK
        clear hK
        go_wp2
        refine HK.out _ _ ?_
        clear HK
        go_wp2_with fail
        go_loopw [7] (fun s wr => ∃ p : Nat, p ≤ N ∧ s = .int .i64 (p : Int) ∧ Hid (seenP d rep (r + 1) p = true) ∧ Below w.heap.size w wr) (fun s _ => N - (intOf s).toNat)
        case atStart => exact ⟨0, by omega, rfl, Lib.hid rfl, hbr⟩
        case round =>
          clear hbr
          obtain ⟨p, hpN, rfl, HSP, hbp⟩ := hrel
          by_cases hpl : p < N
          case neg =>
            obtain rfl : p = N := by omega
            have HS2 := Lib.hid (show seenR d rep (r + 1) = true by
              rw [seenR_succ, HSR.out, Bool.true_and, Int.natCast_succ, HN.out]
              exact HSP.out)
            go_wp2_with (go_at_call 56; refine (hps _).mono ?_; rintro e w3 ⟨rfl, rfl⟩)
            (try simp only [Exit.inBlock, Exit.then])
            refine HK1.out _ _ ?_
            go_wp2
            go_roundw
            case rel => exact ⟨r + 1, by omega, by go_num, HS2, hbp⟩
            case measure => simp [intOf]; omega
          case pos =>
            have hpl2 := rplace_any (h.below hbp) rep ((r : Int) + 1) (p : Int)
            have hno := fun hh => seenR_no (d := d) (rep := rep) HLT.out (p := p) (by rw [Int.natCast_succ, HN.out]; simpa using hpl) hh
            have hye := seenP_succ d rep (r + 1) p
            have him := placeG_imp (d := d) (rep := rep) (reg := (r : Int) + 1) (pla := (p : Int))
            rw [HSP.out, Bool.true_and] at hye
            rw [Int.natCast_succ] at hno hye
            obtain ⟨hu, se, er, hpg⟩ : ∃ hu se er, placeG d rep ((r : Int) + 1) (p : Int) = (hu, se, er) := ⟨_, _, _, rfl⟩
            rw [hpg] at hpl2 hno hye him
            clear hpg
            simp only at hpl2 hno hye him
            by_cases heq : hu = se
            case pos =>
              subst heq
              have HYE : Hid (seenP d rep (r + 1) (p + 1) = true) := Lib.hid (by rw [hye]; simp)
              clear hno hye him
              cases hu
              all_goals
                go_wp2_with (first
                  | (go_at_call 56; refine (hps _).mono ?_; rintro e w3 ⟨rfl, rfl⟩)
                  | (go_at_call 14; refine hpl2.mono ?_; rintro e w4 ⟨rfl, hb4⟩))
                go_roundw
                case rel => exact ⟨p + 1, by omega, by go_num, HYE, hbp.trans (hb4.mono hbp.size)⟩
                case measure => simp [intOf]; omega
            case neg =>
              have hres : res = false := by rw [← HRES.out]; exact hno heq
              subst hres
              obtain ⟨rfl, rfl⟩ : hu = true ∧ se = false := by
                cases hu
                · cases se
                  · exact absurd rfl heq
                  · exact absurd (him rfl) (by simp)
                · cases se
                  · exact ⟨rfl, rfl⟩
                  · exact absurd rfl heq
              clear hno hye him heq
              go_wp2_with (first
                | (go_at_call 56; refine (hps _).mono ?_; rintro e w3 ⟨rfl, rfl⟩)
                | (go_at_call 14; refine hpl2.mono ?_; rintro e w4 ⟨rfl, hb4⟩))
              go_ret2
              exact ⟨rfl, hbp.trans (hb4.mono hbp.size)⟩
end
end Go.Proofs.YtddddemclhlfaaaGreatDoor
namespace Go.Proofs.YtddddemclhlfaaaGreatDoor
open Go.RowKit
theorem allM_succ {d : Dk} {a n : Nat} {p : Pl} (hp : d.pl[a + n]? = some p) : allM d a (n + 1) = allM d a n ++ p.meant := by
  have hs := (List.getElem?_eq_some_iff.1 hp).1
  unfold allM
  rw [allG_succ]
  congr 1
  unfold meantD
  rw [if_neg (by rw [there_in2 hs]; simp)]
  simp only [Int.toNat_natCast, getD_pl hp]
section
variable {B g : Nat} {q : RQ} {d : Dk} {w w' : World}
theorem RefB.len_meant (h : RefB B g q d w) {s : Nat} {p : Pl} (hp : d.pl[s]? = some p) : p.meant.length = 64 := (h.ok p (List.mem_of_getElem? hp)).2
theorem rallM_len (h : RefB B g q d w) (a : Nat) : ∀ n, a + n ≤ d.pl.length → (allM d a n).length = 64 * n
  | 0, _ => rfl
  | n + 1, hn => by
    obtain ⟨p, hp⟩ := pl_at (d := d) (s := a + n) (by omega)
    rw [allM_succ hp, List.length_append, rallM_len h a n (by omega), h.len_meant hp]
    omega
set_option maxRecDepth 100000 in
set_option maxHeartbeats 2000000 in
theorem rhonest_any (h : RefB B g q d w) (rep reg pla : Int) : Calls Tryz.prog 18 #[.pointer (some ⟨g, 0, none⟩), .int .i64 rep, .int .i64 reg, .int .i64 pla] w fun e w' => HonRes (honG d rep reg pla) e w' ∧ Below w.heap.size w w' := by
  have hbA := blw w (Obj.cells #[.int .i64 0, .int .i64 0, .int .i64 0, .int .i64 0, .int .i64 0] 33)
  have A0 := heap_alloc_new w (Obj.cells #[.int .i64 0, .int .i64 0, .int .i64 0, .int .i64 0, .int .i64 0] 33)
  have hdA := h.below hbA
  have hk := rasked_any hdA rep reg pla
  by_cases ha : askG d rep reg pla = 0
  case neg =>
    have h2 : askG d rep reg pla = 2 := by
      unfold askG askN at ha ⊢
      rw [if_neg (by have := h.n0; omega)] at ha ⊢
      split at ha
      · rw [if_pos (by assumption)]
      · exact absurd rfl ha
    rw [decide_eq_false ha] at hk
    unfold honG
    rw [if_pos ha, h2]
    clear ha h2 hdA
    go_enter Tryz.func18, Tryz.ntmps18
    refine wp_seq_k (fun K hK => ?_)
    have HK := Lib.hid hK
    clear hK
    go_wp2
    refine HK.out _ _ ?_
    clear HK
    go_wp2_with (first
      | (go_at_call 51; refine hk.mono ?_; rintro e w1 ⟨rfl, rfl⟩)
      | ((with_reducible refine wpList_stB 33 _ _ ?_); refine ⟨_, _, _, ⟨_, _, _, Tryz.sizeOf33, rfl, A0, st5 _ rfl 0 0 0 0 0⟩, ?_⟩; intro w5 B5 g5))
    exact bodyPost_ret (results_t1c1t2 rfl rfl (run_loadVar_all Tryz.isAgg33 Tryz.sizeOf33 B5 rfl)) rfl ⟨⟨none, 0, rfl, slb_nil _⟩, bl_st hbA g5 hbA.size (Nat.le_refl _)⟩
  case pos =>
    rw [decide_eq_true ha] at hk
    obtain ⟨hn, hr0, hr6, hg1, hg5, hp0, hp1, hf0, hf1, hw1, hw2⟩ := ask_first ha
    have hfi := rfirst3_any reg pla
    have hwi := rwide_any reg
    unfold honG
    rw [if_neg (by simpa using ha)]
    obtain ⟨f, hf⟩ : ∃ f : Nat, firstN reg pla = f := ⟨(firstN reg pla).toNat, by omega⟩
    obtain ⟨n, hnn⟩ : ∃ n : Nat, wideN reg = n := ⟨(wideN reg).toNat, by omega⟩
    rw [hf] at hfi hf1 ⊢
    rw [hnn] at hwi hf1 hw2 ⊢
    have hfn : f + n ≤ 156 := by omega
    have hn2 : n ≤ 2 := by omega
    simp only [Int.toNat_natCast]
    have HLL := Lib.hid (rallM_len h f)
    obtain ⟨R, hR⟩ : ∃ R, mineF (allM d f n) rep reg pla = R := ⟨_, rfl⟩
    rw [hR]
    have HR := Lib.hid hR
    obtain ⟨st, tg, body⟩ := R
    clear hR hf hnn ha hf0 hf1 hw1 hw2 hg1 hg5 hp0 hp1 hr0 hr6 h
    go_enter Tryz.func18, Tryz.ntmps18
    refine wp_seq_k (fun K hK => ?_)
    have HK := Lib.hid hK
    clear hK
    go_wp2
    refine HK.out _ _ ?_
    clear HK
    generalize w.alloc (Obj.cells #[.int .i64 0, .int .i64 0, .int .i64 0, .int .i64 0, .int .i64 0] 33) = w0 at *
    obtain ⟨Q, hQ⟩ : ∃ Q, w.heap.size = Q := ⟨_, rfl⟩
    simp only [hQ] at hbA A0 ⊢
    have hQ0 := hbA.size
    rw [hQ] at hQ0
    clear hQ
    refine wp_seq_k (fun K hK => ?_)
    have HK := Lib.hid hK
    clear hK
    go_wp2_with (go_at_call 51; refine hk.mono ?_; rintro e w1 ⟨rfl, rfl⟩)
    refine HK.out _ _ ?_
    clear HK
    refine wp_seq_k (fun K hK => ?_)
    have HK := Lib.hid hK
    clear hK
    go_wp2
    refine HK.out _ _ ?_
    clear HK
    clear hk
    refine wp_seq_k (fun K hK => ?_)
    go_cut [12] (fun vr wx => wx.ownsRow w0.heap.size 5 1 vr (allM d f n).length (bys (allM d f n)) ∧ Below w0.heap.size w0 wx)
    case first =>
      go_wp2
      go_loopw [12, 13] (fun vr t wr => ∃ k : Nat, k ≤ n ∧ t = .int .i64 (k : Int) ∧ wr.ownsRow w0.heap.size 5 1 vr (allM d f k).length (bys (allM d f k)) ∧ Below w0.heap.size w0 wr) (fun _ t _ => n - (intOf t).toNat)
      case atStart => exact ⟨0, by omega, rfl, World.ownsRow_nil _ _ _ _, Below.refl _ _⟩
      case round =>
        obtain ⟨k, hk, rfl, hO, hbr⟩ := hrel
        by_cases hlt : k < n
        case neg =>
          obtain rfl : k = n := by omega
          go_wp2_with (go_at_call 53; refine (hwi _).mono ?_; rintro e w3 ⟨rfl, rfl⟩)
          go_meet
          exact ⟨hO, hbr⟩
        case pos =>
          have hd := hdA.below hbr
          obtain ⟨p, hp⟩ := pl_at (d := d) (s := f + k) (by omega)
          have h64 := hd.len_meant hp
          have hlen := HLL.out k (by omega)
          have hsc := allM_succ hp
          have HSC := Lib.hid hsc
          have hfk : f + k < d.pl.length := by omega
          obtain ⟨bl, bo, hr0⟩ : ∃ x, q.ma[f + k]? = some x ∧ wr.cell? ⟨q.mb, f + k, none⟩ = some (slv x) := hd.ma_at hfk
          have hsx := (hd.ms (f + k) bl p bo hp).slb h64
          unfold slv at hr0
          generalize allM d f k = al at *
          clear hp hsc bo
          refine wp_seq_k (fun K hK => ?_)
          have HK := Lib.hid hK
          clear hK
          go_wp2_with (go_at_call 53; refine (hwi _).mono ?_; rintro e w3 ⟨rfl, rfl⟩)
          refine HK.out _ _ ?_
          clear HK
          refine wp_seq_k (fun K hK => ?_)
          have HK1 := Lib.hid hK
          clear hK
          refine wp_block ?_
          go_wp2_with fail
          have hbd := (Below.refl wr.heap.size wr).drew
          have hO1 := owns_bl hO hbd
          have hbr1 := hbr.trans (hbd.mono hbr.size)
          have hd1 := hd.below hbd
          have hsx1 := hsx.below hbd
          have hr1 : wr.drew.cell? ⟨q.mb, f + k, none⟩ = some (.slice (some ⟨bl.1, 0, none⟩) 64 bl.2) := hr0
          obtain ⟨csm, hcsm, _⟩ := hd1.blk_m
          have HFK := Lib.hid hfk
          have HFI := Lib.hid (show IntKind.i64.wrap ((f : Int) + (k : Int)) = ((f + k : Nat) : Int) by rw [IntKind.wrap_i64]; push_cast; omega)
          refine wp_region_held_drew (S := fun w' => w'.heap[g]? = some (.cells (rkA q d) 95 (0, 0)) ∧ w'.heap[q.mb]? = some (.cells csm 34 (0, 0))) (by kernel_rfl) ⟨hd1.box, hcsm⟩ (fun hS0 => ?_)
          have hcm : ∀ w' : World, w'.heap[q.mb]? = some (.cells csm 34 (0, 0)) → w'.cell? ⟨q.mb, f + k, none⟩ = some (.slice (some ⟨bl.1, 0, none⟩) 64 bl.2) := fun w' hw' => by
            have := hr1
            unfold World.cell? at this ⊢
            simp only [hcsm] at this
            simp only [hw']
            exact this
          clear hO hbr hd hsx hr0 hbd
          generalize wr.drew = x0 at *
          refine wpAnyH_take (i := 0) (oi := ⟨_, _, _, _, _, _⟩) (v := ?_) rfl (by kernel_rfl) (by kernel_rfl) (by kernel_rfl) (fun _ _ _ h => h) (Or.inl ⟨by rfl, ?_⟩) (by assumption) ?_
          rotate_left
          · intro wS hSw; go_simp; (try with_reducible rfl)
          (try simp only [Act.put]); (try simp only [List.setIfInBounds_toArray]); (try simp only [List.set_cons_succ]); (try simp only [List.set_cons_zero])
          refine wpAnyH_take (i := 1) (oi := ⟨_, _, _, _, _, _⟩) (v := ?_) rfl (by kernel_rfl) (by kernel_rfl) (by kernel_rfl) (fun _ _ _ h => h) (Or.inl ⟨by rfl, ?_⟩) (by assumption) ?_
          rotate_left
          · intro wS hSw; go_simp; (try with_reducible rfl)
          (try simp only [Act.put]); (try simp only [List.setIfInBounds_toArray]); (try simp only [List.set_cons_succ]); (try simp only [List.set_cons_zero])
          refine wpAnyH_take (i := 2) (oi := ⟨_, _, _, _, _, _⟩) (v := ?_) rfl (by kernel_rfl) (by kernel_rfl) (by kernel_rfl) (fun _ _ _ h => h) (Or.inl ⟨by rfl, ?_⟩) (by assumption) ?_
          rotate_left
          · intro wS hSw; go_simp; (try with_reducible rfl)
          (try simp only [Act.put]); (try simp only [List.setIfInBounds_toArray]); (try simp only [List.set_cons_succ]); (try simp only [List.set_cons_zero])
          refine wpAnyH_take (i := 3) (oi := ⟨_, _, _, _, _, _⟩) (v := ?_) rfl (by kernel_rfl) (by kernel_rfl) (by kernel_rfl) (fun _ _ _ h => h) (Or.inl ⟨by rfl, ?_⟩) (by assumption) ?_
          rotate_left
          · intro wS hSw; go_simp; (try with_reducible rfl)
          (try simp only [Act.put]); (try simp only [List.setIfInBounds_toArray]); (try simp only [List.set_cons_succ]); (try simp only [List.set_cons_zero])
          refine wpAnyH_take (i := 4) (oi := ⟨_, _, _, _, _, _⟩) (v := ?_) rfl (by kernel_rfl) (by kernel_rfl) (by kernel_rfl) (fun _ _ _ h => h) (Or.inl ⟨by rfl, ?_⟩) (by assumption) ?_
          rotate_left
          · intro wS hSw
            have c := blk_cell hSw.1 1 (.slice (some ⟨q.mb, 0, none⟩) d.pl.length q.mc) rfl; go_simp; (try with_reducible rfl)
          (try simp only [Act.put]); (try simp only [List.setIfInBounds_toArray]); (try simp only [List.set_cons_succ]); (try simp only [List.set_cons_zero])
          refine wpAnyH_take (i := 5) (oi := ⟨_, _, _, _, _, _⟩) (v := ?_) rfl (by kernel_rfl) (by kernel_rfl) (by kernel_rfl) (fun _ _ _ h => h) (Or.inl ⟨by rfl, ?_⟩) (by assumption) ?_
          rotate_left
          · intro wS hSw; go_simp; (try with_reducible rfl)
          (try simp only [Act.put]); (try simp only [List.setIfInBounds_toArray]); (try simp only [List.set_cons_succ]); (try simp only [List.set_cons_zero])
          refine wpAnyH_take (i := 6) (oi := ⟨_, _, _, _, _, _⟩) (v := ?_) rfl (by kernel_rfl) (by kernel_rfl) (by kernel_rfl) (fun _ _ _ h => h) (Or.inl ⟨by rfl, ?_⟩) (by assumption) ?_
          rotate_left
          · intro wS hSw; go_simp; (try with_reducible rfl)
          (try simp only [Act.put]); (try simp only [List.setIfInBounds_toArray]); (try simp only [List.set_cons_succ]); (try simp only [List.set_cons_zero])
          refine wpAnyH_take (i := 8) (oi := ⟨_, _, _, _, _, _⟩) (v := ?_) rfl (by kernel_rfl) (by kernel_rfl) (by kernel_rfl) (fun _ _ _ h => h) (Or.inl ⟨by rfl, ?_⟩) (by assumption) ?_
          rotate_left
          · intro wS hSw; go_simp; (try with_reducible rfl)
          (try simp only [Act.put]); (try simp only [List.setIfInBounds_toArray]); (try simp only [List.set_cons_succ]); (try simp only [List.set_cons_zero])
          refine wpAnyH_ready (rs := [7]) (by kernel_rfl) (by simp) ?_
          refine AllReadyH.cons (o := ⟨_, _, _, _, _, _⟩) rfl (fun K' hK' => ?_) AllReadyH.nil
          refine (if_pos (by rfl)).mpr ?_
          go_simp
          refine (hfi _).mono ?_
          rintro e w3 ⟨rfl, rfl⟩
          refine hK'.out _ _ hS0 (fun _ => ?_)
          clear hK'
          (try simp only [Act.put]); (try simp only [List.setIfInBounds_toArray]); (try simp only [List.set_cons_succ]); (try simp only [List.set_cons_zero])
          refine wpAnyH_take (i := 9) (oi := ⟨_, _, _, _, _, _⟩) (v := .int .i64 ((f + k : Nat) : Int)) rfl (by kernel_rfl) (by kernel_rfl) (by kernel_rfl) (fun _ _ _ h => h) (Or.inl ⟨by rfl, fun wS hSw => ?_⟩) (by assumption) ?_
          · go_simp; rw [HFI.out]; push_cast; rfl
          (try simp only [Act.put]); (try simp only [List.setIfInBounds_toArray]); (try simp only [List.set_cons_succ]); (try simp only [List.set_cons_zero])
          refine wpAnyH_take (i := 10) (oi := ⟨_, _, _, _, _, _⟩) (v := .pointer (some ⟨q.mb, f + k, none⟩)) rfl (by kernel_rfl) (by kernel_rfl) (by kernel_rfl) (fun _ _ _ h => h) (Or.inl ⟨by rfl, fun wS hSw => ?_⟩) (by assumption) ?_
          · go_simp; rw [if_pos ⟨by omega, by have := HFK.out; omega⟩, show ((f : Int) + (k : Int)).toNat = f + k by omega]
          (try simp only [Act.put]); (try simp only [List.setIfInBounds_toArray]); (try simp only [List.set_cons_succ]); (try simp only [List.set_cons_zero])
          refine wpAnyH_take (i := 11) (oi := ⟨_, _, _, _, _, _⟩) (v := ?_) rfl (by kernel_rfl) (by kernel_rfl) (by kernel_rfl) (fun _ _ _ h => h) (Or.inl ⟨by rfl, ?_⟩) (by assumption) ?_
          rotate_left
          · intro wS hSw
            have c := hcm _ hSw.2; go_simp; (try with_reducible rfl)
          (try simp only [Act.put]); (try simp only [List.setIfInBounds_toArray]); (try simp only [List.set_cons_succ]); (try simp only [List.set_cons_zero])
          refine wpAnyH_ready (rs := [12]) (by kernel_rfl) (by simp) ?_
          refine AllReadyH.cons (o := ⟨_, _, _, _, _, _⟩) rfl (fun K' hK' => ?_) AllReadyH.nil
          refine (if_pos (by rfl)).mpr ?_
          refine wp_appN _ _ 34 34 5 5 elByte Tryz.underlying34 rfl w0.heap.size _ al.length (bys al) rfl hO1 ⟨bl.1, 0, none⟩ 64 bl.2 (bys p.meant) rfl (by rw [bys_len, h64]) (fun j u hu => ?_) bys_one (by omega) (by decide) hbr1.size ?_
          · obtain ⟨b2, o2, e2, hc2⟩ := hsx1.row.at (k := 0) (by rw [bys_len]; omega)
            injection e2 with e2
            injection e2 with e2 e3
            subst e2 e3
            rw [addr_add]
            exact hc2 j u hu
          intro v9 w9 ho9 hg9
          rw [← bys_app] at ho9
          have hb9 := hbr1.grown hg9 hbr1.size (fun k e => (hO1.lt k e).1)
          have hS9 : w9.heap[g]? = some (.cells (rkA q d) 95 (0, 0)) ∧ w9.heap[q.mb]? = some (.cells csm 34 (0, 0)) := ⟨tr_gb hg9 hS0.1 (own_ne hO1 hS0.1 (by decide)), tr_gb hg9 hS0.2 (own_ne hO1 hS0.2 (by decide))⟩
          refine hK'.out _ _ hS9 (fun _ => ?_)
          clear hK'
          (try simp only [Act.put]); (try simp only [List.setIfInBounds_toArray]); (try simp only [List.set_cons_succ]); (try simp only [List.set_cons_zero])
          refine wpAnyH_take (i := 13) (oi := ⟨_, _, _, _, _, _⟩) (v := ?_) rfl (by kernel_rfl) (by kernel_rfl) (by kernel_rfl) (fun _ _ _ h => h) (Or.inl ⟨by rfl, ?_⟩) (by assumption) ?_
          rotate_left
          · intro wS hSw; go_simp; (try with_reducible rfl)
          (try simp only [Act.put]); (try simp only [List.setIfInBounds_toArray]); (try simp only [List.set_cons_succ]); (try simp only [List.set_cons_zero])
          refine wpAnyH_done (by kernel_rfl) ?_ _
          (try simp only [Exit.inBlock, Exit.then])
          refine HK1.out _ _ ?_
          go_wp2
          go_roundw
          case rel => exact ⟨k + 1, by omega, by go_num, by rw [HSC.out, List.length_append, h64]; exact ho9, hb9⟩
          case measure => simp [intOf]; omega
    obtain ⟨hO, hbc⟩ := hcut
    refine hK _ _ ?_
    clear hK hwi hfi
    obtain ⟨aa, ac, rfl, hsa⟩ := SlB.of_owns hO
    have hmi := rmine_any aa ac (allM d f n) rep reg pla wc hsa (by have := HLL.out n (by omega); omega)
    rw [HR.out] at hmi
    have A1 := tr_bl hbc A0
    have hb1 := hbA.trans (hbc.mono hQ0)
    have hQ1 := Nat.le_trans hQ0 hbc.size
    generalize allM d f n = al at *
    clear hO hsa hdA hbA hbc A0 HR HLL
    refine wp_seq_k (fun K hK => ?_)
    have HK := Lib.hid hK
    clear hK
    go_wp2_with (first
          | (go_at_call 54; refine hmi.mono ?_; rintro e w8 ⟨⟨a8, c8, rfl, ho8⟩, hb8⟩)
          | ((first | (with_reducible refine wpList_stNew 33 _ _ ?_) | (with_reducible refine wp_stNew 33 _ _ ?_)); refine ⟨_, _, ⟨Tryz.sizeOf33, rfl, tg_new _⟩, rfl, ?_⟩))
    refine HK.out _ _ ?_
    clear HK
    have A8 := tr_al (Obj.cells #[.int .i64 tg.rep, .int .i64 tg.reg, .int .i64 tg.pla, .int .i64 tg.idx, .int .i64 tg.inc] 33) (tr_bl hb8 A1)
    have T8 := heap_alloc_new w8 (Obj.cells #[.int .i64 tg.rep, .int .i64 tg.reg, .int .i64 tg.pla, .int .i64 tg.idx, .int .i64 tg.inc] 33)
    have hq8 := Nat.le_trans hQ1 hb8.size
    have hb9 := (hb1.trans (hb8.mono hQ1)).trans ((blw w8 (Obj.cells #[.int .i64 tg.rep, .int .i64 tg.reg, .int .i64 tg.pla, .int .i64 tg.idx, .int .i64 tg.inc] 33)).mono hq8)
    have ho9 := ho8.below (blw w8 (Obj.cells #[.int .i64 tg.rep, .int .i64 tg.reg, .int .i64 tg.pla, .int .i64 tg.idx, .int .i64 tg.inc] 33))
    have hne : Q ≠ w8.heap.size := by have := lt_blk A1; have := hb8.size; omega
    have hq9 := Nat.le_trans hq8 (blw w8 (Obj.cells #[.int .i64 tg.rep, .int .i64 tg.reg, .int .i64 tg.pla, .int .i64 tg.idx, .int .i64 tg.inc] 33)).size
    clear hb1 hb8 ho8 A1 hmi hQ1 hq8
    generalize w8.alloc (Obj.cells #[.int .i64 tg.rep, .int .i64 tg.reg, .int .i64 tg.pla, .int .i64 tg.idx, .int .i64 tg.inc] 33) = w9 at *
    generalize w8.heap.size = q8 at *
    refine wp_seq_k (fun K hK => ?_)
    have HK := Lib.hid hK
    clear hK
    go_wp2_with fail
    have hbd := (Below.refl w9.heap.size w9).drew
    have F4 := tr_bl hbd A8
    have T11 := tr_bl hbd T8
    have hb14 := hb9.trans (hbd.mono hq9)
    have hq14 : Q ≤ w9.drew.heap.size := hq9
    have ho11 := ho9.below hbd
    clear A8 T8 hb9 ho9
    refine wp_region_held_drew (S := fun w' => w'.heap[q8]? = some (.cells #[.int .i64 tg.rep, .int .i64 tg.reg, .int .i64 tg.pla, .int .i64 tg.idx, .int .i64 tg.inc] 33 (0, 0))) (by kernel_rfl) T11 (fun hS0 => ?_)
    clear hbd
    generalize w9.drew = x0 at *
    refine wpAnyH_take (i := 0) (oi := ⟨_, _, _, _, _, _⟩) (v := ?_) rfl (by kernel_rfl) (by kernel_rfl) (by kernel_rfl) (fun _ _ _ h => h) (Or.inl ⟨by rfl, ?_⟩) (by assumption) ?_
    rotate_left
    · intro wS hSw; go_simp; (try with_reducible rfl)
    (try simp only [Act.put]); (try simp only [List.setIfInBounds_toArray]); (try simp only [List.set_cons_succ]); (try simp only [List.set_cons_zero])
    refine wpAnyH_take (i := 1) (oi := ⟨_, _, _, _, _, _⟩) (v := .agg (#[.int .i64 tg.rep, .int .i64 tg.reg, .int .i64 tg.pla, .int .i64 tg.idx, .int .i64 tg.inc])) rfl (by kernel_rfl) (by kernel_rfl) (by kernel_rfl) (fun _ _ _ h => h) (Or.inl ⟨by rfl, fun wS hSw => ?_⟩) (by assumption) ?_
    · exact exec_ldB 33 _ ⟨_, _, _, _, _, Tryz.isAgg33, Tryz.sizeOf33, rfl, hSw, ld5 _ _ _ _ _⟩
    (try simp only [Act.put]); (try simp only [List.setIfInBounds_toArray]); (try simp only [List.set_cons_succ]); (try simp only [List.set_cons_zero])
    refine wpAnyH_take (i := 2) (oi := ⟨_, _, _, _, _, _⟩) (v := ?_) rfl (by kernel_rfl) (by kernel_rfl) (by kernel_rfl) (fun _ _ _ h => h) (Or.inl ⟨by rfl, ?_⟩) (by assumption) ?_
    rotate_left
    · intro wS hSw; go_simp; (try with_reducible rfl)
    (try simp only [Act.put]); (try simp only [List.setIfInBounds_toArray]); (try simp only [List.set_cons_succ]); (try simp only [List.set_cons_zero])
    refine wpAnyH_take (i := 3) (oi := ⟨_, _, _, _, _, _⟩) (v := ?_) rfl (by kernel_rfl) (by kernel_rfl) (by kernel_rfl) (fun _ _ _ h => h) (Or.inl ⟨by rfl, ?_⟩) (by assumption) ?_
    rotate_left
    · intro wS hSw; go_simp; (try with_reducible rfl)
    (try simp only [Act.put]); (try simp only [List.setIfInBounds_toArray]); (try simp only [List.set_cons_succ]); (try simp only [List.set_cons_zero])
    refine wpAnyH_ready (rs := [4]) (by kernel_rfl) (by simp) ?_
    refine AllReadyH.cons (o := ⟨_, _, _, _, _, _⟩) rfl (fun K' hK' => ?_) AllReadyH.nil
    refine (if_pos (by rfl)).mpr ?_
    refine wp_stB 33 _ _ ?_
    refine ⟨_, _, _, ⟨_, _, _, Tryz.sizeOf33, rfl, F4, st5 _ rfl tg.rep tg.reg tg.pla tg.idx tg.inc⟩, ?_⟩
    intro w11 B11 g11
    refine hK'.out _ _ (tr_st g11 hS0 hne) (fun _ => ?_)
    clear hK'
    (try simp only [Act.put]); (try simp only [List.setIfInBounds_toArray]); (try simp only [List.set_cons_succ]); (try simp only [List.set_cons_zero])
    refine wpAnyH_take (i := 5) (oi := ⟨_, _, _, _, _, _⟩) (v := ?_) rfl (by kernel_rfl) (by kernel_rfl) (by kernel_rfl) (fun _ _ _ h => h) (Or.inl ⟨by rfl, ?_⟩) (by assumption) ?_
    rotate_left
    · intro wS hSw; go_simp; (try with_reducible rfl)
    (try simp only [Act.put]); (try simp only [List.setIfInBounds_toArray]); (try simp only [List.set_cons_succ]); (try simp only [List.set_cons_zero])
    refine wpAnyH_take (i := 6) (oi := ⟨_, _, _, _, _, _⟩) (v := ?_) rfl (by kernel_rfl) (by kernel_rfl) (by kernel_rfl) (fun _ _ _ h => h) (Or.inl ⟨by rfl, ?_⟩) (by assumption) ?_
    rotate_left
    · intro wS hSw; go_simp; (try with_reducible rfl)
    (try simp only [Act.put]); (try simp only [List.setIfInBounds_toArray]); (try simp only [List.set_cons_succ]); (try simp only [List.set_cons_zero])
    refine wpAnyH_done (by kernel_rfl) ?_ _
    refine HK.out _ _ ?_
    clear HK
    go_wp2
    exact bodyPost_ret (results_t1c1t2 rfl rfl (run_loadVar_all Tryz.isAgg33 Tryz.sizeOf33 B11 rfl)) rfl ⟨⟨a8, c8, rfl, (ho11.st g11 F4 (by decide)).slb⟩, bl_st hb14 g11 hq14 (Nat.le_refl _)⟩
end
end Go.Proofs.YtddddemclhlfaaaGreatDoor
namespace Go.Proofs.YtddddemclhlfaaaGreatDoor
open Go.RowKit
theorem Parts.cell {w : World} {b off : Nat} {ls : List Part} (h : Parts w (some ⟨b, off, none⟩) ls) {j : Nat} (hj : j < ls.length) : w.cell? ⟨b, off + j, none⟩ = some (partV ls[j]) := by
  obtain ⟨b', off', e, hc⟩ := h.row.at (k := j) (by simpa using hj)
  cases e
  exact hc j _ (by simp [hj])
theorem Parts.addr {w : World} {a : Option Addr} {ls : List Part} (h : Parts w a ls) (hl : 0 < ls.length) : ∃ b off, a = some ⟨b, off, none⟩ := by
  obtain ⟨b, off, e, _⟩ := h.row.at (k := 0) (by simpa using hl)
  exact ⟨b, off, e⟩
theorem parts_kt {w w' : World} {a : Option Addr} {ls : List Part} (h : Parts w a ls) (hb : Below w.heap.size w w') : Parts w' a ls := ⟨h.row.below0 hb, fun x hx => (h.each x hx).below hb⟩
theorem sl_seven {w : World} {q : Nat} (h : w.heap[q]? = some (.cells #[.int .u8 7] 5 (0, 0))) : SlB w (some ⟨q, 0, none⟩) 1 [7] :=
  ⟨Row.of_block (cs := [.int .u8 7]) h 0 (fun i u hu => by rw [Nat.zero_add]; exact hu), Nat.le_refl _, by unfold maxLen; omega, fun e => by cases e⟩
theorem sl_nil (w : World) : SlB w none 0 [] := ⟨.inl rfl, Nat.le_refl _, by simp, fun _ => rfl⟩
theorem new156 {B : Nat} {w : World} (hB : B ≤ w.heap.size) : Calls Tryz.prog 7 #[.int .i64 156] w fun e w' => (∃ g gp, e = .returned (.tuple #[.pointer (some ⟨g, 0, none⟩), .int .i64 0]) ∧ DiskB B g gp (.slice none 0 0) (newDk 156) w') ∧ Below w.heap.size w w' := new_any 156 (by decide) (by decide) hB
end Go.Proofs.YtddddemclhlfaaaGreatDoor
namespace Go.Proofs.YtddddemclhlfaaaGreatDoor
open Go.RowKit
theorem mine_len (b : List UInt8) (rep reg pla : Int) : (mineF b rep reg pla).2.2.length ≤ b.length := by
  have h : (openF b).2.2.length ≤ b.length := by
    unfold openF
    split
    · simp
    · split
      · simp
      · split
        · simp only [List.length_take, List.length_drop]
          omega
        · simp
  unfold mineF
  split
  · simp
  · exact h
theorem hon_len {B g gp : Nat} {wv : Value} {d : Dk} {w : World} (h : DiskB B g gp wv d w) (rep reg pla : Int) : (honG d rep reg pla).1.2.2.length ≤ 128 := by
  unfold honG
  split
  · simp
  · have h1 := mine_len (allM d (firstN reg pla).toNat (wideN reg).toNat) rep reg pla
    have h2 := allM_len h (firstN reg pla).toNat (wideN reg).toNat
    have h3 := (wideN_le reg).2
    simp only
    omega
set_option maxRecDepth 100000 in
set_option maxHeartbeats 4000000 in
theorem tells_law (a : Option Addr) (cap : Nat) (l : List A6) (rep reg pla : Int) (w : World) (hp : Acts w a l) :
    Calls Tryz.prog 3 #[.slice a l.length cap, .int .i64 rep, .int .i64 reg, .int .i64 pla] w fun e w' => e = .returned (.bool true) ∧ Below w.heap.size w w' := by
  cases hg : gr6 l
  case true =>
    have HG := Lib.hid hg
    clear hg
    go_enter Tryz.func3, Tryz.ntmps3
    go_wp2_with (go_at_call 6; refine (lgreat_any a cap l _ hp).mono ?_; rintro e w2 ⟨rfl, hb2⟩; rw [HG.out])
    go_ret
    exact ⟨rfl, hb2⟩
  case false =>
  obtain ⟨hl60, hl6⟩ := gr6_no hg
  have HG := Lib.hid hg
  have HL6 := Lib.hid hl6
  clear hg hl6
  go_enter Tryz.func3, Tryz.ntmps3
  refine wp_seq_k (fun K hK => ?_)
  have HK := Lib.hid hK
  clear hK
  go_wp2
  refine HK.out _ _ ?_
  clear HK
  refine wp_seq_k (fun K hK => ?_)
  have HK := Lib.hid hK
  clear hK
  go_wp2_with (go_at_call 6; refine (lgreat_any a cap l _ hp).mono ?_; rintro e w2 ⟨rfl, hb2⟩; rw [HG.out])
  refine HK.out _ _ ?_
  clear HK
  refine wp_seq_k (fun K hK => ?_)
  have HK := Lib.hid hK
  clear hK
  go_wp2_with (go_at_call 7; refine (new156 (B := w.heap.size) hb2.size).mono ?_; rintro e w3 ⟨⟨g, gp, rfl, D3⟩, hb3⟩)
  refine HK.out _ _ ?_
  clear HK
  have hb3b := hb2.trans (hb3.mono hb2.size)
  refine wp_seq_k (fun K hK => ?_)
  have HK := Lib.hid hK
  clear hK
  go_wp2_with (go_at_call 8; refine (rnew_any 156 (by decide) (by decide) w3).mono ?_; rintro e w4 ⟨g2, rfl, ⟨q2, R4⟩, hb4⟩)
  refine HK.out _ _ ?_
  clear HK
  have hb4b := hb3b.trans (hb4.mono hb3b.size)
  have D4 := D3.below hb4
  have R5 := R4.mono hb3b.size
  have hs4 := hb4b.size
  clear D3 R4 hb2 hb3 hb3b hb4
  refine wp_seq_k (fun K hK => ?_)
  have HK := Lib.hid hK
  clear hK
  go_wp2
  refine HK.out _ _ ?_
  clear HK
  refine wp_seq_k (fun K hK => ?_)
  go_cut [] (fun wx => ∃ (d : Dk) (wv : Value) (q : RQ), DiskB w.heap.size g gp wv d wx ∧ RefB w.heap.size g2 q d wx ∧ Hid (d.pl.length = 156) ∧ Below w.heap.size w wx)
  case first =>
    go_wp2
    go_loopw [13] (fun i wr => ∃ (j : Nat) (d : Dk) (wv : Value) (q : RQ), j ≤ l.length ∧ i = .int .i64 (j : Nat) ∧ DiskB w.heap.size g gp wv d wr ∧ RefB w.heap.size g2 q d wr ∧ Wk d (2 * j) ∧ Below w.heap.size w wr) (fun i _ => l.length - (intOf i).toNat)
    case atStart => exact ⟨0, _, _, _, by omega, rfl, D4, R5, new_wk 0, hb4b⟩
    case round =>
      clear D4 R5 hs4 hb4b
      obtain ⟨j, d, wv, q, hj, rfl, D, R, hwk, hbr⟩ := hrel
      by_cases hlt : j < l.length
      case neg =>
        have HL := Lib.hid hwk.len
        go_wp2
        go_meet
        exact ⟨d, wv, q, D, R, HL, hbr⟩
      case pos =>
        obtain ⟨b, off, rfl, hc, hi⟩ := (hp.below hbr).each j hlt
        have hx := HL6.out _ (List.getElem_mem hlt)
        have HI : ∀ w', Below w.heap.size w w' → A6in w' l[j] := fun w' hk => by
          obtain ⟨_, _, _, _, h⟩ := (hp.below hk).each j hlt
          exact h
        have HC : ∀ w', Below w.heap.size w w' → ∀ r u, (a6L l[j])[r]? = some u → w'.cell? ⟨b, off + j * 12 + r, none⟩ = some u := fun w' hk => by
          obtain ⟨_, _, e, h, _⟩ := (hp.below hk).each j hlt
          cases e
          exact h
        generalize l[j] = x at *
        have hcA : ∀ r u, (a6A x)[r]? = some u → wr.cell? ⟨b, off + j * 12 + r, none⟩ = some u := fun r u hu => hc r u (by simpa [a6A] using hu)
        have hdo := ldo_any D hbr.size x (fun w' hk => HI w' (hbr.trans hk.bl)) hx (by have := hwk.wt; omega)
        have W5 := do6_wk hwk x
        have hwt := hwk.wt
        clear hc hi hwk
        refine wp_seq_k (fun K hK => ?_)
        have HK := Lib.hid hK
        clear hK
        go_wp2
        refine HK.out _ _ ?_
        clear HK
        refine wp_seq_k (fun K hK => ?_)
        have HK1 := Lib.hid hK
        clear hK
        refine wp_block ?_
        refine wp_seq_k (fun K hK => ?_)
        have HK := Lib.hid hK
        clear hK
        go_wp2_with (first
                  | ((with_reducible refine wpList_ldC 39 _ ?_); refine ⟨rfl, _, ⟨_, _, _, Tryz.isAgg39, Tryz.sizeOf39, rfl, (show (a6A x).size = 12 from rfl), hcA⟩, ?_⟩)
                  | (go_at_call 9; refine hdo.mono ?_; rintro e w5 ⟨⟨v5, rfl⟩, ⟨wv5, D5⟩, hk5⟩))
        refine HK.out _ _ ?_
        clear HK
        have R5 := R.kt hk5
        have hb5 := hbr.trans hk5.bl
        clear D R hk5 hdo hcA hbr
        have hcB : ∀ r u, (a6A x)[r]? = some u → w5.cell? ⟨b, off + j * 12 + r, none⟩ = some u := fun r u hu => HC _ hb5 r u (by simpa [a6A] using hu)
        have hsm := same6_any R5 hb5.size x (fun w' hk => HI w' (hb5.trans hk.bl)) hx (by omega)
        go_wp2_with (first
          | ((with_reducible refine wpList_ldC 39 _ ?_); refine ⟨rfl, _, ⟨_, _, _, Tryz.isAgg39, Tryz.sizeOf39, rfl, (show (a6A x).size = 12 from rfl), hcB⟩, ?_⟩)
          | (go_at_call 10; refine hsm.mono ?_; rintro e w6 ⟨⟨v6, rfl⟩, ⟨q6, R6⟩, hk6⟩))
        (try simp only [Exit.inBlock, Exit.then])
        refine HK1.out _ _ ?_
        go_wp2
        go_roundw
        case rel => exact ⟨j + 1, _, _, _, by omega, by go_num, D5.kx hk6, R6, W5, hb5.trans hk6.bl⟩
        case measure => simp [intOf]; omega
  clear D4 R5 hb4b hs4
  obtain ⟨d, wv, q, D, R, HL, hbc⟩ := hcut
  refine hK _ _ ?_
  clear hK
  obtain ⟨L, hL⟩ : ∃ L, hurtsL d 0 d.pl.length = L := ⟨_, rfl⟩
  have hh1 := hurt_any D
  have hl1 := hurtsL_len d 0 d.pl.length
  rw [hL] at hh1 hl1
  have hlL : L.length ≤ 156 := by have := HL.out; omega
  refine wp_seq_k (fun K hK => ?_)
  have HK := Lib.hid hK
  clear hK
  go_wp2_with fail
  go_at_call 11
  refine hh1.mono ?_
  rintro e w5 ⟨⟨a5, c5, rfl, r5⟩, hb5⟩
  have D5 := D.below hb5
  have R5 := R.below hb5
  have hb6 := hbc.trans (hb5.mono hbc.size)
  have hh2 := rhurts_any R5
  rw [hL] at hh2
  clear D R hbc hb5 hh1 hL hl1
  go_wp2_with fail
  go_at_call 12
  refine hh2.mono ?_
  rintro e w6 ⟨⟨a6, c6, rfl, r6⟩, hb7⟩
  have D6 := D5.below hb7
  have R6 := R5.below hb7
  have r5b := r5.below0 hb7
  have hb8 := hb6.trans (hb7.mono hb6.size)
  clear D5 R5 r5 hb6 hb7 hh2
  go_wp2
  refine HK.out _ _ ?_
  clear HK
  refine wp_seq_k (fun K hK => ?_)
  have HK := Lib.hid hK
  clear hK
  go_wp2
  refine HK.out _ _ ?_
  clear HK
  refine wp_seq_k (fun K hK => ?_)
  go_cut [] (fun wx => Below w6.heap.size w6 wx)
  case first =>
    go_wp2
    go_loopw [16] (fun i wr => ∃ k : Nat, k ≤ L.length ∧ i = .int .i64 (k : Int) ∧ Below w6.heap.size w6 wr) (fun i _ => L.length - (intOf i).toNat)
    case atStart => exact ⟨0, by omega, rfl, Below.refl _ _⟩
    case round =>
      obtain ⟨k, hk, rfl, hbr⟩ := hrel
      by_cases hlt : k < L.length
      case neg =>
        go_wp2
        go_meet
        exact hbr
      case pos =>
        obtain ⟨b1, o1, rfl, h1⟩ := (r5b.below0 hbr).at (k := k) (by simp; omega)
        obtain ⟨b2, o2, rfl, h2⟩ := (r6.below0 hbr).at (k := k) (by simp; omega)
        have e1 := h1 k (.int .i64 L[k]) (by simp [hlt])
        have e2 := h2 k (.int .i64 L[k]) (by simp [hlt])
        generalize L[k] = y at *
        clear h1 h2
        go_wp2
        go_big_quiet (fail)
        go_wp2
        go_roundw
        case rel => exact ⟨k + 1, by omega, by go_num, below_drewN hbr _⟩
        case measure => simp [intOf]; omega
  have D7 := D6.below hcut
  have R7 := R6.below hcut
  have hb9 := hb8.trans (hcut.mono hb8.size)
  refine hK _ _ ?_
  clear hK D6 R6 r5b r6 hb8 hcut
  have hp1 := place_any D7 rep reg pla
  have hB7 := hb9.size
  obtain ⟨⟨hu, se, er⟩, hPe⟩ : ∃ r, placeG d rep reg pla = r := ⟨_, rfl⟩
  obtain ⟨⟨al, es⟩, hSe⟩ : ∃ r, seenG d rep = r := ⟨_, rfl⟩
  obtain ⟨⟨⟨st, tg, body⟩, eh⟩, hHe⟩ : ∃ r, honG d rep reg pla = r := ⟨_, rfl⟩
  have hbl0 := hon_len D7 rep reg pla
  rw [hHe] at hbl0
  have hbl : body.length ≤ 1000000 := by simp only at hbl0; omega
  clear hbl0
  rw [hPe] at hp1
  refine wp_seq_k (fun K hK => ?_)
  have HK := Lib.hid hK
  clear hK
  go_wp2_with (go_at_call 13; refine hp1.mono ?_; rintro e w8 ⟨rfl, hb10⟩)
  refine HK.out _ _ ?_
  clear HK
  have D8 := D7.below hb10
  have R8 := R7.below hb10
  have hb11 := hb9.trans (hb10.mono hb9.size)
  have hp2 := rplace_any R8 rep reg pla
  rw [hPe] at hp2
  clear D7 R7 hb9 hb10 hp1
  refine wp_seq_k (fun K hK => ?_)
  have HK := Lib.hid hK
  clear hK
  go_wp2_with (go_at_call 14; refine hp2.mono ?_; rintro e w9 ⟨rfl, hb12⟩)
  refine HK.out _ _ ?_
  clear HK
  have D9 := D8.below hb12
  have R9 := R8.below hb12
  have hb13 := hb11.trans (hb12.mono hb11.size)
  have hs1 := seen_any D9 rep
  rw [hSe] at hs1
  clear D8 R8 hb11 hb12 hp2
  refine wp_seq_k (fun K hK => ?_)
  have HK := Lib.hid hK
  clear hK
  go_wp2_with (go_at_call 15; refine hs1.mono ?_; rintro e w10 ⟨rfl, hb14⟩)
  refine HK.out _ _ ?_
  clear HK
  have D10 := D9.below hb14
  have R10 := R9.below hb14
  have hb15 := hb13.trans (hb14.mono hb13.size)
  have hs2 := rseen_any R10 rep
  rw [hSe] at hs2
  clear D9 R9 hb13 hb14 hs1
  refine wp_seq_k (fun K hK => ?_)
  have HK := Lib.hid hK
  clear hK
  go_wp2_with (go_at_call 16; refine hs2.mono ?_; rintro e w11 ⟨rfl, hb16⟩)
  refine HK.out _ _ ?_
  clear HK
  have D11 := D10.below hb16
  have R11 := R10.below hb16
  have hb17 := hb15.trans (hb16.mono hb15.size)
  have hh1 := honest_any D11 rep reg pla
  rw [hHe] at hh1
  clear D10 R10 hb15 hb16 hs2
  refine wp_seq_k (fun K hK => ?_)
  have HK := Lib.hid hK
  clear hK
  go_wp2_with (first
      | (go_at_call 17; refine hh1.mono ?_; rintro e w12 ⟨⟨a12, c12, rfl, s12⟩, hb18⟩)
      | ((first | (with_reducible refine wpList_stNew 33 _ _ ?_) | (with_reducible refine wp_stNew 33 _ _ ?_)); refine ⟨_, _, ⟨Tryz.sizeOf33, rfl, tg_new _⟩, rfl, ?_⟩))
  refine HK.out _ _ ?_
  clear HK
  have R12 := (R11.below hb18).below (blw w12 (Obj.cells #[.int .i64 tg.rep, .int .i64 tg.reg, .int .i64 tg.pla, .int .i64 tg.idx, .int .i64 tg.inc] 33))
  have s13 := s12.below (blw w12 (Obj.cells #[.int .i64 tg.rep, .int .i64 tg.reg, .int .i64 tg.pla, .int .i64 tg.idx, .int .i64 tg.inc] 33))
  have T13 := heap_alloc_new w12 (Obj.cells #[.int .i64 tg.rep, .int .i64 tg.reg, .int .i64 tg.pla, .int .i64 tg.idx, .int .i64 tg.inc] 33)
  have hb19 := hb17.trans (hb18.mono hb17.size)
  have hb20 := hb19.trans ((blw w12 (Obj.cells #[.int .i64 tg.rep, .int .i64 tg.reg, .int .i64 tg.pla, .int .i64 tg.idx, .int .i64 tg.inc] 33)).mono hb19.size)
  have hh2 := rhonest_any R12 rep reg pla
  rw [hHe] at hh2
  clear D11 R11 hb17 hb18 hh1 s12 hb19
  generalize w12.alloc (Obj.cells #[.int .i64 tg.rep, .int .i64 tg.reg, .int .i64 tg.pla, .int .i64 tg.idx, .int .i64 tg.inc] 33) = w13 at *
  generalize w12.heap.size = q13 at *
  refine wp_seq_k (fun K hK => ?_)
  have HK := Lib.hid hK
  clear hK
  go_wp2_with (first
      | (go_at_call 18; refine hh2.mono ?_; rintro e w14 ⟨⟨a14, c14, rfl, s14⟩, hb21⟩)
      | ((first | (with_reducible refine wpList_stNew 33 _ _ ?_) | (with_reducible refine wp_stNew 33 _ _ ?_)); refine ⟨_, _, ⟨Tryz.sizeOf33, rfl, tg_new _⟩, rfl, ?_⟩))
  refine HK.out _ _ ?_
  clear HK
  have s15 := (s13.below hb21).below (blw w14 (Obj.cells #[.int .i64 tg.rep, .int .i64 tg.reg, .int .i64 tg.pla, .int .i64 tg.idx, .int .i64 tg.inc] 33))
  have s16 := s14.below (blw w14 (Obj.cells #[.int .i64 tg.rep, .int .i64 tg.reg, .int .i64 tg.pla, .int .i64 tg.idx, .int .i64 tg.inc] 33))
  have T15 := tr_al (Obj.cells #[.int .i64 tg.rep, .int .i64 tg.reg, .int .i64 tg.pla, .int .i64 tg.idx, .int .i64 tg.inc] 33) (tr_bl hb21 T13)
  have T16 := heap_alloc_new w14 (Obj.cells #[.int .i64 tg.rep, .int .i64 tg.reg, .int .i64 tg.pla, .int .i64 tg.idx, .int .i64 tg.inc] 33)
  have hb22 := hb20.trans (hb21.mono hb20.size)
  have hb23 := hb22.trans ((blw w14 (Obj.cells #[.int .i64 tg.rep, .int .i64 tg.reg, .int .i64 tg.pla, .int .i64 tg.idx, .int .i64 tg.inc] 33)).mono hb22.size)
  clear R12 s13 s14 T13 hb20 hb21 hb22 hh2
  generalize w14.alloc (Obj.cells #[.int .i64 tg.rep, .int .i64 tg.reg, .int .i64 tg.pla, .int .i64 tg.idx, .int .i64 tg.inc] 33) = w15 at *
  generalize w14.heap.size = q15 at *
  have hsm := rsame_any a12 a14 c12 c14 body body w15 s15.row s16.row hbl
  rw [decide_eq_true rfl] at hsm
  have t0 := blk_cell T15 0 (.int .i64 tg.rep) rfl
  have t1 := blk_cell T15 1 (.int .i64 tg.reg) rfl
  have t2 := blk_cell T15 2 (.int .i64 tg.pla) rfl
  have t3 := blk_cell T15 3 (.int .i64 tg.idx) rfl
  have t4 := blk_cell T15 4 (.int .i64 tg.inc) rfl
  have u0 := blk_cell T16 0 (.int .i64 tg.rep) rfl
  have u1 := blk_cell T16 1 (.int .i64 tg.reg) rfl
  have u2 := blk_cell T16 2 (.int .i64 tg.pla) rfl
  have u3 := blk_cell T16 3 (.int .i64 tg.idx) rfl
  have u4 := blk_cell T16 4 (.int .i64 tg.inc) rfl
  clear T15 T16 s15 s16 hPe hSe hHe
  go_wp2_with (go_at_call 19; refine hsm.mono ?_; rintro e w16 ⟨rfl, hb24⟩)
  go_ret
  exact ⟨rfl, hb23.trans (hb24.mono hb23.size)⟩
end Go.Proofs.YtddddemclhlfaaaGreatDoor
namespace Go.Proofs.YtddddemclhlfaaaGreatDoor
open Go.ChangeShapes Go.WideShapes Go.ChangeAt Go.RowKit
variable {H : Type} {enc : TypeId × Value → H} {P : Program}
theorem open_row_ints {W : World} {base : Nat} {sp : Nat → Bool} {hd : Bool} {b0 : Nat} {t e : TypeId} {k : IntKind} {v : Value} {d : DataW H} {p : List MemPlace}
    (ht : P.underlying t = some (.slice e)) (he : P.underlying e = some (.int k)) (hc : P.cellsOf e = 1) (hv : Value.okWide P W .any base t v) (h : DataW.Trod enc P W b0 sp hd t v d p) :
    ∃ (a : Option Addr) (l : List Int) (cap : Nat), v = .slice a l.length cap ∧ Row W a (l.map (Value.int k)) ∧ l.length ≤ cap ∧ cap ≤ maxLen ∧ ∀ n ∈ l, (Lit.int k n).wf = true := by
  obtain ⟨a0, len, cap, rfl⟩ := okWide_slice ht hv
  obtain ⟨fuel, hf⟩ := h
  rcases open_ints ht he hc hf with ⟨hcs, hx⟩ | ⟨a, len', cap', zs, hcs, _, hl, hm, hz, hx, hcell, hwz⟩
  · simp [Value.cells] at hcs
    obtain ⟨rfl, rfl, rfl⟩ := hcs
    exact ⟨none, [], 0, rfl, .inl rfl, Nat.le_refl _, by simp, by simp⟩
  · simp [Value.cells] at hcs
    obtain ⟨rfl, rfl, rfl⟩ := hcs
    have hlen : len ≤ zs.length := by rw [hz]; split <;> omega
    refine ⟨some a, zs.take len, cap, by simp; omega, ?_, by simp; omega, hm, fun n hn => hwz n (List.mem_of_mem_take hn)⟩
    by_cases h0 : len = 0
    · left; simp [h0]
    · right
      obtain ⟨b, off, rfl, hc'⟩ := ints_at hcell (by omega)
      refine ⟨b, off, rfl, fun i u hu => ?_⟩
      have hi := (List.getElem?_eq_some_iff.1 hu).1
      simp only [List.length_map, List.length_take] at hi
      rw [hc' i (by omega)]
      simp only [List.getElem?_map, List.getElem?_take_of_lt (show i < len by omega), Option.map_eq_some_iff] at hu
      obtain ⟨z, hz2, rfl⟩ := hu
      rw [List.getD_eq_getElem?_getD, hz2]
      rfl
end Go.Proofs.YtddddemclhlfaaaGreatDoor
namespace Go.Proofs.YtddddemclhlfaaaGreatDoor
open Go.ChangeShapes Go.WideShapes Go.ChangeAt Go.RowKit
theorem cellsU8 : Tryz.prog.cellsOf 5 = 1 := by kernel_rfl
set_option maxRecDepth 100000 in
theorem open_bytes {H : Type} {enc : TypeId × Value → H} {W : World} {base : Nat} {sp : Nat → Bool} {hd : Bool} {b0 : Nat} {v : Value} {d : DataW H} {p : List MemPlace}
    (hv : Value.okWide Tryz.prog W .any base 34 v) (h : DataW.Trod enc Tryz.prog W b0 sp hd 34 v d p) : ∃ (a : Option Addr) (l : List UInt8) (cap : Nat), v = .slice a l.length cap ∧ SlB W a cap l := by
  obtain ⟨a, l, cap, rfl, hr, hl, hc, hw⟩ := open_row_ints Tryz.underlying34 Tryz.underlying5 cellsU8 hv h
  have hnil : a = none → cap = 0 := by
    rintro rfl
    obtain ⟨fuel, hf⟩ := h
    rcases open_ints Tryz.underlying34 Tryz.underlying5 cellsU8 hf with ⟨hcs, hx⟩ | ⟨a, len', cap', zs, hcs, _⟩
    · simp [Value.cells] at hcs
      exact hcs.2
    · simp [Value.cells] at hcs
  have hb : ∀ n ∈ l, 0 ≤ n ∧ n < 256 := fun n hn => by
    have h1 := hw n hn
    have m0 : IntKind.u8.min = 0 := by decide
    have m1 : IntKind.u8.max = 255 := by decide
    replace h1 : (decide (IntKind.u8.min ≤ n) && decide (n ≤ IntKind.u8.max)) = true := h1
    rw [m0, m1, Bool.and_eq_true, decide_eq_true_eq, decide_eq_true_eq] at h1
    omega
  refine ⟨a, l.map (fun n => UInt8.ofNat n.toNat), cap, by simp, ?_, by simpa using hl, hc, hnil⟩
  have e : bys (l.map (fun n => UInt8.ofNat n.toNat)) = l.map (Value.int .u8) := by
    unfold bys
    rw [List.map_map]
    refine List.map_congr_left fun n hn => ?_
    have := hb n hn
    simp only [Function.comp, byv]
    rw [show ((UInt8.ofNat n.toNat).toNat : Int) = n by rw [UInt8.toNat_ofNat']; omega]
  rw [e]
  exact hr
theorem open_u8 {H : Type} {enc : TypeId × Value → H} {W : World} {sp : Nat → Bool} {hd : Bool} {b0 : Nat} {v : Value} {d : DataW H} {p : List MemPlace} (hv : ∃ x, v = .int .u8 x)
    (h : DataW.Trod enc Tryz.prog W b0 sp hd 5 v d p) : ∃ x : UInt8, v = .int .u8 x.toNat := by
  obtain ⟨y, rfl⟩ := hv
  obtain ⟨fuel, hf⟩ := h
  obtain ⟨n, q, hw, h1⟩ := DataW.trod_int Tryz.underlying5 hf
  simp [Value.cells] at q
  subst q
  have m0 : IntKind.u8.min = 0 := by decide
  have m1 : IntKind.u8.max = 255 := by decide
  replace h1 : (decide (IntKind.u8.min ≤ y) && decide (y ≤ IntKind.u8.max)) = true := h1
  rw [m0, m1, Bool.and_eq_true, decide_eq_true_eq, decide_eq_true_eq] at h1
  exact ⟨UInt8.ofNat y.toNat, by rw [show ((UInt8.ofNat y.toNat).toNat : Int) = y by rw [UInt8.toNat_ofNat']; omega]⟩
end Go.Proofs.YtddddemclhlfaaaGreatDoor
namespace Go.Proofs.YtddddemclhlfaaaGreatDoor
open Go.ChangeShapes Go.WideShapes Go.ChangeAt Go.RowKit
section
variable {H : Type} {enc : TypeId × Value → H} {P : Program} {w : World} {base : Nat} {spare : Nat → Bool} {held : Bool}
theorem trodAll_4 {t0 t1 t2 t3 : TypeId} {args : Array Value} {ds : List (DataW H)} {ps : List MemPlace} (h : DataW.TrodAll enc P w base spare held [t0, t1, t2, t3] args.toList ds ps) :
    ∃ v0 v1 v2 v3 d0 d1 d2 d3 p0 p1 p2 p3, args = #[v0, v1, v2, v3] ∧ ds = [d0, d1, d2, d3] ∧ ps = p0 ++ p1 ++ p2 ++ p3 ∧ DataW.Trod enc P w base spare held t0 v0 d0 p0 ∧ DataW.Trod enc P w base spare held t1 v1 d1 p1 ∧ DataW.Trod enc P w base spare held t2 v2 d2 p2 ∧ DataW.Trod enc P w base spare held t3 v3 d3 p3 := by
  obtain ⟨v0, vs0, d0, e0, p0, q0, hargs, rfl, rfl, h0, r0⟩ := trodAll_cons h
  obtain ⟨v1, vs1, d1, e1, p1, q1, rfl, rfl, rfl, h1, r1⟩ := trodAll_cons r0
  obtain ⟨v2, vs2, d2, e2, p2, q2, rfl, rfl, rfl, h2, r2⟩ := trodAll_cons r1
  obtain ⟨v3, vs3, d3, e3, p3, q3, rfl, rfl, rfl, h3, r3⟩ := trodAll_cons r2
  obtain ⟨rfl, rfl, rfl⟩ := trodAll_nil r3
  exact ⟨v0, v1, v2, v3, d0, d1, d2, d3, p0, p1, p2, p3, by cases args; simp_all, rfl, by simp, h0, h1, h2, h3⟩
theorem trodAll_5 {t0 t1 t2 t3 t4 : TypeId} {args : Array Value} {ds : List (DataW H)} {ps : List MemPlace} (h : DataW.TrodAll enc P w base spare held [t0, t1, t2, t3, t4] args.toList ds ps) :
    ∃ v0 v1 v2 v3 v4 d0 d1 d2 d3 d4 p0 p1 p2 p3 p4, args = #[v0, v1, v2, v3, v4] ∧ ds = [d0, d1, d2, d3, d4] ∧ ps = p0 ++ p1 ++ p2 ++ p3 ++ p4 ∧ DataW.Trod enc P w base spare held t0 v0 d0 p0 ∧ DataW.Trod enc P w base spare held t1 v1 d1 p1 ∧ DataW.Trod enc P w base spare held t2 v2 d2 p2 ∧ DataW.Trod enc P w base spare held t3 v3 d3 p3 ∧ DataW.Trod enc P w base spare held t4 v4 d4 p4 := by
  obtain ⟨v0, vs0, d0, e0, p0, q0, hargs, rfl, rfl, h0, r0⟩ := trodAll_cons h
  obtain ⟨v1, vs1, d1, e1, p1, q1, rfl, rfl, rfl, h1, r1⟩ := trodAll_cons r0
  obtain ⟨v2, vs2, d2, e2, p2, q2, rfl, rfl, rfl, h2, r2⟩ := trodAll_cons r1
  obtain ⟨v3, vs3, d3, e3, p3, q3, rfl, rfl, rfl, h3, r3⟩ := trodAll_cons r2
  obtain ⟨v4, vs4, d4, e4, p4, q4, rfl, rfl, rfl, h4, r4⟩ := trodAll_cons r3
  obtain ⟨rfl, rfl, rfl⟩ := trodAll_nil r4
  exact ⟨v0, v1, v2, v3, v4, d0, d1, d2, d3, d4, p0, p1, p2, p3, p4, by cases args; simp_all, rfl, by simp, h0, h1, h2, h3, h4⟩
theorem trodAll_6 {t0 t1 t2 t3 t4 t5 : TypeId} {args : Array Value} {ds : List (DataW H)} {ps : List MemPlace} (h : DataW.TrodAll enc P w base spare held [t0, t1, t2, t3, t4, t5] args.toList ds ps) :
    ∃ v0 v1 v2 v3 v4 v5 d0 d1 d2 d3 d4 d5 p0 p1 p2 p3 p4 p5, args = #[v0, v1, v2, v3, v4, v5] ∧ ds = [d0, d1, d2, d3, d4, d5] ∧ ps = p0 ++ p1 ++ p2 ++ p3 ++ p4 ++ p5 ∧ DataW.Trod enc P w base spare held t0 v0 d0 p0 ∧ DataW.Trod enc P w base spare held t1 v1 d1 p1 ∧ DataW.Trod enc P w base spare held t2 v2 d2 p2 ∧ DataW.Trod enc P w base spare held t3 v3 d3 p3 ∧ DataW.Trod enc P w base spare held t4 v4 d4 p4 ∧ DataW.Trod enc P w base spare held t5 v5 d5 p5 := by
  obtain ⟨v0, vs0, d0, e0, p0, q0, hargs, rfl, rfl, h0, r0⟩ := trodAll_cons h
  obtain ⟨v1, vs1, d1, e1, p1, q1, rfl, rfl, rfl, h1, r1⟩ := trodAll_cons r0
  obtain ⟨v2, vs2, d2, e2, p2, q2, rfl, rfl, rfl, h2, r2⟩ := trodAll_cons r1
  obtain ⟨v3, vs3, d3, e3, p3, q3, rfl, rfl, rfl, h3, r3⟩ := trodAll_cons r2
  obtain ⟨v4, vs4, d4, e4, p4, q4, rfl, rfl, rfl, h4, r4⟩ := trodAll_cons r3
  obtain ⟨v5, vs5, d5, e5, p5, q5, rfl, rfl, rfl, h5, r5⟩ := trodAll_cons r4
  obtain ⟨rfl, rfl, rfl⟩ := trodAll_nil r5
  exact ⟨v0, v1, v2, v3, v4, v5, d0, d1, d2, d3, d4, d5, p0, p1, p2, p3, p4, p5, by cases args; simp_all, rfl, by simp, h0, h1, h2, h3, h4, h5⟩
end
end Go.Proofs.YtddddemclhlfaaaGreatDoor
namespace Go.Proofs.YtddddemclhlfaaaGreatDoor
open Go.ChangeShapes Go.WideShapes Go.ChangeAt Go.RowKit
section
variable {H : Type} {enc : TypeId × Value → H} {P : Program} {w : World} {base : Nat} {spare : Nat → Bool} {held : Bool}
theorem trodAll_2 {t t' : TypeId} {args : Array Value} {ds : List (DataW H)} {ps : List MemPlace} (h : DataW.TrodAll enc P w base spare held [t, t'] args.toList ds ps) :
    ∃ v v' d d' p p', args = #[v, v'] ∧ ds = [d, d'] ∧ ps = p ++ p' ∧ DataW.Trod enc P w base spare held t v d p ∧ DataW.Trod enc P w base spare held t' v' d' p' := by
  obtain ⟨v, vs, d, ds', p, q, hargs, rfl, rfl, hd, hrest⟩ := trodAll_cons h
  obtain ⟨v', vs', d', ds'', p', q', rfl, rfl, rfl, hd', hrest'⟩ := trodAll_cons hrest
  obtain ⟨rfl, rfl, rfl⟩ := trodAll_nil hrest'
  exact ⟨v, v', d, d', p, p', by cases args; simp_all, rfl, by simp, hd, hd'⟩
end
set_option maxRecDepth 100000 in
theorem bytes_of {H : Type} {enc : TypeId × Value → H} {W : World} {b0 : Nat} {sp : Nat → Bool} {hd : Bool} {fuel : Nat} {v : Value} {x : DataW H × List MemPlace} (h : DataW.trod enc Tryz.prog W b0 sp hd fuel 34 [v] = some x) :
    ∃ (a : Option Addr) (cap : Nat) (l : List UInt8), v = .slice a l.length cap ∧ SlB W a cap l := by
  rcases open_ints Tryz.underlying34 Tryz.underlying5 cellsU8 h with ⟨hcs, hx⟩ | ⟨a, len, cap, zs, hcs, _, hl, hm, hz, hx, hcell, hwz⟩
  · simp only [List.cons.injEq, and_true] at hcs
    subst hcs
    exact ⟨none, 0, [], rfl, ⟨.inl rfl, Nat.le_refl _, by simp, fun _ => rfl⟩⟩
  · simp only [List.cons.injEq, and_true] at hcs
    subst hcs
    have hlen : len ≤ zs.length := by rw [hz]; split <;> omega
    have hb : ∀ n ∈ zs, 0 ≤ n ∧ n < 256 := fun n hn => by
      have h1 := hwz n hn
      have m0 : IntKind.u8.min = 0 := by decide
      have m1 : IntKind.u8.max = 255 := by decide
      replace h1 : (decide (IntKind.u8.min ≤ n) && decide (n ≤ IntKind.u8.max)) = true := h1
      rw [m0, m1, Bool.and_eq_true, decide_eq_true_eq, decide_eq_true_eq] at h1
      omega
    refine ⟨some a, cap, (zs.take len).map (fun n => UInt8.ofNat n.toNat), by simp; omega, ⟨?_, by simp; omega, hm, fun e => by cases e⟩⟩
    by_cases h0 : len = 0
    · left; simp [h0, bys]
    · right
      obtain ⟨b, off, rfl, hc'⟩ := ints_at hcell (by omega)
      refine ⟨b, off, rfl, fun i u hu => ?_⟩
      have hi := (List.getElem?_eq_some_iff.1 hu).1
      simp only [bys_len, List.length_map, List.length_take] at hi
      rw [hc' i (by omega)]
      unfold bys at hu
      simp only [List.getElem?_map, List.getElem?_take_of_lt (show i < len by omega), Option.map_eq_some_iff] at hu
      obtain ⟨y, ⟨z, hz2, rfl⟩, rfl⟩ := hu
      rw [List.getD_eq_getElem?_getD, hz2]
      have := hb z (List.mem_of_getElem? hz2)
      unfold byv
      rw [show ((UInt8.ofNat z.toNat).toNat : Int) = z by rw [UInt8.toNat_ofNat']; omega]
      rfl
theorem cellsSl : Tryz.prog.cellsOf 34 = 1 := by kernel_rfl
set_option maxRecDepth 100000 in
theorem open_parts {H : Type} {enc : TypeId × Value → H} {W : World} {base : Nat} {sp : Nat → Bool} {hd : Bool} {b0 : Nat} {v : Value} {d : DataW H} {p : List MemPlace}
    (hv : Value.okWide Tryz.prog W .any base 92 v) (h : DataW.Trod enc Tryz.prog W b0 sp hd 92 v d p) : ∃ (a : Option Addr) (ls : List Part) (cap : Nat), v = .slice a ls.length cap ∧ Parts W a ls := by
  obtain ⟨a0, len, cap, rfl⟩ := okWide_slice Tryz.underlying92 hv
  obtain ⟨fuel, hf⟩ := h
  rcases Go.Deep.open_slice1 Tryz.underlying92 cellsSl hf with ⟨hcs, hx⟩ | ⟨a, len', cap', m, n, V, D, Pl, hcs, _, hl, hm, hmm, hx, hel⟩
  · simp [Value.cells] at hcs
    obtain ⟨rfl, rfl, rfl⟩ := hcs
    exact ⟨none, [], 0, rfl, ⟨.inl rfl, fun x hx => by cases hx⟩⟩
  · simp [Value.cells] at hcs
    obtain ⟨rfl, rfl, rfl⟩ := hcs
    have hlm : len ≤ m := by rw [hmm]; split <;> omega
    have hex : ∀ i, i < len → ∃ y : Part, W.cell? (a.add i) = some (partV y) ∧ SlB W y.1 y.2.1 y.2.2 := by
      intro i hi
      obtain ⟨hc, ht⟩ := hel i (by omega)
      obtain ⟨ya, yc, yl, e, hs⟩ := bytes_of ht
      exact ⟨(ya, yc, yl), by rw [hc, e]; rfl, hs⟩
    have : Inhabited Part := ⟨(none, 0, [])⟩
    obtain ⟨f, hf2⟩ := Go.Deep.choose_lt hex
    refine ⟨some a, (List.range len).map f, cap, by simp, ⟨?_, fun x hx => ?_⟩⟩
    · by_cases h0 : len = 0
      · left
        subst h0
        rfl
      · right
        obtain ⟨b, off, spot⟩ := a
        have hspot : spot = none := by
          have := World.cell?_spot (hf2 0 (by omega)).1
          simpa [Addr.add] using this
        subst hspot
        refine ⟨b, off, rfl, fun i u hu => ?_⟩
        have hi := (List.getElem?_eq_some_iff.1 hu).1
        simp only [List.length_map, List.length_range] at hi
        have := (hf2 i hi).1
        rw [addr_add] at this
        rw [this]
        simp only [List.map_map, List.getElem?_map, List.getElem?_range hi, Option.map_some, Function.comp] at hu
        exact hu
    · simp only [List.mem_map, List.mem_range] at hx
      obtain ⟨i, hi, rfl⟩ := hx
      exact (hf2 i hi).2
end Go.Proofs.YtddddemclhlfaaaGreatDoor
