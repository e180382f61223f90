/- Texts that the claim leans on, part 18: A4, Open, OB. -/
import Derived.Test.YtknchbhobopkeaaGreatDoorZ1
import Derived.Test.YtknchbhobopkeaaGreatDoorZ2
import Derived.Test.YtknchbhobopkeaaGreatDoorZ3
import Derived.Test.YtknchbhobopkeaaGreatDoorZ4
import Derived.Test.YtknchbhobopkeaaGreatDoorZ5
import Derived.Test.YtknchbhobopkeaaGreatDoorZ6
import Derived.Test.YtknchbhobopkeaaGreatDoorZ7
import Derived.Test.YtknchbhobopkeaaGreatDoorZ8
import Derived.Test.YtknchbhobopkeaaGreatDoorZ9
import Derived.Test.YtknchbhobopkeaaGreatDoorZ10
import Derived.Test.YtknchbhobopkeaaGreatDoorZ11
import Derived.Test.YtknchbhobopkeaaGreatDoorZ12
import Derived.Test.YtknchbhobopkeaaGreatDoorZ13
import Derived.Test.YtknchbhobopkeaaGreatDoorZ14
import Derived.Test.YtknchbhobopkeaaGreatDoorZ15
import Derived.Test.YtknchbhobopkeaaGreatDoorZ16
import Derived.Test.YtknchbhobopkeaaGreatDoorZ17
import Derived.Test.YtknchbhobopkeaaGreatDoorRows
import Derived.WalkKit
import Derived.WalkSpells
import Derived.WalkLawsBesides
import Derived.Handy
import Derived.Deep.QuietTactic
import Derived.BigQuiet
import Derived.Deep.DeepCutAuto
import Derived.Lib.Hide
import Derived.RegionTactic
import Derived.ChangeAlike
import Derived.Laws.ResultCell
import Derived.Outline
import Derived.IntWalk
import Derived.ChangeSlices
import Derived.ProofKit
import Derived.Lib.SmallJoins
import Derived.Shelf.Abstract
import Derived.Shelf.RegionOpen
import Derived.OwnWalkIn
import Derived.TacticsInMore
import Derived.LoopNIn
import Derived.LoopIn
import Derived.Maps.AppendAt
import Derived.Maps.OwnIn
import Derived.RangeFuncNested
import Derived.RangeFuncBound
import Derived.RangeFuncCalls
import Derived.RangeFuncLeaves
import Derived.RangeFuncBox
import Derived.RangeFuncRecord
import Derived.Laws.IdiomStrings
import Derived.Laws.BytesArg
import Derived.Laws.MakeOwn
import Derived.Lib.SliceRun
import Derived.Laws.BitsAllLaws
import Derived.Great.BuildSlice
import Derived.Great.FillDense
import Derived.Laws.Rows
import Derived.Deep.Quiet
import Derived.Deep.RegionHeld3
import Derived.Lib.AppendStr
import Derived.OpenShut
import Derived.Laws.Strings
import Derived.Laws.CopyOwn
import Derived.Laws.CopyRow
import Derived.Laws.NewBlocks
import Derived.Deep.RegionLaw
namespace Go.Proofs.YtknchbhobopkeaaGreatDoor
open Go.RowKit
theorem run_gqN (x y : Operand) (u v : Array Value) (w : World) : (eqGuard .neq 44 x y (.agg u) (.agg v)).run Tryz.prog w = .ok () w := by
  have h : Tryz.prog.eqGuardType Tryz.prog.depth 44 = false := by kernel_rfl
  unfold eqGuard
  go_simp
theorem neRp (r : Rpt) (w : World) : (binOp .neq 44 (.agg (rptA r)) (.agg (rptA r))).run Tryz.prog w = .ok (.bool false) w := by
  obtain ⟨i, st, ⟨rn, rp⟩, ⟨kd, cl, sq, ⟨ok, key, old, val⟩⟩⟩ := r
  unfold rptA rpA
  simp only
  go_simp
set_option maxRecDepth 100000 in
set_option maxHeartbeats 2000000 in
theorem round_law (x : UInt8) (inc : Int) (w : World) : Calls Tryz.prog 3 #[.int .u8 (x.toNat : Int), .int .i64 inc] w fun e w' => e = .returned (.bool true) ∧ Below w.heap.size w w' := by
  by_cases hin : inc < 1 ∨ 1099511627776 < inc
  case pos =>
    have hc : (decide (inc < 1) || decide (1099511627776 < inc)) = true := by simpa using hin
    go_enter Tryz.func3, Tryz.ntmps3
    refine wp_seq_k (fun K hK => ?_)
    have HK := Lib.hid hK
    clear hK
    go_wp2
    refine HK.out _ _ ?_
    clear HK
    refine wp_seq_k (fun K hK => ?_)
    have HK := Lib.hid hK
    clear hK
    go_wp2_with (go_at_call 6; refine (lawake_any _).mono ?_; rintro e w1 ⟨rfl, hb1⟩)
    refine HK.out _ _ ?_
    clear HK
    rcases hb : decide (inc < 1) with _ | _
    · have h2 : decide (1099511627776 < inc) = true := by rw [hb] at hc; simpa using hc
      have h3 : (1099511627776 < inc) := by simpa using h2
      have h4 : ¬ (inc < 1) := by simpa using hb
      clear hin hc hb h2
      go_wp2
      go_ret
      exact ⟨rfl, hb1⟩
    · have h4 : inc < 1 := by simpa using hb
      clear hin hc hb
      go_wp2
      go_ret
      exact ⟨rfl, hb1⟩
  case neg =>
    have hi1 : 1 ≤ inc := by omega
    have hi2 : inc ≤ 1099511627776 := by omega
    have h3 : ¬ (inc < 1) := by omega
    have h4 : ¬ (1099511627776 < inc) := by omega
    have HOK := Lib.hid (fun k (hk : k ≤ 20) => lgK_ok hi1 hi2 hk)
    have hopk : LgOk ⟨0, inc, 0⟩ := lgK_ok hi1 hi2 (k := 0) (by omega)
    have HOP := Lib.hid hopk
    clear hopk hin hi1 hi2
    go_enter Tryz.func3, Tryz.ntmps3
    refine wp_seq_k (fun K hK => ?_)
    have HK := Lib.hid hK
    clear hK
    go_wp2
    refine HK.out _ _ ?_
    clear HK
    refine wp_seq_k (fun K hK => ?_)
    have HK := Lib.hid hK
    clear hK
    go_wp2_with (go_at_call 6; refine (lawake_any _).mono ?_; rintro e w1 ⟨rfl, hb1⟩)
    refine HK.out _ _ ?_
    clear HK
    refine wp_seq_k (fun K hK => ?_)
    have HK := Lib.hid hK
    clear hK
    go_wp2
    refine HK.out _ _ ?_
    clear HK
    clear h3 h4
    have hnw := new_any (B := w.heap.size) (w := w1) 156 (by decide) (by decide) hb1.size
    refine wp_seq_k (fun K hK => ?_)
    have HK := Lib.hid hK
    clear hK
    go_wp2_with (go_at_call 7; refine hnw.mono ?_; rintro e w2 ⟨⟨g, gp, rfl, D2⟩, hb2⟩)
    refine HK.out _ _ ?_
    clear HK
    refine wp_seq_k (fun K hK => ?_)
    have HK := Lib.hid hK
    clear hK
    go_wp2
    refine HK.out _ _ ?_
    clear HK
    have hop := lopen_ok D2 0 inc 0 (by show 156 ≤ (List.replicate 156 zeroPl).length; rw [List.length_replicate]; decide) HOP.out (live_up new_live156)
    refine wp_seq_k (fun K hK => ?_)
    have HK := Lib.hid hK
    clear hK
    go_wp2_with (go_at_call 8; refine hop.mono ?_; rintro e w3 ⟨⟨q, rfl, hq, L3⟩, hb3⟩)
    refine HK.out _ _ ?_
    clear HK
    have L3 : LgB w3 q g (lgK inc 0) := L3
    have D3 := D2.below hb3
    have k3 := (hb1.trans (hb2.mono hb1.size)).trans (hb3.mono (Nat.le_trans hb1.size hb2.size))
    have hBq : w.heap.size ≤ q := Nat.le_trans (Nat.le_trans hb1.size hb2.size) hq
    clear hnw hop D2 hb1 hb2 hb3 hq HOP
    refine wp_seq_k (fun K hK => ?_)
    have HK := Lib.hid hK
    clear hK
    go_wp2
    refine HK.out _ _ ?_
    clear HK
    refine wp_seq_k (fun K hK => ?_)
    have HK := Lib.hid hK
    clear hK
    go_wp2
    refine HK.out _ _ ?_
    clear HK
    obtain ⟨n, hn⟩ : ∃ n : Nat, (1 + (x.toNat : Int) % 20) = n := ⟨1 + x.toNat % 20, by omega⟩
    have hn1 : 1 ≤ n ∧ n ≤ 20 := by omega
    simp only [hn]
    clear hn
    refine wp_seq_k (fun K hK => ?_)
    go_cut [10] (fun v wx => ∃ (d : Dk) (wv : Value), v = .int .i64 n ∧ DiskB w.heap.size g gp wv d wx ∧ LgB wx q g (lgK inc n) ∧ Upto d (lgK inc n) (8 * n) ∧ Below w.heap.size w wx)
    case first =>
      go_wp2
      go_loopw [10] (fun v wr => ∃ (k : Nat) (d : Dk) (wv : Value), k ≤ n ∧ v = .int .i64 k ∧ DiskB w.heap.size g gp wv d wr ∧ LgB wr q g (lgK inc k) ∧ Upto d (lgK inc k) (8 * k) ∧ Below w.heap.size w wr) (fun v _ => n - (intOf v).toNat)
      case atStart => exact ⟨0, newDk 156, .slice none 0 0, by omega, rfl, D3, L3, upto_new _, k3⟩
      case round =>
        obtain ⟨k, d, wv, hk, rfl, hD, hL, hU, hbr⟩ := hrel
        clear D3 L3 k3
        by_cases hlt : k < n
        · have hl2 : (k : Int) < n := by omega
          refine wp_seq_k (fun K hK => ?_)
          have HK := Lib.hid hK
          clear hK
          go_wp2
          refine HK.out _ _ ?_
          clear HK
          refine wp_seq_k (fun K hK => ?_)
          have HK2 := Lib.hid hK
          clear hK
          refine wp_block ?_
          refine wp_seq_k (fun K hK => ?_)
          go_cut [11] (fun v wx => ∃ (d : Dk) (wv : Value), DiskB w.heap.size g gp wv d wx ∧ LgB wx q g (lgK inc k) ∧ Upto d (lgK inc k) (8 * k + 8) ∧ Below w.heap.size w wx)
          case first =>
            go_wp2
            go_loopw [11] (fun v wr => ∃ (j : Nat) (d : Dk) (wv : Value), j ≤ 8 ∧ v = .int .i64 (8 * (k : Int) + 1 + j) ∧ DiskB w.heap.size g gp wv d wr ∧ LgB wr q g (lgK inc k) ∧ Upto d (lgK inc k) (8 * k + j) ∧ Below w.heap.size w wr) (fun v _ => 8 * k + 9 - (intOf v).toNat)
            case atStart => exact ⟨0, d, wv, by omega, by simp, hD, hL, hU, hbr⟩
            case round =>
              clear hD hL hU hbr
              obtain ⟨j, d, wv, hj, rfl, hD, hL, hU, hbr⟩ := hrel
              by_cases hlj : j < 8
              · have hl3 : 8 * (k : Int) + 1 + j ≤ 8 * k + 8 := by omega
                obtain ⟨d', ep, hU'⟩ := hU.put (HOK.out k (by omega)) (by omega)
                have hpu := fun w' (hb : Below wr.heap.size wr w') => lput_ok (hL.below hb) (hD.below hb) (Nat.le_trans hbr.size hb.size) (HOK.out k (by omega)) ((8 * k + j + 1 : Nat) : Int) (b := ⟨((8 * k + j + 1 : Nat) : Int), 0⟩) (e := zeroE 1) (lgK_live hU.live (by omega) (by omega)) (by unfold mayBl big40; simp; omega) may_nop (by rw [hU.live.w]; simp)
                rw [ep] at hpu
                have hcast : ((8 * k + j + 1 : Nat) : Int) = 8 * (k : Int) + 1 + j := by omega
                rw [hcast] at hpu
                refine wp_seq_k (fun K hK => ?_)
                have HK := Lib.hid hK
                clear hK
                go_wp2
                refine HK.out _ _ ?_
                clear HK
                go_wp2_with (first
                  | (go_at_call 10; refine (lnoop_any _).mono ?_; rintro e w5 ⟨rfl, hb5⟩)
                  | (go_at_call 9; refine (hpu _ hb5).mono ?_; rintro e w6 ⟨rfl, ⟨wv6, D6⟩, k6⟩))
                have L6 := (hL.below hb5).kt k6
                have hb6 := (hbr.trans (hb5.mono hbr.size)).trans k6.bl
                go_roundw
                case rel => exact ⟨j + 1, d', wv6, by omega, congrArg (Value.int .i64) (by omega), D6, L6, hU', hb6⟩
                case measure => simp [intOf]; omega
              · obtain rfl : j = 8 := by omega
                go_wp2
                go_meet
                exact ⟨d, wv, hD, hL, hU, hbr⟩
          clear hD hL hU hbr
          obtain ⟨d, wv, hD, hL, hU, hbr⟩ := hcut
          refine hK _ _ ?_
          clear hK
          by_cases h2 : k < 2
          · have h2' : ¬ (2 ≤ (k : Int)) := by omega
            go_wp2
            (try simp only [Exit.inBlock, Exit.then])
            refine HK2.out _ _ ?_
            clear HK2
            go_wp2
            go_roundw
            case rel => exact ⟨k + 1, d, wv, by omega, congrArg (Value.int .i64) (by omega), hD, lgK_low h2 ▸ hL, hU.cut rfl, hbr⟩
            case measure => simp [intOf]; omega
          · have h2' : 2 ≤ (k : Int) := by omega
            have hcu := lcut_any2 hL (8 * (k : Int) - 8)
            rw [lgK_cut (by omega) (by omega)] at hcu
            go_wp2_with (go_at_call 11; refine hcu.mono ?_; rintro e w7 ⟨rfl, L7, g7⟩)
            have D7 := hD.otA g7 hL (by decide) (by decide) (by decide)
            have hb7 := bl_st hbr g7 hbr.size hBq
            (try simp only [Exit.inBlock, Exit.then])
            refine HK2.out _ _ ?_
            clear HK2
            go_wp2
            go_roundw
            case rel => exact ⟨k + 1, d, wv, by omega, congrArg (Value.int .i64) (by omega), D7, L7, hU.cut rfl, hb7⟩
            case measure => simp [intOf]; omega
        · obtain rfl : k = n := by omega
          go_wp2
          go_meet
          exact ⟨d, wv, rfl, hD, hL, hU, hbr⟩
    obtain ⟨d, wv, rfl, hD, hL, hU, hbr⟩ := hcut
    refine hK _ _ ?_
    clear hK
    have hal := lall_any2 hL hD (HOK.out n (by omega)) (live_up hU.live)
    obtain ⟨L, hLe, hLn, hLat⟩ : ∃ L : List Rpt, allW d (lgK inc n) = L ∧ L.length = 8 * n - snapK n ∧ ∀ t, t < L.length → L[t]? = some (repU (snapK n + 1 + t)) := by
      refine ⟨_, hU.all (c := snapK n) rfl (by unfold snapK; omega) (by unfold snapK; omega), by simp, fun t ht => ?_⟩
      rw [List.length_map, List.length_range] at ht
      rw [List.getElem?_map, List.getElem?_range ht]
      rfl
    have hsn : (lgK inc n).snap = (snapK n : Nat) := rfl
    have hcb : snapK n ≤ 8 * n := by unfold snapK; omega
    have hsp := fun w' (h : LgB w' q g (lgK inc n)) => lsnap_any2 h
    rw [hsn] at hsp
    rw [hLe] at hal
    have HLAT := Lib.hid hLat
    clear hLat hLe hsn hU
    generalize snapK n = c at *
    refine wp_seq_k (fun K hK => ?_)
    have HK := Lib.hid hK
    clear hK
    go_wp2_with (go_at_call 12; refine hal.mono ?_; rintro e w5 ⟨v, rfl, hO, hb5⟩)
    refine HK.out _ _ ?_
    clear HK
    obtain ⟨la, lc, rfl, hR, _, _⟩ := Row.of_owns hO
    have L5 := hL.below hb5
    have hw5 := hbr.trans (hb5.mono hbr.size)
    clear hal hO hL hD hbr hb5
    have hLi : (L.length : Int) = 8 * n - c := by omega
    have hL160 : L.length ≤ 160 ∧ c ≤ 160 := by omega
    clear hLn
    refine wp_seq_k (fun K hK => ?_)
    have HK := Lib.hid hK
    clear hK
    go_wp2_with (go_at_call 13; refine (hsp _ L5).mono ?_; rintro e w6 ⟨rfl, rfl⟩)
    refine HK.out _ _ ?_
    clear HK
    clear hLi hcb
    refine wp_seq_k (fun K hK => ?_)
    go_cut [14] (fun v wx => Below w.heap.size w wx)
    case first =>
      go_wp2
      go_loopw [14] (fun v wr => ∃ t : Nat, t ≤ L.length ∧ v = .int .i64 t ∧ Below w5.heap.size w5 wr) (fun v _ => L.length - (intOf v).toNat)
      case atStart => exact ⟨0, by omega, rfl, Below.refl _ _⟩
      case round =>
        obtain ⟨t, ht, rfl, hbr⟩ := hrel
        by_cases hlt : t < L.length
        · have hlt2 : (t : Int) < L.length := by omega
          obtain ⟨b, off, rfl, _, cs⟩ := (hR.below0 hbr).flat rptC_len (by omega) (HLAT.out t hlt)
          have L6 := L5.below hbr
          refine wp_seq_k (fun K hK => ?_)
          have HK := Lib.hid hK
          clear hK
          go_wp2
          refine HK.out _ _ ?_
          clear HK
          refine wp_seq_k (fun K hK => ?_)
          have HK2 := Lib.hid hK
          clear hK
          refine wp_block ?_
          refine wp_seq_k (fun K hK => ?_)
          have HK := Lib.hid hK
          clear hK
          go_wp2_with (go_at_call 13; refine (hsp _ L6).mono ?_; rintro e w6 ⟨rfl, rfl⟩)
          refine HK.out _ _ ?_
          clear HK
          go_wp2_with fail
          have hrep : repU (c + 1 + t) = ⟨(c : Int) + 1 + t, 2, ⟨(c : Int) + 1 + t, 0⟩, zeroE 1⟩ := by unfold repU; rw [show ((c + 1 + t : Nat) : Int) = (c : Int) + 1 + t by omega]
          rw [hrep] at cs
          refine wp_region_under (by kernel_rfl) (by kernel_rfl) ?_
          go_big_quiet_step (fail)
          go_big_quiet_step (fail)
          go_big_quiet_step (fail)
          refine wpQuiet_val (by rfl) (.agg (rptA ⟨(c : Int) + 1 + t, 2, ⟨(c : Int) + 1 + t, 0⟩, zeroE 1⟩)) (fun wS hSw => ?_) ?_
          · obtain ⟨x, rfl⟩ := hSw; exact exec_ldC 44 _ ⟨_, _, _, Tryz.isAgg44, Tryz.sizeOf44, rfl, rfl, fun j u hu => under_cell (cs j u (by rw [rptC, Array.getElem?_toList]; exact hu)) x⟩
          (try simp only [Act.put]); (try simp only [List.setIfInBounds_toArray]); (try simp only [List.set_cons_succ]); (try simp only [List.set_cons_zero])
          go_big_quiet_step (fail)
          go_big_quiet_step (fail)
          go_big_quiet_step (fail)
          go_big_quiet_step ((go_at_call 10; exact under_call (lnoop_any _)))
          refine wpQuiet_val (by rfl) (.agg (rptA ⟨(c : Int) + 1 + t, 2, ⟨(c : Int) + 1 + t, 0⟩, zeroE 1⟩)) (fun wS hSw => ?_) ?_
          · have hb : (Instr.build 44 #[(0, .int .i64 ((c : Int) + 1 + t)), (1, .int .u8 2), (2, .agg #[.int .i64 ((c : Int) + 1 + t), .int .i64 0]), (3, .agg (enA (zeroE 1)))]).run Tryz.prog wS = .ok (.agg (rptA ⟨(c : Int) + 1 + t, 2, ⟨(c : Int) + 1 + t, 0⟩, zeroE 1⟩)) wS := build_rp ((c : Int) + 1 + t) 2 ⟨(c : Int) + 1 + t, 0⟩ (zeroE 1) wS; unfold execOp; simp [Act.eval, hb]
          (try simp only [Act.put]); (try simp only [List.setIfInBounds_toArray]); (try simp only [List.set_cons_succ]); (try simp only [List.set_cons_zero])
          refine wpQuiet_val (by rfl) (.bool false) (fun wS hSw => ?_) ?_
          · have hq := run_gqN (.tmp 109) (.tmp 114) (rptA ⟨(c : Int) + 1 + t, 2, ⟨(c : Int) + 1 + t, 0⟩, zeroE 1⟩) (rptA ⟨(c : Int) + 1 + t, 2, ⟨(c : Int) + 1 + t, 0⟩, zeroE 1⟩) wS; have he := neRp ⟨(c : Int) + 1 + t, 2, ⟨(c : Int) + 1 + t, 0⟩, zeroE 1⟩ wS; unfold execOp; simp [Act.eval, hq, he]
          (try simp only [Act.put]); (try simp only [List.setIfInBounds_toArray]); (try simp only [List.set_cons_succ]); (try simp only [List.set_cons_zero])
          refine wpQuiet_nil ?_
          intro _ hw'
          obtain ⟨xU, hw''⟩ := hw'
          subst hw''
          have hbU := under_below wr xU
          have hbr7 := hbr.trans (hbU.mono hbr.size)
          generalize Under wr xU = wz at *
          clear cs hR hbU HLAT
          go_wp2
          (try simp only [Exit.inBlock, Exit.then])
          refine HK2.out _ _ ?_
          clear HK2
          go_wp2
          go_roundw
          case rel => exact ⟨t + 1, by omega, congrArg (Value.int .i64) (by omega), hbr7⟩
          case measure => simp [intOf]; omega
        · obtain rfl : t = L.length := by omega
          go_wp2
          go_meet
          exact hw5.trans (hbr.mono hw5.size)
    refine hK _ _ ?_
    clear hK
    go_wp2
    go_ret
    exact ⟨rfl, hcut⟩
end Go.Proofs.YtknchbhobopkeaaGreatDoor
namespace Go.Proofs.YtknchbhobopkeaaGreatDoor
open Go.ChangeShapes Go.WideShapes Go.ChangeAt Go.RowKit
variable {H : Type} {enc : TypeId × Value → H} {P : Program}
theorem open_row_ints {W : World} {base : Nat} {sp : Nat → Bool} {hd : Bool} {b0 : Nat} {t e : TypeId} {k : IntKind} {v : Value} {d : DataW H} {p : List MemPlace}
    (ht : P.underlying t = some (.slice e)) (he : P.underlying e = some (.int k)) (hc : P.cellsOf e = 1) (hv : Value.okWide P W .any base t v) (h : DataW.Trod enc P W b0 sp hd t v d p) :
    ∃ (a : Option Addr) (l : List Int) (cap : Nat), v = .slice a l.length cap ∧ Row W a (l.map (Value.int k)) ∧ l.length ≤ cap ∧ cap ≤ maxLen ∧ ∀ n ∈ l, (Lit.int k n).wf = true := by
  obtain ⟨a0, len, cap, rfl⟩ := okWide_slice ht hv
  obtain ⟨fuel, hf⟩ := h
  rcases open_ints ht he hc hf with ⟨hcs, hx⟩ | ⟨a, len', cap', zs, hcs, _, hl, hm, hz, hx, hcell, hwz⟩
  · simp [Value.cells] at hcs
    obtain ⟨rfl, rfl, rfl⟩ := hcs
    exact ⟨none, [], 0, rfl, .inl rfl, Nat.le_refl _, by simp, by simp⟩
  · simp [Value.cells] at hcs
    obtain ⟨rfl, rfl, rfl⟩ := hcs
    have hlen : len ≤ zs.length := by rw [hz]; split <;> omega
    refine ⟨some a, zs.take len, cap, by simp; omega, ?_, by simp; omega, hm, fun n hn => hwz n (List.mem_of_mem_take hn)⟩
    by_cases h0 : len = 0
    · left; simp [h0]
    · right
      obtain ⟨b, off, rfl, hc'⟩ := ints_at hcell (by omega)
      refine ⟨b, off, rfl, fun i u hu => ?_⟩
      have hi := (List.getElem?_eq_some_iff.1 hu).1
      simp only [List.length_map, List.length_take] at hi
      rw [hc' i (by omega)]
      simp only [List.getElem?_map, List.getElem?_take_of_lt (show i < len by omega), Option.map_eq_some_iff] at hu
      obtain ⟨z, hz2, rfl⟩ := hu
      rw [List.getD_eq_getElem?_getD, hz2]
      rfl
end Go.Proofs.YtknchbhobopkeaaGreatDoor
namespace Go.Proofs.YtknchbhobopkeaaGreatDoor
open Go.ChangeShapes Go.WideShapes Go.ChangeAt Go.RowKit
theorem cellsU8 : Tryz.prog.cellsOf 5 = 1 := by kernel_rfl
set_option maxRecDepth 100000 in
theorem open_bytes {H : Type} {enc : TypeId × Value → H} {W : World} {base : Nat} {sp : Nat → Bool} {hd : Bool} {b0 : Nat} {v : Value} {d : DataW H} {p : List MemPlace}
    (hv : Value.okWide Tryz.prog W .any base 75 v) (h : DataW.Trod enc Tryz.prog W b0 sp hd 75 v d p) : ∃ (a : Option Addr) (l : List UInt8) (cap : Nat), v = .slice a l.length cap ∧ SlB W a cap l := by
  obtain ⟨a, l, cap, rfl, hr, hl, hc, hw⟩ := open_row_ints Tryz.underlying75 Tryz.underlying5 cellsU8 hv h
  have hnil : a = none → cap = 0 := by
    rintro rfl
    obtain ⟨fuel, hf⟩ := h
    rcases open_ints Tryz.underlying75 Tryz.underlying5 cellsU8 hf with ⟨hcs, hx⟩ | ⟨a, len', cap', zs, hcs, _⟩
    · simp [Value.cells] at hcs
      exact hcs.2
    · simp [Value.cells] at hcs
  have hb : ∀ n ∈ l, 0 ≤ n ∧ n < 256 := fun n hn => by
    have h1 := hw n hn
    have m0 : IntKind.u8.min = 0 := by decide
    have m1 : IntKind.u8.max = 255 := by decide
    replace h1 : (decide (IntKind.u8.min ≤ n) && decide (n ≤ IntKind.u8.max)) = true := h1
    rw [m0, m1, Bool.and_eq_true, decide_eq_true_eq, decide_eq_true_eq] at h1
    omega
  refine ⟨a, l.map (fun n => UInt8.ofNat n.toNat), cap, by simp, ?_, by simpa using hl, hc, hnil⟩
  have e : bys (l.map (fun n => UInt8.ofNat n.toNat)) = l.map (Value.int .u8) := by
    unfold bys
    rw [List.map_map]
    refine List.map_congr_left fun n hn => ?_
    have := hb n hn
    simp only [Function.comp, byv]
    rw [show ((UInt8.ofNat n.toNat).toNat : Int) = n by rw [UInt8.toNat_ofNat']; omega]
  rw [e]
  exact hr
theorem open_u8 {H : Type} {enc : TypeId × Value → H} {W : World} {sp : Nat → Bool} {hd : Bool} {b0 : Nat} {v : Value} {d : DataW H} {p : List MemPlace} (hv : ∃ x, v = .int .u8 x)
    (h : DataW.Trod enc Tryz.prog W b0 sp hd 5 v d p) : ∃ x : UInt8, v = .int .u8 x.toNat := by
  obtain ⟨y, rfl⟩ := hv
  obtain ⟨fuel, hf⟩ := h
  obtain ⟨n, q, hw, h1⟩ := DataW.trod_int Tryz.underlying5 hf
  simp [Value.cells] at q
  subst q
  have m0 : IntKind.u8.min = 0 := by decide
  have m1 : IntKind.u8.max = 255 := by decide
  replace h1 : (decide (IntKind.u8.min ≤ y) && decide (y ≤ IntKind.u8.max)) = true := h1
  rw [m0, m1, Bool.and_eq_true, decide_eq_true_eq, decide_eq_true_eq] at h1
  exact ⟨UInt8.ofNat y.toNat, by rw [show ((UInt8.ofNat y.toNat).toNat : Int) = y by rw [UInt8.toNat_ofNat']; omega]⟩
end Go.Proofs.YtknchbhobopkeaaGreatDoor
