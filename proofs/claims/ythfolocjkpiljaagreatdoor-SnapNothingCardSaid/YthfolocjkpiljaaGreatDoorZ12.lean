/- Texts that the claim leans on, part 12: D48, D49, S6, S7, S8, S9, S10, S11. -/
import Derived.Test.YthfolocjkpiljaaGreatDoorZ1
import Derived.Test.YthfolocjkpiljaaGreatDoorZ2
import Derived.Test.YthfolocjkpiljaaGreatDoorZ3
import Derived.Test.YthfolocjkpiljaaGreatDoorZ4
import Derived.Test.YthfolocjkpiljaaGreatDoorZ5
import Derived.Test.YthfolocjkpiljaaGreatDoorZ6
import Derived.Test.YthfolocjkpiljaaGreatDoorZ7
import Derived.Test.YthfolocjkpiljaaGreatDoorZ8
import Derived.Test.YthfolocjkpiljaaGreatDoorZ9
import Derived.Test.YthfolocjkpiljaaGreatDoorZ10
import Derived.Test.YthfolocjkpiljaaGreatDoorZ11
import Derived.Test.YthfolocjkpiljaaGreatDoorRows
import Derived.WalkKit
import Derived.WalkSpells
import Derived.WalkLawsBesides
import Derived.Handy
import Derived.Deep.QuietTactic
import Derived.BigQuiet
import Derived.Deep.DeepCutAuto
import Derived.Lib.Hide
import Derived.RegionTactic
import Derived.ChangeAlike
import Derived.Laws.ResultCell
import Derived.Outline
import Derived.IntWalk
import Derived.Shelf.Abstract
import Derived.Shelf.RegionOpen
import Derived.OwnWalkIn
import Derived.TacticsInMore
import Derived.LoopNIn
import Derived.LoopIn
import Derived.Maps.AppendAt
import Derived.Lib.SliceRun
import Derived.Laws.IdiomStrings
import Derived.Laws.BytesArg
import Derived.Carry
import Derived.Maps.Own
import Derived.Maps.Keyed
import Derived.RangeFuncNested
import Derived.RangeFuncBound
import Derived.RangeFuncCalls
import Derived.RangeFuncLeaves
import Derived.RangeFuncBox
import Derived.RangeFuncRecord
import Derived.OrdersIn
import Derived.OrdersHeld
import Derived.Laws.MakeOwn
import Derived.Laws.BitsAllLaws
import Derived.Great.BuildSlice
import Derived.Great.FillDense
import Derived.Laws.Rows
import Derived.Deep.Quiet
import Derived.Deep.RegionHeld3
import Derived.ProofKit
import Derived.OpenShut
import Derived.Laws.CopyOwn
import Derived.Laws.CopyRow
import Derived.Laws.NewBlocks
import Derived.Deep.RegionLaw
namespace Go.Proofs.YthfolocjkpiljaaGreatDoor
open Go.RowKit

section
variable {B g gp : Nat} {wv : Value} {d : Dk} {w : World}
theorem room1 (w : World) : Calls Tryz.prog 106 #[.int .i64 1] w fun e w' => e = .returned (.int .i64 43) ∧ w = w' := room_any 1 w
set_option maxRecDepth 100000 in
set_option maxHeartbeats 2000000 in
theorem cstore_ok (h : DiskB B g gp wv d w) (hb : B ≤ w.heap.size) (rep reg inc : Int) (a : Option Addr) (c : Nat) (body : List UInt8) (hs : ∀ w', Kt B w w' → SlB w' a c body) (ho : openC d rep reg = 0) (hi1 : 1 ≤ inc) (hi2 : inc ≤ 1099511627776) (hl43 : body.length ≤ 43) (hw : d.waits.length ≤ 1000) :
    Calls Tryz.prog 29 #[.pointer (some ⟨g, 0, none⟩), .int .i64 rep, .int .i64 reg, .int .i64 inc, .slice a body.length c] w fun e w' => e = .returned (.int .i64 (storeC d rep reg inc body).2) ∧ (∃ wv', DiskB B g gp wv' (storeC d rep reg inc body).1 w') ∧ Kt B w w' := by
  have hop := copen_good h rep reg ho
  obtain ⟨hrg, hrp⟩ : (reg = 1 ∨ reg = 2) ∧ (0 ≤ rep ∧ rep ≤ 6) := by
    unfold openC at ho
    split at ho
    · cases ho
    · split at ho
      · cases ho
      · omega
  unfold storeC
  rw [ho]
  simp only [ne_eq, not_true, false_and, if_false]
  rw [if_neg (by omega), if_neg (by omega)]
  unfold pickC
  have hi0 := copy_idx h rep reg 0
  have hi1' := copy_idx h rep reg 1
  generalize copyC d rep reg 0 = c0 at *
  generalize copyC d rep reg 1 = c1 at *
  have hlo := fun q a0 n0 k0 a1 n1 k1 w => loaded_any q g rep reg c0 c1 a0 a1 n0 k0 n1 k1 w
  obtain ⟨i, ok, er, hld⟩ : ∃ i ok er, loadedC c0 c1 = (i, ok, er) := ⟨_, _, _, rfl⟩
  obtain ⟨hlt, hlf, hle⟩ := loaded_ok hld
  simp only [hld] at hlo ⊢
  clear hld ho
  have hlb : ¬ (43 : Int) < body.length := by omega
  by_cases her : er = 0
  case neg =>
    rw [if_pos her]
    have e1 : (er != 0) = true := by rw [bne_iff_ne]; exact her
    clear her
    go_enter Tryz.func29, Tryz.ntmps29
    refine wp_seq_k (fun K hK => ?_)
    have HK := Lib.hid hK
    clear hK
    go_wp2
    refine HK.out _ _ ?_
    clear HK
    refine wp_seq_k (fun K hK => ?_)
    have HK := Lib.hid hK
    clear hK
    go_wp2_with (go_at_call 105; refine hop.mono ?_; rintro e w1 ⟨⟨q, a0, k0, a1, k1, rfl, hq, Q1, o0, o1⟩, hb1⟩)
    refine HK.out _ _ ?_
    clear HK
    refine wp_seq_k (fun K hK => ?_)
    have HK := Lib.hid hK
    clear hK
    go_wp2_with (go_at_call 106; refine (room1 _).mono ?_; rintro e w2 ⟨rfl, rfl⟩)
    refine HK.out _ _ ?_
    clear HK
    refine wp_seq_k (fun K hK => ?_)
    have HK := Lib.hid hK
    clear hK
    go_wp2_with (go_at_call 107; refine (hlo q a0 _ k0 a1 _ k1 _ Q1).mono ?_; rintro e w2 ⟨rfl, hb2⟩)
    refine HK.out _ _ ?_
    clear HK
    have Q2 := tr_bl hb2 Q1
    have hb3 := hb1.trans (hb2.mono hb1.size)
    have hd3 := h.below hb3
    have hk3 := Kt.of hb3 hb
    have hB3 := Nat.le_trans hb hk3.bl.size
    clear Q1 o0 o1 hb1 hb2 hlo hop
    go_wp2
    go_ret
    exact ⟨rfl, ⟨_, hd3⟩, hk3⟩
  case pos =>
    subst her
    rw [if_neg (by simp)]
    have z01 : ((0 : Nat) = 1) = False := by simp
    have z11 : ((1 : Nat) = 1) = True := by simp
    have zft : (false = true) = False := by simp
    cases ok
    case false =>
      obtain rfl := hlf rfl
      simp only [z01, zft, if_false, show (1 : Int) - 0 = 1 from rfl]
      clear z01 z11 zft hlf hle
      go_enter Tryz.func29, Tryz.ntmps29
      refine wp_seq_k (fun K hK => ?_)
      have HK := Lib.hid hK
      clear hK
      go_wp2
      refine HK.out _ _ ?_
      clear HK
      refine wp_seq_k (fun K hK => ?_)
      have HK := Lib.hid hK
      clear hK
      go_wp2_with (go_at_call 105; refine hop.mono ?_; rintro e w1 ⟨⟨q, a0, k0, a1, k1, rfl, hq, Q1, o0, o1⟩, hb1⟩)
      refine HK.out _ _ ?_
      clear HK
      refine wp_seq_k (fun K hK => ?_)
      have HK := Lib.hid hK
      clear hK
      go_wp2_with (go_at_call 106; refine (room1 _).mono ?_; rintro e w2 ⟨rfl, rfl⟩)
      refine HK.out _ _ ?_
      clear HK
      refine wp_seq_k (fun K hK => ?_)
      have HK := Lib.hid hK
      clear hK
      go_wp2_with (go_at_call 107; refine (hlo q a0 _ k0 a1 _ k1 _ Q1).mono ?_; rintro e w2 ⟨rfl, hb2⟩)
      refine HK.out _ _ ?_
      clear HK
      have Q2 := tr_bl hb2 Q1
      have hb3 := hb1.trans (hb2.mono hb1.size)
      have hd3 := h.below hb3
      have hk3 := Kt.of hb3 hb
      have hB3 := Nat.le_trans hb hk3.bl.size
      clear Q1 o0 o1 hb1 hb2 hlo hop
      have cx := ceA_7 Q2
      by_cases hv : 1099511627776 < c0.tg.idx + 1
      case pos =>
        rw [if_pos hv]
        go_wp2
        go_ret
        exact ⟨rfl, ⟨_, hd3⟩, hk3⟩
      case neg =>
        rw [if_neg hv]
        have hm1 := may_cell2 (rep := rep) (reg := reg) (v := c0.tg.idx + 1) (c := inc) (i := 0) hrp hrg (by omega) (by omega) (by omega) hi1 hi2
        have hm2 := may_cell2 (rep := rep) (reg := reg) (v := c0.tg.idx + 1) (c := inc) (i := 1) hrp hrg (by omega) (by omega) (by omega) hi1 hi2
        simp only [Int.natCast_zero, Int.natCast_one] at hm1 hm2
        have hput := cput_any hd3 hB3 q rep reg _ _ _ _ _ _ Q2 0 (c0.tg.idx + 1) inc hm1 a c body (hs _ hk3) hl43 (by omega)
        obtain ⟨d1, r1, hp1⟩ : ∃ d1 r1, putC d ⟨rep, reg, 0, c0.tg.idx + 1, inc⟩ body = (d1, r1) := ⟨_, _, rfl⟩
        rw [hp1] at hput ⊢
        simp only at hput ⊢
        have hwt := @put_waits d ⟨rep, reg, 0, c0.tg.idx + 1, inc⟩ body
        rw [hp1] at hwt
        have HW := Lib.hid hwt
        clear hwt hp1 hm1
        have hvn : c0.tg.idx + 1 ≤ 1099511627776 := by omega
        refine wp_seq_k (fun K hK => ?_)
        have HK := Lib.hid hK
        clear hK
        go_wp2
        refine HK.out _ _ ?_
        clear HK
        refine wp_seq_k (fun K hK => ?_)
        have HK := Lib.hid hK
        clear hK
        go_wp2
        refine HK.out _ _ ?_
        clear HK
        refine wp_seq_k (fun K hK => ?_)
        have HK := Lib.hid hK
        clear hK
        go_wp2
        refine HK.out _ _ ?_
        clear HK
        refine wp_seq_k (fun K hK => ?_)
        have HK := Lib.hid hK
        clear hK
        go_wp2
        refine HK.out _ _ ?_
        clear HK
        refine wp_seq_k (fun K hK => ?_)
        have HK := Lib.hid hK
        clear hK
        go_wp2
        refine HK.out _ _ ?_
        clear HK
        refine wp_seq_k (fun K hK => ?_)
        have HK := Lib.hid hK
        clear hK
        refine wp_seq_k (fun K hK => ?_)
        have HK2 := Lib.hid hK
        clear hK
        go_wp2_with (go_at_call 108; refine hput.mono ?_; rintro e w5 ⟨rfl, ⟨wv5, hd5⟩, hk5⟩)
        refine HK2.out _ _ ?_
        clear HK2 hput
        have Q5 := hk5.ty _ _ _ Q2 (by decide) (by decide) (by decide)
        have hk6 := hk3.trans hk5
        have hB6 := Nat.le_trans hb hk6.bl.size
        by_cases hr1 : r1 = 0
        case neg =>
          rw [if_pos hr1]
          have e1 : (r1 != 0) = true := by rw [bne_iff_ne]; exact hr1
          go_wp2
          go_ret
          exact ⟨rfl, ⟨_, hd5⟩, hk6⟩
        case pos =>
          subst hr1
          rw [if_neg (by simp)]
          have hput2 := cput_any hd5 hB6 q rep reg _ _ _ _ _ _ Q5 1 (c0.tg.idx + 1) inc hm2 a c body (hs _ hk6) hl43 (by rw [HW.out rfl]; simp)
          go_wp2
          refine HK.out _ _ ?_
          clear HK
          go_wp2_with (go_at_call 108; refine hput2.mono ?_; rintro e w7 ⟨rfl, hd7, hk7⟩)
          go_ret
          exact ⟨rfl, hd7, hk6.trans hk7⟩
    case true =>
      clear hlf hle
      rcases (show i = 0 ∨ i = 1 by omega) with rfl | rfl
      · simp only [z01, if_false, if_true, show (1 : Int) - ((0 : Nat) : Int) = 1 from rfl, show (1 : Int) - 1 = 0 from rfl]
        clear z01 z11 zft
        go_enter Tryz.func29, Tryz.ntmps29
        refine wp_seq_k (fun K hK => ?_)
        have HK := Lib.hid hK
        clear hK
        go_wp2
        refine HK.out _ _ ?_
        clear HK
        refine wp_seq_k (fun K hK => ?_)
        have HK := Lib.hid hK
        clear hK
        go_wp2_with (go_at_call 105; refine hop.mono ?_; rintro e w1 ⟨⟨q, a0, k0, a1, k1, rfl, hq, Q1, o0, o1⟩, hb1⟩)
        refine HK.out _ _ ?_
        clear HK
        refine wp_seq_k (fun K hK => ?_)
        have HK := Lib.hid hK
        clear hK
        go_wp2_with (go_at_call 106; refine (room1 _).mono ?_; rintro e w2 ⟨rfl, rfl⟩)
        refine HK.out _ _ ?_
        clear HK
        refine wp_seq_k (fun K hK => ?_)
        have HK := Lib.hid hK
        clear hK
        go_wp2_with (go_at_call 107; refine (hlo q a0 _ k0 a1 _ k1 _ Q1).mono ?_; rintro e w2 ⟨rfl, hb2⟩)
        refine HK.out _ _ ?_
        clear HK
        have Q2 := tr_bl hb2 Q1
        have hb3 := hb1.trans (hb2.mono hb1.size)
        have hd3 := h.below hb3
        have hk3 := Kt.of hb3 hb
        have hB3 := Nat.le_trans hb hk3.bl.size
        clear Q1 o0 o1 hb1 hb2 hlo hop
        have cx := ceA_7 Q2
        by_cases hv : 1099511627776 < c0.tg.idx + 1
        case pos =>
          rw [if_pos hv]
          go_wp2
          go_ret
          exact ⟨rfl, ⟨_, hd3⟩, hk3⟩
        case neg =>
          rw [if_neg hv]
          have hm1 := may_cell2 (rep := rep) (reg := reg) (v := c0.tg.idx + 1) (c := inc) (i := 1) hrp hrg (by omega) (by omega) (by omega) hi1 hi2
          have hm2 := may_cell2 (rep := rep) (reg := reg) (v := c0.tg.idx + 1) (c := inc) (i := 0) hrp hrg (by omega) (by omega) (by omega) hi1 hi2
          simp only [Int.natCast_zero, Int.natCast_one] at hm1 hm2
          have hput := cput_any hd3 hB3 q rep reg _ _ _ _ _ _ Q2 1 (c0.tg.idx + 1) inc hm1 a c body (hs _ hk3) hl43 (by omega)
          obtain ⟨d1, r1, hp1⟩ : ∃ d1 r1, putC d ⟨rep, reg, 1, c0.tg.idx + 1, inc⟩ body = (d1, r1) := ⟨_, _, rfl⟩
          rw [hp1] at hput ⊢
          simp only at hput ⊢
          have hwt := @put_waits d ⟨rep, reg, 1, c0.tg.idx + 1, inc⟩ body
          rw [hp1] at hwt
          have HW := Lib.hid hwt
          clear hwt hp1 hm1
          have hvn : c0.tg.idx + 1 ≤ 1099511627776 := by omega
          refine wp_seq_k (fun K hK => ?_)
          have HK := Lib.hid hK
          clear hK
          go_wp2
          refine HK.out _ _ ?_
          clear HK
          refine wp_seq_k (fun K hK => ?_)
          have HK := Lib.hid hK
          clear hK
          go_wp2
          refine HK.out _ _ ?_
          clear HK
          refine wp_seq_k (fun K hK => ?_)
          have HK := Lib.hid hK
          clear hK
          go_wp2
          refine HK.out _ _ ?_
          clear HK
          refine wp_seq_k (fun K hK => ?_)
          have HK := Lib.hid hK
          clear hK
          go_wp2
          refine HK.out _ _ ?_
          clear HK
          refine wp_seq_k (fun K hK => ?_)
          have HK := Lib.hid hK
          clear hK
          go_wp2
          refine HK.out _ _ ?_
          clear HK
          refine wp_seq_k (fun K hK => ?_)
          have HK := Lib.hid hK
          clear hK
          refine wp_seq_k (fun K hK => ?_)
          have HK2 := Lib.hid hK
          clear hK
          go_wp2_with (go_at_call 108; refine hput.mono ?_; rintro e w5 ⟨rfl, ⟨wv5, hd5⟩, hk5⟩)
          refine HK2.out _ _ ?_
          clear HK2 hput
          have Q5 := hk5.ty _ _ _ Q2 (by decide) (by decide) (by decide)
          have hk6 := hk3.trans hk5
          have hB6 := Nat.le_trans hb hk6.bl.size
          by_cases hr1 : r1 = 0
          case neg =>
            rw [if_pos hr1]
            have e1 : (r1 != 0) = true := by rw [bne_iff_ne]; exact hr1
            go_wp2
            go_ret
            exact ⟨rfl, ⟨_, hd5⟩, hk6⟩
          case pos =>
            subst hr1
            rw [if_neg (by simp)]
            have hput2 := cput_any hd5 hB6 q rep reg _ _ _ _ _ _ Q5 0 (c0.tg.idx + 1) inc hm2 a c body (hs _ hk6) hl43 (by rw [HW.out rfl]; simp)
            go_wp2
            refine HK.out _ _ ?_
            clear HK
            go_wp2_with (go_at_call 108; refine hput2.mono ?_; rintro e w7 ⟨rfl, hd7, hk7⟩)
            go_ret
            exact ⟨rfl, hd7, hk6.trans hk7⟩
      · simp only [if_true, show (1 : Int) - ((1 : Nat) : Int) = 0 from rfl, show (1 : Int) - 0 = 1 from rfl]
        clear z01 z11 zft
        go_enter Tryz.func29, Tryz.ntmps29
        refine wp_seq_k (fun K hK => ?_)
        have HK := Lib.hid hK
        clear hK
        go_wp2
        refine HK.out _ _ ?_
        clear HK
        refine wp_seq_k (fun K hK => ?_)
        have HK := Lib.hid hK
        clear hK
        go_wp2_with (go_at_call 105; refine hop.mono ?_; rintro e w1 ⟨⟨q, a0, k0, a1, k1, rfl, hq, Q1, o0, o1⟩, hb1⟩)
        refine HK.out _ _ ?_
        clear HK
        refine wp_seq_k (fun K hK => ?_)
        have HK := Lib.hid hK
        clear hK
        go_wp2_with (go_at_call 106; refine (room1 _).mono ?_; rintro e w2 ⟨rfl, rfl⟩)
        refine HK.out _ _ ?_
        clear HK
        refine wp_seq_k (fun K hK => ?_)
        have HK := Lib.hid hK
        clear hK
        go_wp2_with (go_at_call 107; refine (hlo q a0 _ k0 a1 _ k1 _ Q1).mono ?_; rintro e w2 ⟨rfl, hb2⟩)
        refine HK.out _ _ ?_
        clear HK
        have Q2 := tr_bl hb2 Q1
        have hb3 := hb1.trans (hb2.mono hb1.size)
        have hd3 := h.below hb3
        have hk3 := Kt.of hb3 hb
        have hB3 := Nat.le_trans hb hk3.bl.size
        clear Q1 o0 o1 hb1 hb2 hlo hop
        have cx := ceA_14 Q2
        by_cases hv : 1099511627776 < c1.tg.idx + 1
        case pos =>
          rw [if_pos hv]
          go_wp2
          go_ret
          exact ⟨rfl, ⟨_, hd3⟩, hk3⟩
        case neg =>
          rw [if_neg hv]
          have hm1 := may_cell2 (rep := rep) (reg := reg) (v := c1.tg.idx + 1) (c := inc) (i := 0) hrp hrg (by omega) (by omega) (by omega) hi1 hi2
          have hm2 := may_cell2 (rep := rep) (reg := reg) (v := c1.tg.idx + 1) (c := inc) (i := 1) hrp hrg (by omega) (by omega) (by omega) hi1 hi2
          simp only [Int.natCast_zero, Int.natCast_one] at hm1 hm2
          have hput := cput_any hd3 hB3 q rep reg _ _ _ _ _ _ Q2 0 (c1.tg.idx + 1) inc hm1 a c body (hs _ hk3) hl43 (by omega)
          obtain ⟨d1, r1, hp1⟩ : ∃ d1 r1, putC d ⟨rep, reg, 0, c1.tg.idx + 1, inc⟩ body = (d1, r1) := ⟨_, _, rfl⟩
          rw [hp1] at hput ⊢
          simp only at hput ⊢
          have hwt := @put_waits d ⟨rep, reg, 0, c1.tg.idx + 1, inc⟩ body
          rw [hp1] at hwt
          have HW := Lib.hid hwt
          clear hwt hp1 hm1
          have hvn : c1.tg.idx + 1 ≤ 1099511627776 := by omega
          refine wp_seq_k (fun K hK => ?_)
          have HK := Lib.hid hK
          clear hK
          go_wp2
          refine HK.out _ _ ?_
          clear HK
          refine wp_seq_k (fun K hK => ?_)
          have HK := Lib.hid hK
          clear hK
          go_wp2
          refine HK.out _ _ ?_
          clear HK
          refine wp_seq_k (fun K hK => ?_)
          have HK := Lib.hid hK
          clear hK
          go_wp2
          refine HK.out _ _ ?_
          clear HK
          refine wp_seq_k (fun K hK => ?_)
          have HK := Lib.hid hK
          clear hK
          go_wp2
          refine HK.out _ _ ?_
          clear HK
          refine wp_seq_k (fun K hK => ?_)
          have HK := Lib.hid hK
          clear hK
          go_wp2
          refine HK.out _ _ ?_
          clear HK
          refine wp_seq_k (fun K hK => ?_)
          have HK := Lib.hid hK
          clear hK
          refine wp_seq_k (fun K hK => ?_)
          have HK2 := Lib.hid hK
          clear hK
          go_wp2_with (go_at_call 108; refine hput.mono ?_; rintro e w5 ⟨rfl, ⟨wv5, hd5⟩, hk5⟩)
          refine HK2.out _ _ ?_
          clear HK2 hput
          have Q5 := hk5.ty _ _ _ Q2 (by decide) (by decide) (by decide)
          have hk6 := hk3.trans hk5
          have hB6 := Nat.le_trans hb hk6.bl.size
          by_cases hr1 : r1 = 0
          case neg =>
            rw [if_pos hr1]
            have e1 : (r1 != 0) = true := by rw [bne_iff_ne]; exact hr1
            go_wp2
            go_ret
            exact ⟨rfl, ⟨_, hd5⟩, hk6⟩
          case pos =>
            subst hr1
            rw [if_neg (by simp)]
            have hput2 := cput_any hd5 hB6 q rep reg _ _ _ _ _ _ Q5 1 (c1.tg.idx + 1) inc hm2 a c body (hs _ hk6) hl43 (by rw [HW.out rfl]; simp)
            go_wp2
            refine HK.out _ _ ?_
            clear HK
            go_wp2_with (go_at_call 108; refine hput2.mono ?_; rintro e w7 ⟨rfl, hd7, hk7⟩)
            go_ret
            exact ⟨rfl, hd7, hk6.trans hk7⟩
end
end Go.Proofs.YthfolocjkpiljaaGreatDoor

namespace Go.Proofs.YthfolocjkpiljaaGreatDoor
open Go.RowKit

theorem step_bl {w w1 w2 : World} (h : Below w.heap.size w w1) (h2 : Below w1.heap.size w1 w2) : Below w.heap.size w w2 := h.trans (h2.mono h.size)
theorem coA_new (st : Nat) (t : Tg) (a : Option Addr) (n k : Nat) : (Value.agg (coA st t (.slice a n k))).cells = coA st t (.slice a n k) ∧ (coA st t (.slice a n k)).size = 7 ∧ ∀ u ∈ (coA st t (.slice a n k)).toList, u.oneCell' = true := ⟨rfl, rfl, by simp [coA, Value.oneCell']⟩
theorem loaded_st {c0 c1 : Cp} {i : Nat} {er : Int} (h : loadedC c0 c1 = (i, true, er)) : (i = 0 → c0.st = 1) ∧ (i = 1 → c1.st = 1) := by
  unfold loadedC at h
  split at h
  · rename_i ho
    cases h
    exact ⟨by omega, fun _ => over_good ho⟩
  · split at h
    · rename_i h0
      cases h
      exact ⟨fun _ => h0, by omega⟩
    · split at h <;> cases h
theorem sameC_iff (c x : Cp) : sameC c x = true ↔ (c.st = x.st ∧ c.tg.idx = x.tg.idx ∧ c.body = x.body) := by
  unfold sameC
  simp only [Bool.and_eq_true, decide_eq_true_eq]
section
variable {B g gp : Nat} {wv : Value} {d : Dk} {w : World}
theorem cstore_any (h : DiskB B g gp wv d w) (hb : B ≤ w.heap.size) (rep reg inc : Int) (a : Option Addr) (c : Nat) (body : List UInt8) (hs : ∀ w', Kt B w w' → SlB w' a c body) (hl : body.length ≤ 1000) (hw : d.waits.length ≤ 1000) :
    Calls Tryz.prog 29 #[.pointer (some ⟨g, 0, none⟩), .int .i64 rep, .int .i64 reg, .int .i64 inc, .slice a body.length c] w fun e w' => e = .returned (.int .i64 (storeC d rep reg inc body).2) ∧ (∃ wv', DiskB B g gp wv' (storeC d rep reg inc body).1 w') ∧ Kt B w w' := by
  by_cases h1 : openC d rep reg ≠ 0 ∨ inc < 1 ∨ 1099511627776 < inc ∨ 43 < body.length
  · exact cstore_err h hb rep reg inc a c body hl h1
  · have ho : openC d rep reg = 0 := by
      by_cases h0 : openC d rep reg = 0
      · exact h0
      · exact absurd (.inl h0) h1
    exact cstore_ok h hb rep reg inc a c body hs ho (by omega) (by omega) (by omega) hw
set_option maxRecDepth 100000 in
set_option maxHeartbeats 2000000 in
theorem cheal_any (h : DiskB B g gp wv d w) (hb : B ≤ w.heap.size) (rep reg : Int) (hw : d.waits.length ≤ 1000) :
    Calls Tryz.prog 31 #[.pointer (some ⟨g, 0, none⟩), .int .i64 rep, .int .i64 reg] w fun e w' => e = .returned (.int .i64 (healC d rep reg).2) ∧ (∃ wv', DiskB B g gp wv' (healC d rep reg).1 w') ∧ Kt B w w' := by
  unfold healC
  simp only
  by_cases ho : openC d rep reg = 0
  case neg =>
    rw [if_pos ho]
    have hop := copen_bad h rep reg ho
    generalize openC d rep reg = x at *
    have e1 : (x != 0) = true := by rw [bne_iff_ne]; exact ho
    clear ho
    go_enter Tryz.func31, Tryz.ntmps31
    go_wp2_with (go_at_call 105; refine hop.mono ?_; rintro e w1 ⟨rfl, hb1⟩)
    go_ret
    exact ⟨rfl, ⟨_, h.below hb1⟩, Kt.of hb1 hb⟩
  case pos =>
    rw [if_neg (by simpa using ho)]
    have hop := copen_good h rep reg ho
    obtain ⟨hrg, hrp⟩ : (reg = 1 ∨ reg = 2) ∧ (0 ≤ rep ∧ rep ≤ 6) := by
      unfold openC at ho
      split at ho
      · cases ho
      · split at ho
        · cases ho
        · omega
    have ht0 := copy_tag h rep reg 0
    have ht1 := copy_tag h rep reg 1
    generalize copyC d rep reg 0 = c0 at *
    generalize copyC d rep reg 1 = c1 at *
    have hlo := fun q a0 n0 k0 a1 n1 k1 w => loaded_any q g rep reg c0 c1 a0 a1 n0 k0 n1 k1 w
    obtain ⟨i, ok, er, hld⟩ : ∃ i ok er, loadedC c0 c1 = (i, ok, er) := ⟨_, _, _, rfl⟩
    have hok := loaded_ok hld
    cases ok
    case false =>
      obtain ⟨hlt, hlf, hle⟩ := hok
      simp only [hld] at hlo ⊢
      clear hld ho hlf hle ht0 ht1
      rw [if_pos trivial]
      go_enter Tryz.func31, Tryz.ntmps31
      refine wp_seq_k (fun K hK => ?_)
      have HK := Lib.hid hK
      clear hK
      go_wp2
      refine HK.out _ _ ?_
      clear HK
      refine wp_seq_k (fun K hK => ?_)
      have HK := Lib.hid hK
      clear hK
      go_wp2_with (go_at_call 105; refine hop.mono ?_; rintro e w1 ⟨⟨q, a0, k0, a1, k1, rfl, hq, Q1, o0, o1⟩, hb1⟩)
      refine HK.out _ _ ?_
      clear HK
      refine wp_seq_k (fun K hK => ?_)
      have HK := Lib.hid hK
      clear hK
      go_wp2
      refine HK.out _ _ ?_
      clear HK
      refine wp_seq_k (fun K hK => ?_)
      have HK := Lib.hid hK
      clear hK
      go_wp2_with (go_at_call 107; refine (hlo q a0 _ k0 a1 _ k1 _ Q1).mono ?_; rintro e w2 ⟨rfl, hb2⟩)
      refine HK.out _ _ ?_
      clear HK
      have Q2 := tr_bl hb2 Q1
      have hb3 := hb1.trans (hb2.mono hb1.size)
      have p0 := o0.below hb2
      have p1 := o1.below hb2
      clear Q1 o0 o1 hb1 hb2 hlo hop
      refine wp_seq_k (fun K hK => ?_)
      have HK := Lib.hid hK
      clear hK
      go_wp2_with fail
      have hbd := (Below.refl w2.heap.size w2).drew
      refine wp_region_cls (C := fun w' => Below w2.heap.size w2 w') (by kernel_rfl) (by kernel_rfl) hbd ?_
      clear hbd
      refine wpQuiet_val (by rfl) ?_ ?_ ?_
      rotate_left
      · intro wS hSw
        go_simp
        (try with_reducible rfl)
      (try simp only [Act.put])
      (try simp only [List.setIfInBounds_toArray])
      (try simp only [List.set_cons_succ])
      (try simp only [List.set_cons_zero])
      refine wpQuiet_val (by rfl) ?_ ?_ ?_
      rotate_left
      · intro wS hSw
        go_simp
        (try with_reducible rfl)
      (try simp only [Act.put])
      (try simp only [List.setIfInBounds_toArray])
      (try simp only [List.set_cons_succ])
      (try simp only [List.set_cons_zero])
      refine wpQuiet_val (by rfl) ?_ ?_ ?_
      rotate_left
      · intro wS hSw
        go_simp
        (try with_reducible rfl)
      (try simp only [Act.put])
      (try simp only [List.setIfInBounds_toArray])
      (try simp only [List.set_cons_succ])
      (try simp only [List.set_cons_zero])
      with_reducible refine wpQuiet_skip ?_ ?_
      · rfl
      (try simp only [Act.put])
      (try simp only [List.setIfInBounds_toArray])
      (try simp only [List.set_cons_succ])
      (try simp only [List.set_cons_zero])
      with_reducible refine wpQuiet_skip ?_ ?_
      · rfl
      (try simp only [Act.put])
      (try simp only [List.setIfInBounds_toArray])
      (try simp only [List.set_cons_succ])
      (try simp only [List.set_cons_zero])
      with_reducible refine wpQuiet_skip ?_ ?_
      · rfl
      (try simp only [Act.put])
      (try simp only [List.setIfInBounds_toArray])
      (try simp only [List.set_cons_succ])
      (try simp only [List.set_cons_zero])
      with_reducible refine wpQuiet_skip ?_ ?_
      · rfl
      (try simp only [Act.put])
      (try simp only [List.setIfInBounds_toArray])
      (try simp only [List.set_cons_succ])
      (try simp only [List.set_cons_zero])
      with_reducible refine wpQuiet_skip ?_ ?_
      · rfl
      (try simp only [Act.put])
      (try simp only [List.setIfInBounds_toArray])
      (try simp only [List.set_cons_succ])
      (try simp only [List.set_cons_zero])
      with_reducible refine wpQuiet_skip ?_ ?_
      · rfl
      (try simp only [Act.put])
      (try simp only [List.setIfInBounds_toArray])
      (try simp only [List.set_cons_succ])
      (try simp only [List.set_cons_zero])
      with_reducible refine wpQuiet_skip ?_ ?_
      · rfl
      (try simp only [Act.put])
      (try simp only [List.setIfInBounds_toArray])
      (try simp only [List.set_cons_succ])
      (try simp only [List.set_cons_zero])
      with_reducible refine wpQuiet_skip ?_ ?_
      · rfl
      (try simp only [Act.put])
      (try simp only [List.setIfInBounds_toArray])
      (try simp only [List.set_cons_succ])
      (try simp only [List.set_cons_zero])
      with_reducible refine wpQuiet_skip ?_ ?_
      · rfl
      (try simp only [Act.put])
      (try simp only [List.setIfInBounds_toArray])
      (try simp only [List.set_cons_succ])
      (try simp only [List.set_cons_zero])
      with_reducible refine wpQuiet_skip ?_ ?_
      · rfl
      (try simp only [Act.put])
      (try simp only [List.setIfInBounds_toArray])
      (try simp only [List.set_cons_succ])
      (try simp only [List.set_cons_zero])
      with_reducible refine wpQuiet_skip ?_ ?_
      · rfl
      (try simp only [Act.put])
      (try simp only [List.setIfInBounds_toArray])
      (try simp only [List.set_cons_succ])
      (try simp only [List.set_cons_zero])
      with_reducible refine wpQuiet_skip ?_ ?_
      · rfl
      (try simp only [Act.put])
      (try simp only [List.setIfInBounds_toArray])
      (try simp only [List.set_cons_succ])
      (try simp only [List.set_cons_zero])
      with_reducible refine wpQuiet_skip ?_ ?_
      · rfl
      (try simp only [Act.put])
      (try simp only [List.setIfInBounds_toArray])
      (try simp only [List.set_cons_succ])
      (try simp only [List.set_cons_zero])
      with_reducible refine wpQuiet_skip ?_ ?_
      · rfl
      (try simp only [Act.put])
      (try simp only [List.setIfInBounds_toArray])
      (try simp only [List.set_cons_succ])
      (try simp only [List.set_cons_zero])
      refine wpQuiet_val (by rfl) ?_ ?_ ?_
      rotate_left
      · intro wS hSw
        go_simp
        (try with_reducible rfl)
      (try simp only [Act.put])
      (try simp only [List.setIfInBounds_toArray])
      (try simp only [List.set_cons_succ])
      (try simp only [List.set_cons_zero])
      refine wpQuiet_nil ?_
      intro wE hE
      have hb4 := hb3.trans (hE.mono hb3.size)
      go_wp2
      go_ret
      exact ⟨rfl, ⟨_, h.below hb4⟩, Kt.of hb4 hb⟩
    case true =>
      obtain ⟨hlt, _, hle⟩ := hok
      have hst := loaded_st hld
      obtain rfl := hle rfl
      simp only [hld] at hlo ⊢
      clear hld ho hle
      rw [if_neg (by simp)]
      rcases (show i = 0 ∨ i = 1 by omega) with rfl | rfl
      · have h1 := hst.1 rfl
        obtain ⟨hmay, hbl⟩ : mayTg c0.tg = true ∧ c0.body.length ≤ 43 := by
          rcases ht0 with ⟨_, hh, _⟩ | ⟨_, h⟩
          · exact absurd h1 hh
          · exact h
        obtain ⟨_, _, _, _, m1, m2, m3, m4⟩ := mayTg_parts hmay
        have hmt := may_cell2 (rep := rep) (reg := reg) (v := c0.tg.idx) (c := c0.tg.inc) (i := 1) hrp hrg (by omega) m1 m2 m3 m4
        simp only [Int.natCast_one] at hmt
        clear hst h1 hmay ht0 ht1 hlt
        have z01 : ((0 : Nat) = 1) = False := by simp
        simp only [z01, if_false, show (1 : Int) - ((0 : Nat) : Int) = 1 from rfl]
        clear z01
        by_cases hsm : c0.st = c1.st ∧ c0.tg.idx = c1.tg.idx ∧ c0.body = c1.body
        case pos =>
          rw [if_pos hsm]
          have hsc := (sameC_iff c0 c1).2 hsm
          have HSC := Lib.hid hsc
          clear hsm hsc
          go_enter Tryz.func31, Tryz.ntmps31
          refine wp_seq_k (fun K hK => ?_)
          have HK := Lib.hid hK
          clear hK
          go_wp2
          refine HK.out _ _ ?_
          clear HK
          refine wp_seq_k (fun K hK => ?_)
          have HK := Lib.hid hK
          clear hK
          go_wp2_with (go_at_call 105; refine hop.mono ?_; rintro e w1 ⟨⟨q, a0, k0, a1, k1, rfl, hq, Q1, o0, o1⟩, hb1⟩)
          refine HK.out _ _ ?_
          clear HK
          refine wp_seq_k (fun K hK => ?_)
          have HK := Lib.hid hK
          clear hK
          go_wp2
          refine HK.out _ _ ?_
          clear HK
          refine wp_seq_k (fun K hK => ?_)
          have HK := Lib.hid hK
          clear hK
          go_wp2_with (go_at_call 107; refine (hlo q a0 _ k0 a1 _ k1 _ Q1).mono ?_; rintro e w2 ⟨rfl, hb2⟩)
          refine HK.out _ _ ?_
          clear HK
          have Q2 := tr_bl hb2 Q1
          have hb3 := hb1.trans (hb2.mono hb1.size)
          have p0 := o0.below hb2
          have p1 := o1.below hb2
          clear Q1 o0 o1 hb1 hb2 hlo hop
          refine wp_seq_k (fun K hK => ?_)
          have HK := Lib.hid hK
          clear hK
          go_wp2_with fail
          have hbd := (Below.refl w2.heap.size w2).drew
          refine wp_region_cls (C := fun w' => Below w2.heap.size w2 w') (by kernel_rfl) (by kernel_rfl) hbd ?_
          clear hbd
          have pother := p1
          refine wpQuiet_val (by rfl) ?_ ?_ ?_
          rotate_left
          · intro wS hSw
            go_simp
            (try with_reducible rfl)
          (try simp only [Act.put])
          (try simp only [List.setIfInBounds_toArray])
          (try simp only [List.set_cons_succ])
          (try simp only [List.set_cons_zero])
          refine wpQuiet_val (by rfl) ?_ ?_ ?_
          rotate_left
          · intro wS hSw
            go_simp
            (try with_reducible rfl)
          (try simp only [Act.put])
          (try simp only [List.setIfInBounds_toArray])
          (try simp only [List.set_cons_succ])
          (try simp only [List.set_cons_zero])
          refine wpQuiet_val (by rfl) ?_ ?_ ?_
          rotate_left
          · intro wS hSw
            go_simp
            (try with_reducible rfl)
          (try simp only [Act.put])
          (try simp only [List.setIfInBounds_toArray])
          (try simp only [List.set_cons_succ])
          (try simp only [List.set_cons_zero])
          refine wpQuiet_val (by rfl) ?_ ?_ ?_
          rotate_left
          · intro wS hSw
            go_simp
            (try with_reducible rfl)
          (try simp only [Act.put])
          (try simp only [List.setIfInBounds_toArray])
          (try simp only [List.set_cons_succ])
          (try simp only [List.set_cons_zero])
          refine wpQuiet_val (by rfl) ?_ ?_ ?_
          rotate_left
          · intro wS hSw
            go_simp
            (try with_reducible rfl)
          (try simp only [Act.put])
          (try simp only [List.setIfInBounds_toArray])
          (try simp only [List.set_cons_succ])
          (try simp only [List.set_cons_zero])
          refine wpQuiet_val (by rfl) ?_ ?_ ?_
          rotate_left
          · intro wS hSw
            go_simp
            (try with_reducible rfl)
          (try simp only [Act.put])
          (try simp only [List.setIfInBounds_toArray])
          (try simp only [List.set_cons_succ])
          (try simp only [List.set_cons_zero])
          refine wpQuiet_val (by rfl) ?_ ?_ ?_
          rotate_left
          · intro wS hSw
            go_simp
            (try with_reducible rfl)
          (try simp only [Act.put])
          (try simp only [List.setIfInBounds_toArray])
          (try simp only [List.set_cons_succ])
          (try simp only [List.set_cons_zero])
          refine wpQuiet_val (by rfl) ?_ ?_ ?_
          rotate_left
          · intro wS hSw
            go_simp
            (try with_reducible rfl)
          (try simp only [Act.put])
          (try simp only [List.setIfInBounds_toArray])
          (try simp only [List.set_cons_succ])
          (try simp only [List.set_cons_zero])
          refine wpQuiet_val (by rfl) (.agg (coA c0.st c0.tg (.slice a0 c0.body.length k0))) (fun wS hSw => exec_ldB 197 _ ⟨_, _, _, _, _, Tryz.isAgg197, Tryz.sizeOf197, rfl, tr_bl hSw Q2, ceA_ld0 _ _ _ _ _ _ _ _ _⟩) ?_
          (try simp only [Act.put])
          (try simp only [List.setIfInBounds_toArray])
          (try simp only [List.set_cons_succ])
          (try simp only [List.set_cons_zero])
          refine wpQuiet_val (by rfl) ?_ ?_ ?_
          rotate_left
          · intro wS hSw
            go_simp
            (try with_reducible rfl)
          (try simp only [Act.put])
          (try simp only [List.setIfInBounds_toArray])
          (try simp only [List.set_cons_succ])
          (try simp only [List.set_cons_zero])
          refine wpQuiet_val (by rfl) ?_ ?_ ?_
          rotate_left
          · intro wS hSw
            go_simp
            (try with_reducible rfl)
          (try simp only [Act.put])
          (try simp only [List.setIfInBounds_toArray])
          (try simp only [List.set_cons_succ])
          (try simp only [List.set_cons_zero])
          refine wpQuiet_val (by rfl) (.int .i64 1) (fun wS hSw => ?_) ?_
          · go_simp; (try rfl)
          (try simp only [Act.put])
          (try simp only [List.setIfInBounds_toArray])
          (try simp only [List.set_cons_succ])
          (try simp only [List.set_cons_zero])
          refine wpQuiet_val (by rfl) ?_ ?_ ?_
          rotate_left
          · intro wS hSw
            go_simp
            (try with_reducible rfl)
          (try simp only [Act.put])
          (try simp only [List.setIfInBounds_toArray])
          (try simp only [List.set_cons_succ])
          (try simp only [List.set_cons_zero])
          refine wpQuiet_val (by rfl) ?_ ?_ ?_
          rotate_left
          · intro wS hSw
            go_simp
            (try with_reducible rfl)
          (try simp only [Act.put])
          (try simp only [List.setIfInBounds_toArray])
          (try simp only [List.set_cons_succ])
          (try simp only [List.set_cons_zero])
          refine wpQuiet_val (by rfl) ?_ ?_ ?_
          rotate_left
          · intro wS hSw
            go_simp
            (try with_reducible rfl)
          (try simp only [Act.put])
          (try simp only [List.setIfInBounds_toArray])
          (try simp only [List.set_cons_succ])
          (try simp only [List.set_cons_zero])
          refine wpQuiet_val (by rfl) (.agg (coA c1.st c1.tg (.slice a1 c1.body.length k1))) (fun wS hSw => exec_ldB 197 _ ⟨_, _, _, _, _, Tryz.isAgg197, Tryz.sizeOf197, rfl, tr_bl hSw Q2, ceA_ld1 _ _ _ _ _ _ _ _ _⟩) ?_
          (try simp only [Act.put])
          (try simp only [List.setIfInBounds_toArray])
          (try simp only [List.set_cons_succ])
          (try simp only [List.set_cons_zero])
          refine wpQuiet_gen (by rfl) (.bool (sameC c0 c1)) (fun wS hSw => ?_) ?_
          · unfold Oper.quietAt
            go_simp
            (try refine ⟨rfl, ?_⟩)
            exact (same_any c0 c1 a0 a1 k0 k1 wS (p0.below hSw).slb (pother.below hSw).slb).mono fun _ _ h => ⟨h.1, step_bl hSw h.2⟩
          (try simp only [Act.put])
          (try simp only [List.setIfInBounds_toArray])
          (try simp only [List.set_cons_succ])
          (try simp only [List.set_cons_zero])
          clear pother
          rw [HSC.out]
          refine wpQuiet_val (by rfl) ?_ ?_ ?_
          rotate_left
          · intro wS hSw
            go_simp
            (try with_reducible rfl)
          (try simp only [Act.put])
          (try simp only [List.setIfInBounds_toArray])
          (try simp only [List.set_cons_succ])
          (try simp only [List.set_cons_zero])
          refine wpQuiet_nil ?_
          intro wE hE
          have hb4 := hb3.trans (hE.mono hb3.size)
          go_wp2
          go_ret
          exact ⟨rfl, ⟨_, h.below hb4⟩, Kt.of hb4 hb⟩
        case neg =>
          rw [if_neg hsm]
          have hsc : sameC c0 c1 = false := by
            cases hh : sameC c0 c1
            · rfl
            · exact absurd ((sameC_iff c0 c1).1 hh) hsm
          have HSC := Lib.hid hsc
          clear hsm hsc
          go_enter Tryz.func31, Tryz.ntmps31
          refine wp_seq_k (fun K hK => ?_)
          have HK := Lib.hid hK
          clear hK
          go_wp2
          refine HK.out _ _ ?_
          clear HK
          refine wp_seq_k (fun K hK => ?_)
          have HK := Lib.hid hK
          clear hK
          go_wp2_with (go_at_call 105; refine hop.mono ?_; rintro e w1 ⟨⟨q, a0, k0, a1, k1, rfl, hq, Q1, o0, o1⟩, hb1⟩)
          refine HK.out _ _ ?_
          clear HK
          refine wp_seq_k (fun K hK => ?_)
          have HK := Lib.hid hK
          clear hK
          go_wp2
          refine HK.out _ _ ?_
          clear HK
          refine wp_seq_k (fun K hK => ?_)
          have HK := Lib.hid hK
          clear hK
          go_wp2_with (go_at_call 107; refine (hlo q a0 _ k0 a1 _ k1 _ Q1).mono ?_; rintro e w2 ⟨rfl, hb2⟩)
          refine HK.out _ _ ?_
          clear HK
          have Q2 := tr_bl hb2 Q1
          have hb3 := hb1.trans (hb2.mono hb1.size)
          have p0 := o0.below hb2
          have p1 := o1.below hb2
          clear Q1 o0 o1 hb1 hb2 hlo hop
          refine wp_seq_k (fun K hK => ?_)
          have HK := Lib.hid hK
          clear hK
          go_wp2_with fail
          have hbd := (Below.refl w2.heap.size w2).drew
          refine wp_region_cls (C := fun w' => Below w2.heap.size w2 w') (by kernel_rfl) (by kernel_rfl) hbd ?_
          clear hbd
          have pother := p1
          refine wpQuiet_val (by rfl) ?_ ?_ ?_
          rotate_left
          · intro wS hSw
            go_simp
            (try with_reducible rfl)
          (try simp only [Act.put])
          (try simp only [List.setIfInBounds_toArray])
          (try simp only [List.set_cons_succ])
          (try simp only [List.set_cons_zero])
          refine wpQuiet_val (by rfl) ?_ ?_ ?_
          rotate_left
          · intro wS hSw
            go_simp
            (try with_reducible rfl)
          (try simp only [Act.put])
          (try simp only [List.setIfInBounds_toArray])
          (try simp only [List.set_cons_succ])
          (try simp only [List.set_cons_zero])
          refine wpQuiet_val (by rfl) ?_ ?_ ?_
          rotate_left
          · intro wS hSw
            go_simp
            (try with_reducible rfl)
          (try simp only [Act.put])
          (try simp only [List.setIfInBounds_toArray])
          (try simp only [List.set_cons_succ])
          (try simp only [List.set_cons_zero])
          refine wpQuiet_val (by rfl) ?_ ?_ ?_
          rotate_left
          · intro wS hSw
            go_simp
            (try with_reducible rfl)
          (try simp only [Act.put])
          (try simp only [List.setIfInBounds_toArray])
          (try simp only [List.set_cons_succ])
          (try simp only [List.set_cons_zero])
          refine wpQuiet_val (by rfl) ?_ ?_ ?_
          rotate_left
          · intro wS hSw
            go_simp
            (try with_reducible rfl)
          (try simp only [Act.put])
          (try simp only [List.setIfInBounds_toArray])
          (try simp only [List.set_cons_succ])
          (try simp only [List.set_cons_zero])
          refine wpQuiet_val (by rfl) ?_ ?_ ?_
          rotate_left
          · intro wS hSw
            go_simp
            (try with_reducible rfl)
          (try simp only [Act.put])
          (try simp only [List.setIfInBounds_toArray])
          (try simp only [List.set_cons_succ])
          (try simp only [List.set_cons_zero])
          refine wpQuiet_val (by rfl) ?_ ?_ ?_
          rotate_left
          · intro wS hSw
            go_simp
            (try with_reducible rfl)
          (try simp only [Act.put])
          (try simp only [List.setIfInBounds_toArray])
          (try simp only [List.set_cons_succ])
          (try simp only [List.set_cons_zero])
          refine wpQuiet_val (by rfl) ?_ ?_ ?_
          rotate_left
          · intro wS hSw
            go_simp
            (try with_reducible rfl)
          (try simp only [Act.put])
          (try simp only [List.setIfInBounds_toArray])
          (try simp only [List.set_cons_succ])
          (try simp only [List.set_cons_zero])
          refine wpQuiet_val (by rfl) (.agg (coA c0.st c0.tg (.slice a0 c0.body.length k0))) (fun wS hSw => exec_ldB 197 _ ⟨_, _, _, _, _, Tryz.isAgg197, Tryz.sizeOf197, rfl, tr_bl hSw Q2, ceA_ld0 _ _ _ _ _ _ _ _ _⟩) ?_
          (try simp only [Act.put])
          (try simp only [List.setIfInBounds_toArray])
          (try simp only [List.set_cons_succ])
          (try simp only [List.set_cons_zero])
          refine wpQuiet_val (by rfl) ?_ ?_ ?_
          rotate_left
          · intro wS hSw
            go_simp
            (try with_reducible rfl)
          (try simp only [Act.put])
          (try simp only [List.setIfInBounds_toArray])
          (try simp only [List.set_cons_succ])
          (try simp only [List.set_cons_zero])
          refine wpQuiet_val (by rfl) ?_ ?_ ?_
          rotate_left
          · intro wS hSw
            go_simp
            (try with_reducible rfl)
          (try simp only [Act.put])
          (try simp only [List.setIfInBounds_toArray])
          (try simp only [List.set_cons_succ])
          (try simp only [List.set_cons_zero])
          refine wpQuiet_val (by rfl) (.int .i64 1) (fun wS hSw => ?_) ?_
          · go_simp; (try rfl)
          (try simp only [Act.put])
          (try simp only [List.setIfInBounds_toArray])
          (try simp only [List.set_cons_succ])
          (try simp only [List.set_cons_zero])
          refine wpQuiet_val (by rfl) ?_ ?_ ?_
          rotate_left
          · intro wS hSw
            go_simp
            (try with_reducible rfl)
          (try simp only [Act.put])
          (try simp only [List.setIfInBounds_toArray])
          (try simp only [List.set_cons_succ])
          (try simp only [List.set_cons_zero])
          refine wpQuiet_val (by rfl) ?_ ?_ ?_
          rotate_left
          · intro wS hSw
            go_simp
            (try with_reducible rfl)
          (try simp only [Act.put])
          (try simp only [List.setIfInBounds_toArray])
          (try simp only [List.set_cons_succ])
          (try simp only [List.set_cons_zero])
          refine wpQuiet_val (by rfl) ?_ ?_ ?_
          rotate_left
          · intro wS hSw
            go_simp
            (try with_reducible rfl)
          (try simp only [Act.put])
          (try simp only [List.setIfInBounds_toArray])
          (try simp only [List.set_cons_succ])
          (try simp only [List.set_cons_zero])
          refine wpQuiet_val (by rfl) (.agg (coA c1.st c1.tg (.slice a1 c1.body.length k1))) (fun wS hSw => exec_ldB 197 _ ⟨_, _, _, _, _, Tryz.isAgg197, Tryz.sizeOf197, rfl, tr_bl hSw Q2, ceA_ld1 _ _ _ _ _ _ _ _ _⟩) ?_
          (try simp only [Act.put])
          (try simp only [List.setIfInBounds_toArray])
          (try simp only [List.set_cons_succ])
          (try simp only [List.set_cons_zero])
          refine wpQuiet_gen (by rfl) (.bool (sameC c0 c1)) (fun wS hSw => ?_) ?_
          · unfold Oper.quietAt
            go_simp
            (try refine ⟨rfl, ?_⟩)
            exact (same_any c0 c1 a0 a1 k0 k1 wS (p0.below hSw).slb (pother.below hSw).slb).mono fun _ _ h => ⟨h.1, step_bl hSw h.2⟩
          (try simp only [Act.put])
          (try simp only [List.setIfInBounds_toArray])
          (try simp only [List.set_cons_succ])
          (try simp only [List.set_cons_zero])
          clear pother
          rw [HSC.out]
          refine wpQuiet_val (by rfl) ?_ ?_ ?_
          rotate_left
          · intro wS hSw
            go_simp
            (try with_reducible rfl)
          (try simp only [Act.put])
          (try simp only [List.setIfInBounds_toArray])
          (try simp only [List.set_cons_succ])
          (try simp only [List.set_cons_zero])
          refine wpQuiet_nil ?_
          intro wE hE
          have Q3 := tr_bl hE Q2
          have hb4 := hb3.trans (hE.mono hb3.size)
          have p2 := p0.below hE
          have hd4 := h.below hb4
          have hk4 := Kt.of hb4 hb
          clear hE hb3 Q2 p0 p1
          go_wp2_with fail
          refine HK.out _ _ ?_
          clear HK
          refine wp_seq_k (fun K hK => ?_)
          have HK := Lib.hid hK
          clear hK
          go_wp2_with (first
            | ((with_reducible refine wpList_ldB 197 _ ?_); refine ⟨rfl, _, ⟨_, _, _, _, _, Tryz.isAgg197, Tryz.sizeOf197, rfl, ‹_›, ceA_ld0 _ _ _ _ _ _ _ _ _⟩, ?_⟩)
            | ((first | (with_reducible refine wpList_stNew 197 _ _ ?_) | (with_reducible refine wp_stNew 197 _ _ ?_)); refine ⟨_, _, ⟨Tryz.sizeOf197, rfl, coA_new _ _ _ _ _⟩, rfl, ?_⟩))
          refine HK.out _ _ ?_
          clear HK
          have X5 := heap_alloc_new wE (Obj.cells (coA c0.st c0.tg (.slice a0 c0.body.length k0)) 197)
          have Q5 := tr_al (Obj.cells (coA c0.st c0.tg (.slice a0 c0.body.length k0)) 197) Q3
          have hbn := blw wE (Obj.cells (coA c0.st c0.tg (.slice a0 c0.body.length k0)) 197)
          have hd5 := hd4.below hbn
          have hs5 := (p2.below hbn).slb
          have hk5 := hk4.trans (Kt.of hbn (Nat.le_trans hb hk4.bl.size))
          clear Q3 p2 hd4 hk4 hbn
          generalize wE.alloc (Obj.cells (coA c0.st c0.tg (.slice a0 c0.body.length k0)) 197) = w5 at *
          generalize wE.heap.size = xb at *
          have x4 := coA_4 X5
          have x5 := coA_5 X5
          have x6 := coA_6 X5
          have hput := cput_any hd5 (Nat.le_trans hb hk5.bl.size) q rep reg _ _ _ _ _ _ Q5 1 c0.tg.idx c0.tg.inc hmt _ _ c0.body hs5 hbl (by omega)
          go_wp2_with (go_at_call 108; refine hput.mono ?_; rintro e w7 ⟨rfl, hd7, hk7⟩)
          go_ret
          exact ⟨rfl, hd7, hk5.trans hk7⟩
      · have h1 := hst.2 rfl
        obtain ⟨hmay, hbl⟩ : mayTg c1.tg = true ∧ c1.body.length ≤ 43 := by
          rcases ht1 with ⟨_, hh, _⟩ | ⟨_, h⟩
          · exact absurd h1 hh
          · exact h
        obtain ⟨_, _, _, _, m1, m2, m3, m4⟩ := mayTg_parts hmay
        have hmt := may_cell2 (rep := rep) (reg := reg) (v := c1.tg.idx) (c := c1.tg.inc) (i := 0) hrp hrg (by omega) m1 m2 m3 m4
        simp only [Int.natCast_zero] at hmt
        clear hst h1 hmay ht0 ht1 hlt
        simp only [if_true, show (1 : Int) - ((1 : Nat) : Int) = 0 from rfl]
        by_cases hsm : c1.st = c0.st ∧ c1.tg.idx = c0.tg.idx ∧ c1.body = c0.body
        case pos =>
          rw [if_pos hsm]
          have hsc := (sameC_iff c1 c0).2 hsm
          have HSC := Lib.hid hsc
          clear hsm hsc
          go_enter Tryz.func31, Tryz.ntmps31
          refine wp_seq_k (fun K hK => ?_)
          have HK := Lib.hid hK
          clear hK
          go_wp2
          refine HK.out _ _ ?_
          clear HK
          refine wp_seq_k (fun K hK => ?_)
          have HK := Lib.hid hK
          clear hK
          go_wp2_with (go_at_call 105; refine hop.mono ?_; rintro e w1 ⟨⟨q, a0, k0, a1, k1, rfl, hq, Q1, o0, o1⟩, hb1⟩)
          refine HK.out _ _ ?_
          clear HK
          refine wp_seq_k (fun K hK => ?_)
          have HK := Lib.hid hK
          clear hK
          go_wp2
          refine HK.out _ _ ?_
          clear HK
          refine wp_seq_k (fun K hK => ?_)
          have HK := Lib.hid hK
          clear hK
          go_wp2_with (go_at_call 107; refine (hlo q a0 _ k0 a1 _ k1 _ Q1).mono ?_; rintro e w2 ⟨rfl, hb2⟩)
          refine HK.out _ _ ?_
          clear HK
          have Q2 := tr_bl hb2 Q1
          have hb3 := hb1.trans (hb2.mono hb1.size)
          have p0 := o0.below hb2
          have p1 := o1.below hb2
          clear Q1 o0 o1 hb1 hb2 hlo hop
          refine wp_seq_k (fun K hK => ?_)
          have HK := Lib.hid hK
          clear hK
          go_wp2_with fail
          have hbd := (Below.refl w2.heap.size w2).drew
          refine wp_region_cls (C := fun w' => Below w2.heap.size w2 w') (by kernel_rfl) (by kernel_rfl) hbd ?_
          clear hbd
          have pother := p0
          refine wpQuiet_val (by rfl) ?_ ?_ ?_
          rotate_left
          · intro wS hSw
            go_simp
            (try with_reducible rfl)
          (try simp only [Act.put])
          (try simp only [List.setIfInBounds_toArray])
          (try simp only [List.set_cons_succ])
          (try simp only [List.set_cons_zero])
          refine wpQuiet_val (by rfl) ?_ ?_ ?_
          rotate_left
          · intro wS hSw
            go_simp
            (try with_reducible rfl)
          (try simp only [Act.put])
          (try simp only [List.setIfInBounds_toArray])
          (try simp only [List.set_cons_succ])
          (try simp only [List.set_cons_zero])
          refine wpQuiet_val (by rfl) ?_ ?_ ?_
          rotate_left
          · intro wS hSw
            go_simp
            (try with_reducible rfl)
          (try simp only [Act.put])
          (try simp only [List.setIfInBounds_toArray])
          (try simp only [List.set_cons_succ])
          (try simp only [List.set_cons_zero])
          refine wpQuiet_val (by rfl) ?_ ?_ ?_
          rotate_left
          · intro wS hSw
            go_simp
            (try with_reducible rfl)
          (try simp only [Act.put])
          (try simp only [List.setIfInBounds_toArray])
          (try simp only [List.set_cons_succ])
          (try simp only [List.set_cons_zero])
          refine wpQuiet_val (by rfl) ?_ ?_ ?_
          rotate_left
          · intro wS hSw
            go_simp
            (try with_reducible rfl)
          (try simp only [Act.put])
          (try simp only [List.setIfInBounds_toArray])
          (try simp only [List.set_cons_succ])
          (try simp only [List.set_cons_zero])
          refine wpQuiet_val (by rfl) ?_ ?_ ?_
          rotate_left
          · intro wS hSw
            go_simp
            (try with_reducible rfl)
          (try simp only [Act.put])
          (try simp only [List.setIfInBounds_toArray])
          (try simp only [List.set_cons_succ])
          (try simp only [List.set_cons_zero])
          refine wpQuiet_val (by rfl) ?_ ?_ ?_
          rotate_left
          · intro wS hSw
            go_simp
            (try with_reducible rfl)
          (try simp only [Act.put])
          (try simp only [List.setIfInBounds_toArray])
          (try simp only [List.set_cons_succ])
          (try simp only [List.set_cons_zero])
          refine wpQuiet_val (by rfl) ?_ ?_ ?_
          rotate_left
          · intro wS hSw
            go_simp
            (try with_reducible rfl)
          (try simp only [Act.put])
          (try simp only [List.setIfInBounds_toArray])
          (try simp only [List.set_cons_succ])
          (try simp only [List.set_cons_zero])
          refine wpQuiet_val (by rfl) (.agg (coA c1.st c1.tg (.slice a1 c1.body.length k1))) (fun wS hSw => exec_ldB 197 _ ⟨_, _, _, _, _, Tryz.isAgg197, Tryz.sizeOf197, rfl, tr_bl hSw Q2, ceA_ld1 _ _ _ _ _ _ _ _ _⟩) ?_
          (try simp only [Act.put])
          (try simp only [List.setIfInBounds_toArray])
          (try simp only [List.set_cons_succ])
          (try simp only [List.set_cons_zero])
          refine wpQuiet_val (by rfl) ?_ ?_ ?_
          rotate_left
          · intro wS hSw
            go_simp
            (try with_reducible rfl)
          (try simp only [Act.put])
          (try simp only [List.setIfInBounds_toArray])
          (try simp only [List.set_cons_succ])
          (try simp only [List.set_cons_zero])
          refine wpQuiet_val (by rfl) ?_ ?_ ?_
          rotate_left
          · intro wS hSw
            go_simp
            (try with_reducible rfl)
          (try simp only [Act.put])
          (try simp only [List.setIfInBounds_toArray])
          (try simp only [List.set_cons_succ])
          (try simp only [List.set_cons_zero])
          refine wpQuiet_val (by rfl) (.int .i64 0) (fun wS hSw => ?_) ?_
          · go_simp; (try rfl)
          (try simp only [Act.put])
          (try simp only [List.setIfInBounds_toArray])
          (try simp only [List.set_cons_succ])
          (try simp only [List.set_cons_zero])
          refine wpQuiet_val (by rfl) ?_ ?_ ?_
          rotate_left
          · intro wS hSw
            go_simp
            (try with_reducible rfl)
          (try simp only [Act.put])
          (try simp only [List.setIfInBounds_toArray])
          (try simp only [List.set_cons_succ])
          (try simp only [List.set_cons_zero])
          refine wpQuiet_val (by rfl) ?_ ?_ ?_
          rotate_left
          · intro wS hSw
            go_simp
            (try with_reducible rfl)
          (try simp only [Act.put])
          (try simp only [List.setIfInBounds_toArray])
          (try simp only [List.set_cons_succ])
          (try simp only [List.set_cons_zero])
          refine wpQuiet_val (by rfl) ?_ ?_ ?_
          rotate_left
          · intro wS hSw
            go_simp
            (try with_reducible rfl)
          (try simp only [Act.put])
          (try simp only [List.setIfInBounds_toArray])
          (try simp only [List.set_cons_succ])
          (try simp only [List.set_cons_zero])
          refine wpQuiet_val (by rfl) (.agg (coA c0.st c0.tg (.slice a0 c0.body.length k0))) (fun wS hSw => exec_ldB 197 _ ⟨_, _, _, _, _, Tryz.isAgg197, Tryz.sizeOf197, rfl, tr_bl hSw Q2, ceA_ld0 _ _ _ _ _ _ _ _ _⟩) ?_
          (try simp only [Act.put])
          (try simp only [List.setIfInBounds_toArray])
          (try simp only [List.set_cons_succ])
          (try simp only [List.set_cons_zero])
          refine wpQuiet_gen (by rfl) (.bool (sameC c1 c0)) (fun wS hSw => ?_) ?_
          · unfold Oper.quietAt
            go_simp
            (try refine ⟨rfl, ?_⟩)
            exact (same_any c1 c0 a1 a0 k1 k0 wS (p1.below hSw).slb (pother.below hSw).slb).mono fun _ _ h => ⟨h.1, step_bl hSw h.2⟩
          (try simp only [Act.put])
          (try simp only [List.setIfInBounds_toArray])
          (try simp only [List.set_cons_succ])
          (try simp only [List.set_cons_zero])
          clear pother
          rw [HSC.out]
          refine wpQuiet_val (by rfl) ?_ ?_ ?_
          rotate_left
          · intro wS hSw
            go_simp
            (try with_reducible rfl)
          (try simp only [Act.put])
          (try simp only [List.setIfInBounds_toArray])
          (try simp only [List.set_cons_succ])
          (try simp only [List.set_cons_zero])
          refine wpQuiet_nil ?_
          intro wE hE
          have hb4 := hb3.trans (hE.mono hb3.size)
          go_wp2
          go_ret
          exact ⟨rfl, ⟨_, h.below hb4⟩, Kt.of hb4 hb⟩
        case neg =>
          rw [if_neg hsm]
          have hsc : sameC c1 c0 = false := by
            cases hh : sameC c1 c0
            · rfl
            · exact absurd ((sameC_iff c1 c0).1 hh) hsm
          have HSC := Lib.hid hsc
          clear hsm hsc
          go_enter Tryz.func31, Tryz.ntmps31
          refine wp_seq_k (fun K hK => ?_)
          have HK := Lib.hid hK
          clear hK
          go_wp2
          refine HK.out _ _ ?_
          clear HK
          refine wp_seq_k (fun K hK => ?_)
          have HK := Lib.hid hK
          clear hK
          go_wp2_with (go_at_call 105; refine hop.mono ?_; rintro e w1 ⟨⟨q, a0, k0, a1, k1, rfl, hq, Q1, o0, o1⟩, hb1⟩)
          refine HK.out _ _ ?_
          clear HK
          refine wp_seq_k (fun K hK => ?_)
          have HK := Lib.hid hK
          clear hK
          go_wp2
          refine HK.out _ _ ?_
          clear HK
          refine wp_seq_k (fun K hK => ?_)
          have HK := Lib.hid hK
          clear hK
          go_wp2_with (go_at_call 107; refine (hlo q a0 _ k0 a1 _ k1 _ Q1).mono ?_; rintro e w2 ⟨rfl, hb2⟩)
          refine HK.out _ _ ?_
          clear HK
          have Q2 := tr_bl hb2 Q1
          have hb3 := hb1.trans (hb2.mono hb1.size)
          have p0 := o0.below hb2
          have p1 := o1.below hb2
          clear Q1 o0 o1 hb1 hb2 hlo hop
          refine wp_seq_k (fun K hK => ?_)
          have HK := Lib.hid hK
          clear hK
          go_wp2_with fail
          have hbd := (Below.refl w2.heap.size w2).drew
          refine wp_region_cls (C := fun w' => Below w2.heap.size w2 w') (by kernel_rfl) (by kernel_rfl) hbd ?_
          clear hbd
          have pother := p0
          refine wpQuiet_val (by rfl) ?_ ?_ ?_
          rotate_left
          · intro wS hSw
            go_simp
            (try with_reducible rfl)
          (try simp only [Act.put])
          (try simp only [List.setIfInBounds_toArray])
          (try simp only [List.set_cons_succ])
          (try simp only [List.set_cons_zero])
          refine wpQuiet_val (by rfl) ?_ ?_ ?_
          rotate_left
          · intro wS hSw
            go_simp
            (try with_reducible rfl)
          (try simp only [Act.put])
          (try simp only [List.setIfInBounds_toArray])
          (try simp only [List.set_cons_succ])
          (try simp only [List.set_cons_zero])
          refine wpQuiet_val (by rfl) ?_ ?_ ?_
          rotate_left
          · intro wS hSw
            go_simp
            (try with_reducible rfl)
          (try simp only [Act.put])
          (try simp only [List.setIfInBounds_toArray])
          (try simp only [List.set_cons_succ])
          (try simp only [List.set_cons_zero])
          refine wpQuiet_val (by rfl) ?_ ?_ ?_
          rotate_left
          · intro wS hSw
            go_simp
            (try with_reducible rfl)
          (try simp only [Act.put])
          (try simp only [List.setIfInBounds_toArray])
          (try simp only [List.set_cons_succ])
          (try simp only [List.set_cons_zero])
          refine wpQuiet_val (by rfl) ?_ ?_ ?_
          rotate_left
          · intro wS hSw
            go_simp
            (try with_reducible rfl)
          (try simp only [Act.put])
          (try simp only [List.setIfInBounds_toArray])
          (try simp only [List.set_cons_succ])
          (try simp only [List.set_cons_zero])
          refine wpQuiet_val (by rfl) ?_ ?_ ?_
          rotate_left
          · intro wS hSw
            go_simp
            (try with_reducible rfl)
          (try simp only [Act.put])
          (try simp only [List.setIfInBounds_toArray])
          (try simp only [List.set_cons_succ])
          (try simp only [List.set_cons_zero])
          refine wpQuiet_val (by rfl) ?_ ?_ ?_
          rotate_left
          · intro wS hSw
            go_simp
            (try with_reducible rfl)
          (try simp only [Act.put])
          (try simp only [List.setIfInBounds_toArray])
          (try simp only [List.set_cons_succ])
          (try simp only [List.set_cons_zero])
          refine wpQuiet_val (by rfl) ?_ ?_ ?_
          rotate_left
          · intro wS hSw
            go_simp
            (try with_reducible rfl)
          (try simp only [Act.put])
          (try simp only [List.setIfInBounds_toArray])
          (try simp only [List.set_cons_succ])
          (try simp only [List.set_cons_zero])
          refine wpQuiet_val (by rfl) (.agg (coA c1.st c1.tg (.slice a1 c1.body.length k1))) (fun wS hSw => exec_ldB 197 _ ⟨_, _, _, _, _, Tryz.isAgg197, Tryz.sizeOf197, rfl, tr_bl hSw Q2, ceA_ld1 _ _ _ _ _ _ _ _ _⟩) ?_
          (try simp only [Act.put])
          (try simp only [List.setIfInBounds_toArray])
          (try simp only [List.set_cons_succ])
          (try simp only [List.set_cons_zero])
          refine wpQuiet_val (by rfl) ?_ ?_ ?_
          rotate_left
          · intro wS hSw
            go_simp
            (try with_reducible rfl)
          (try simp only [Act.put])
          (try simp only [List.setIfInBounds_toArray])
          (try simp only [List.set_cons_succ])
          (try simp only [List.set_cons_zero])
          refine wpQuiet_val (by rfl) ?_ ?_ ?_
          rotate_left
          · intro wS hSw
            go_simp
            (try with_reducible rfl)
          (try simp only [Act.put])
          (try simp only [List.setIfInBounds_toArray])
          (try simp only [List.set_cons_succ])
          (try simp only [List.set_cons_zero])
          refine wpQuiet_val (by rfl) (.int .i64 0) (fun wS hSw => ?_) ?_
          · go_simp; (try rfl)
          (try simp only [Act.put])
          (try simp only [List.setIfInBounds_toArray])
          (try simp only [List.set_cons_succ])
          (try simp only [List.set_cons_zero])
          refine wpQuiet_val (by rfl) ?_ ?_ ?_
          rotate_left
          · intro wS hSw
            go_simp
            (try with_reducible rfl)
          (try simp only [Act.put])
          (try simp only [List.setIfInBounds_toArray])
          (try simp only [List.set_cons_succ])
          (try simp only [List.set_cons_zero])
          refine wpQuiet_val (by rfl) ?_ ?_ ?_
          rotate_left
          · intro wS hSw
            go_simp
            (try with_reducible rfl)
          (try simp only [Act.put])
          (try simp only [List.setIfInBounds_toArray])
          (try simp only [List.set_cons_succ])
          (try simp only [List.set_cons_zero])
          refine wpQuiet_val (by rfl) ?_ ?_ ?_
          rotate_left
          · intro wS hSw
            go_simp
            (try with_reducible rfl)
          (try simp only [Act.put])
          (try simp only [List.setIfInBounds_toArray])
          (try simp only [List.set_cons_succ])
          (try simp only [List.set_cons_zero])
          refine wpQuiet_val (by rfl) (.agg (coA c0.st c0.tg (.slice a0 c0.body.length k0))) (fun wS hSw => exec_ldB 197 _ ⟨_, _, _, _, _, Tryz.isAgg197, Tryz.sizeOf197, rfl, tr_bl hSw Q2, ceA_ld0 _ _ _ _ _ _ _ _ _⟩) ?_
          (try simp only [Act.put])
          (try simp only [List.setIfInBounds_toArray])
          (try simp only [List.set_cons_succ])
          (try simp only [List.set_cons_zero])
          refine wpQuiet_gen (by rfl) (.bool (sameC c1 c0)) (fun wS hSw => ?_) ?_
          · unfold Oper.quietAt
            go_simp
            (try refine ⟨rfl, ?_⟩)
            exact (same_any c1 c0 a1 a0 k1 k0 wS (p1.below hSw).slb (pother.below hSw).slb).mono fun _ _ h => ⟨h.1, step_bl hSw h.2⟩
          (try simp only [Act.put])
          (try simp only [List.setIfInBounds_toArray])
          (try simp only [List.set_cons_succ])
          (try simp only [List.set_cons_zero])
          clear pother
          rw [HSC.out]
          refine wpQuiet_val (by rfl) ?_ ?_ ?_
          rotate_left
          · intro wS hSw
            go_simp
            (try with_reducible rfl)
          (try simp only [Act.put])
          (try simp only [List.setIfInBounds_toArray])
          (try simp only [List.set_cons_succ])
          (try simp only [List.set_cons_zero])
          refine wpQuiet_nil ?_
          intro wE hE
          have Q3 := tr_bl hE Q2
          have hb4 := hb3.trans (hE.mono hb3.size)
          have p2 := p1.below hE
          have hd4 := h.below hb4
          have hk4 := Kt.of hb4 hb
          clear hE hb3 Q2 p0 p1
          go_wp2_with fail
          refine HK.out _ _ ?_
          clear HK
          refine wp_seq_k (fun K hK => ?_)
          have HK := Lib.hid hK
          clear hK
          go_wp2_with (first
            | ((with_reducible refine wpList_ldB 197 _ ?_); refine ⟨rfl, _, ⟨_, _, _, _, _, Tryz.isAgg197, Tryz.sizeOf197, rfl, ‹_›, ceA_ld1 _ _ _ _ _ _ _ _ _⟩, ?_⟩)
            | ((first | (with_reducible refine wpList_stNew 197 _ _ ?_) | (with_reducible refine wp_stNew 197 _ _ ?_)); refine ⟨_, _, ⟨Tryz.sizeOf197, rfl, coA_new _ _ _ _ _⟩, rfl, ?_⟩))
          refine HK.out _ _ ?_
          clear HK
          have X5 := heap_alloc_new wE (Obj.cells (coA c1.st c1.tg (.slice a1 c1.body.length k1)) 197)
          have Q5 := tr_al (Obj.cells (coA c1.st c1.tg (.slice a1 c1.body.length k1)) 197) Q3
          have hbn := blw wE (Obj.cells (coA c1.st c1.tg (.slice a1 c1.body.length k1)) 197)
          have hd5 := hd4.below hbn
          have hs5 := (p2.below hbn).slb
          have hk5 := hk4.trans (Kt.of hbn (Nat.le_trans hb hk4.bl.size))
          clear Q3 p2 hd4 hk4 hbn
          generalize wE.alloc (Obj.cells (coA c1.st c1.tg (.slice a1 c1.body.length k1)) 197) = w5 at *
          generalize wE.heap.size = xb at *
          have x4 := coA_4 X5
          have x5 := coA_5 X5
          have x6 := coA_6 X5
          have hput := cput_any hd5 (Nat.le_trans hb hk5.bl.size) q rep reg _ _ _ _ _ _ Q5 0 c1.tg.idx c1.tg.inc hmt _ _ c1.body hs5 hbl (by omega)
          go_wp2_with (go_at_call 108; refine hput.mono ?_; rintro e w7 ⟨rfl, hd7, hk7⟩)
          go_ret
          exact ⟨rfl, hd7, hk5.trans hk7⟩
end
end Go.Proofs.YthfolocjkpiljaaGreatDoor

namespace Go.Proofs.YthfolocjkpiljaaGreatDoor
open Go.RowKit

def ShB (w : World) (q g : Nat) (s : Sh) : Prop := w.heap[q]? = some (.cells #[.int .i64 s.idx, .int .i64 s.area, .int .i64 s.cnt, .pointer (some ⟨g, 0, none⟩), .int .i64 s.rep, .int .i64 s.inc] 239 (0, 0))
section
variable {w w' : World} {q g : Nat} {s : Sh}
theorem ShB.below (h : ShB w q g s) (hb : Below w.heap.size w w') : ShB w' q g s := tr_bl hb h
theorem ShB.kt {B : Nat} (h : ShB w q g s) (hk : Kt B w w') : ShB w' q g s := hk.ty _ _ _ h (by decide) (by decide) (by decide)
theorem ShB.al (h : ShB w q g s) (o : Obj) : ShB (w.alloc o) q g s := tr_al o h
theorem ShB.c0 (h : ShB w q g s) : w.cell? ⟨q, 0, none⟩ = some (.int .i64 s.idx) := blk_cell h 0 _ rfl
theorem ShB.c1 (h : ShB w q g s) : w.cell? ⟨q, 1, none⟩ = some (.int .i64 s.area) := blk_cell h 1 _ rfl
theorem ShB.c2 (h : ShB w q g s) : w.cell? ⟨q, 2, none⟩ = some (.int .i64 s.cnt) := blk_cell h 2 _ rfl
theorem ShB.c3 (h : ShB w q g s) : w.cell? ⟨q, 3, none⟩ = some (.pointer (some ⟨g, 0, none⟩)) := blk_cell h 3 _ rfl
theorem ShB.c4 (h : ShB w q g s) : w.cell? ⟨q, 4, none⟩ = some (.int .i64 s.rep) := blk_cell h 4 _ rfl
theorem ShB.c5 (h : ShB w q g s) : w.cell? ⟨q, 5, none⟩ = some (.int .i64 s.inc) := blk_cell h 5 _ rfl
set_option maxRecDepth 100000 in
theorem snone_any (h : ShB w q g s) : Calls Tryz.prog 141 #[.pointer (some ⟨q, 0, none⟩)] w fun e w' => e = .returned (.bool false) ∧ w = w' := by
  have c3 := h.c3
  go_enter Tryz.func141, Tryz.ntmps141
  go_wp2
  go_ret
  exact ⟨ret_bool rfl, rfl⟩
set_option maxRecDepth 100000 in
theorem sindex_any (h : ShB w q g s) : Calls Tryz.prog 80 #[.pointer (some ⟨q, 0, none⟩)] w fun e w' => e = .returned (.int .i64 s.idx) ∧ w = w' := by
  have c0 := h.c0
  go_enter Tryz.func80, Tryz.ntmps80
  go_wp2_with (go_at_call 141; refine (snone_any h).mono ?_; rintro e w1 ⟨rfl, rfl⟩)
  go_ret
  exact ⟨rfl, rfl⟩
set_option maxRecDepth 100000 in
theorem scount_any (h : ShB w q g s) : Calls Tryz.prog 82 #[.pointer (some ⟨q, 0, none⟩)] w fun e w' => e = .returned (.int .i64 s.cnt) ∧ w = w' := by
  have c2 := h.c2
  go_enter Tryz.func82, Tryz.ntmps82
  go_wp2_with (go_at_call 141; refine (snone_any h).mono ?_; rintro e w1 ⟨rfl, rfl⟩)
  go_ret
  exact ⟨rfl, rfl⟩
variable {B gp : Nat} {wv : Value} {d : Dk}
set_option maxRecDepth 100000 in
theorem sasked_any (h : ShB w q g s) (hd : DiskB B g gp wv d w) (k : Int) : Calls Tryz.prog 156 #[.pointer (some ⟨q, 0, none⟩), .int .i64 k] w fun e w' => e = .returned (.int .i64 (askedS d s k)) ∧ w = w' := by
  have c2 := h.c2
  have c3 := h.c3
  unfold askedS
  by_cases h1 : k < 0
  · rw [if_pos (.inl h1)]
    have HU := Lib.hid (rfl : upD d = upD d)
    go_enter Tryz.func156, Tryz.ntmps156
    go_wp2_with (first
      | (go_at_call 141; refine (snone_any h).mono ?_; rintro e w1 ⟨rfl, rfl⟩)
      | (go_at_call 129; refine (up_any hd).mono ?_; rintro e w2 ⟨rfl, rfl⟩; rw [HU.out]))
    go_ret
    exact ⟨rfl, rfl⟩
  by_cases h2 : s.cnt ≤ k
  · rw [if_pos (.inr h2)]
    have HU := Lib.hid (rfl : upD d = upD d)
    go_enter Tryz.func156, Tryz.ntmps156
    go_wp2_with (first
      | (go_at_call 141; refine (snone_any h).mono ?_; rintro e w1 ⟨rfl, rfl⟩)
      | (go_at_call 129; refine (up_any hd).mono ?_; rintro e w2 ⟨rfl, rfl⟩; rw [HU.out]))
    go_ret
    exact ⟨rfl, rfl⟩
  rw [if_neg (by omega)]
  have h2' : ¬ s.cnt ≤ k := h2
  cases hu : upD d
  · rw [if_pos rfl]
    have HU := Lib.hid hu
    clear hu
    go_enter Tryz.func156, Tryz.ntmps156
    go_wp2_with (first
      | (go_at_call 141; refine (snone_any h).mono ?_; rintro e w1 ⟨rfl, rfl⟩)
      | (go_at_call 129; refine (up_any hd).mono ?_; rintro e w2 ⟨rfl, rfl⟩; rw [HU.out]))
    go_ret
    exact ⟨rfl, rfl⟩
  · rw [if_neg (by simp)]
    have HU := Lib.hid hu
    clear hu
    go_enter Tryz.func156, Tryz.ntmps156
    go_wp2_with (first
      | (go_at_call 141; refine (snone_any h).mono ?_; rintro e w1 ⟨rfl, rfl⟩)
      | (go_at_call 129; refine (up_any hd).mono ?_; rintro e w2 ⟨rfl, rfl⟩; rw [HU.out]))
    go_ret
    exact ⟨rfl, rfl⟩
end
end Go.Proofs.YthfolocjkpiljaaGreatDoor

namespace Go.Proofs.YthfolocjkpiljaaGreatDoor
open Go.RowKit

theorem OwnS.of_owns {w : World} {base : Nat} {v : Value} {l : List UInt8} (h : w.ownsRow base 5 1 v l.length (bys l)) : ∃ a c, v = .slice a l.length c ∧ OwnS w base a c l := by
  rcases h.2 with ⟨h1, h2⟩ | ⟨g, c, cur, h1, h2, h3, h4, h5, h6, h7⟩
  · have h00 : l = [] := List.eq_nil_of_length_eq_zero h2
    subst h00
    exact ⟨none, 0, h1, OwnB.none _ _, Nat.le_refl _, by decide, fun _ => rfl⟩
  · refine ⟨some ⟨g, 0, none⟩, c, h1, ?_, h4, h5, fun e => by cases e⟩
    refine .inr ⟨g, cur.toList.drop (bys l).length, rfl, h2, Nat.le_refl _, Nat.le_trans h4 h5, ?_⟩
    rw [Nat.mul_one] at h7
    have e : bys l ++ cur.toList.drop (bys l).length = cur.toList := by
      rw [bys_len, ← h7, List.take_append_drop]
    rw [e, Array.toArray_toList]
    exact h3
theorem man_cells {w : World} {q : Nat} {i a c : Int} {T : TypeId} (h : w.heap[q]? = some (.cells #[.int .i64 i, .int .i64 a, .int .i64 c] T (0, 0))) : w.cell? ⟨q, 0, none⟩ = some (.int .i64 i) ∧ w.cell? ⟨q, 1, none⟩ = some (.int .i64 a) ∧ w.cell? ⟨q, 2, none⟩ = some (.int .i64 c) :=
  ⟨blk_cell h 0 _ rfl, blk_cell h 1 _ rfl, blk_cell h 2 _ rfl⟩
set_option maxRecDepth 100000 in
theorem sbody_any (i a c : Int) (hm : mayMan i a c) (w : World) : Calls Tryz.prog 145 #[.agg #[.int .i64 i, .int .i64 a, .int .i64 c]] w fun e w' => (∃ a' c', e = .returned (.slice a' 8 c') ∧ OwnS w' w.heap.size a' c' (manB i a c)) ∧ Below w.heap.size w w' := by
  obtain ⟨h1, h2, h3, h4, h5, h6⟩ := hm
  have HL := Lib.hid (show oputL 6 i = le 6 i.toNat from oput_one (k := 6) (by omega) (by show _ < 281474976710656; omega))
  have W1 : IntKind.u8.wrap a = a := IntWalk.u8_in _ (by omega)
  have W2 : IntKind.u8.wrap c = c := IntWalk.u8_in _ (by omega)
  have hby : bys (le 6 i.toNat) ++ [Value.int .u8 a, .int .u8 c] = bys (manB i a c) := by
    unfold manB
    rw [bys_app]
    unfold bys
    simp only [List.map_cons, List.map_nil]
    unfold byv
    rw [u8_nat a (by omega) (by omega), u8_nat c (by omega) (by omega)]
  have HB := Lib.hid hby
  clear hby
  go_enter Tryz.func145, Tryz.ntmps145
  refine wp_seq_k (fun K hK => ?_)
  have HK := Lib.hid hK
  clear hK
  go_wp2
  refine HK.out _ _ ?_
  clear HK
  have hb0 := blw w (Obj.cells #[.int .i64 i, .int .i64 a, .int .i64 c] 237)
  have B1 := heap_alloc_new w (Obj.cells #[.int .i64 i, .int .i64 a, .int .i64 c] 237)
  obtain ⟨q0, q1, q2⟩ := man_cells B1
  generalize hw0 : w.alloc (Obj.cells #[.int .i64 i, .int .i64 a, .int .i64 c] 237) = w0 at *
  clear hw0
  refine wp_seq_k (fun K hK => ?_)
  have HK := Lib.hid hK
  clear hK
  go_wp2_with (go_at_call 215; refine (put_any 6 i _).mono ?_; rintro e w2 ⟨⟨v2, rfl, ho2⟩, hb2⟩; rw [HL.out, le_len] at ho2)
  refine HK.out _ _ ?_
  clear HK
  have B2 := tr_bl hb2 B1
  obtain ⟨r0, r1, r2⟩ := man_cells B2
  have hb3 := hb0.trans (hb2.mono hb0.size)
  clear q0 q1 q2 B1
  have hbn := blw w2 (Obj.cells #[.int .u8 a, .int .u8 c] 5)
  have ho3 := owns_bl ho2 hbn
  have hrow : Row (w2.alloc (Obj.cells #[.int .u8 a, .int .u8 c] 5)) (some ⟨w2.heap.size, 0, none⟩) [Value.int .u8 a, .int .u8 c] := Row.of_block (heap_alloc_new w2 _) 0 (fun j u hu => by simpa using hu)
  have hsz := Nat.le_trans hb2.size hbn.size
  have hsz0 := hb0.size
  refine wp_seq_k (fun K hK => ?_)
  have HK := Lib.hid hK
  clear hK
  go_wp2_with (at_builtin; refine wpList_append_row rfl _ _ 34 5 elByte rfl w0.heap.size _ 6 (bys (le 6 i.toNat)) rfl ho3 (some ⟨w2.heap.size, 0, none⟩) 2 2 [Value.int .u8 a, .int .u8 c] rfl rfl hrow (by simp [Value.oneCell']) (by omega) (by decide) hsz ?_; intro v4 w4 ho4 hb4)
  refine HK.out _ _ ?_
  clear HK
  rw [HB.out] at ho4
  go_wp2
  go_ret
  obtain ⟨a', c', rfl, hO⟩ := OwnS.of_owns (l := manB i a c) ho4
  exact ⟨⟨a', c', rfl, hO.mono hsz0⟩, hb3.trans ((hbn.mono hb3.size).trans (hb4.mono hsz0))⟩
/-! parse. -/
theorem st3s (x : Array Value) (hx : x.size = 3) (a b c : Int) : 0 + 3 ≤ x.size ∧ (Value.agg #[.int .i64 a, .int .i64 b, .int .i64 c]).cells.size = 3 ∧ (∀ u ∈ (Value.agg #[.int .i64 a, .int .i64 b, .int .i64 c]).cells.toList, u.oneCell' = true) ∧ (x.toList.take 0 ++ (Value.agg #[.int .i64 a, .int .i64 b, .int .i64 c]).cells.toList ++ x.toList.drop (0 + 3)).toArray = #[.int .i64 a, .int .i64 b, .int .i64 c] := by
  refine ⟨by omega, rfl, by simp [Value.cells, Value.oneCell'], ?_⟩
  rw [List.drop_of_length_le (by rw [Array.length_toList]; omega)]
  rfl
theorem ld3s (a b c : Int) : 0 + 3 ≤ (#[Value.int .i64 a, .int .i64 b, .int .i64 c]).size ∧ (#[Value.int .i64 a, .int .i64 b, .int .i64 c]).extract 0 (0 + 3) = #[Value.int .i64 a, .int .i64 b, .int .i64 c] := ⟨Nat.le_refl 3, rfl⟩
theorem new3s (a b c : Int) : (Value.agg #[.int .i64 a, .int .i64 b, .int .i64 c]).cells = #[.int .i64 a, .int .i64 b, .int .i64 c] ∧ (#[Value.int .i64 a, .int .i64 b, .int .i64 c]).size = 3 ∧ ∀ u ∈ (#[Value.int .i64 a, .int .i64 b, .int .i64 c]).toList, u.oneCell' = true := ⟨rfl, rfl, by simp [Value.oneCell']⟩
def manV (m : Int × Int × Int) : Value := .agg #[.int .i64 m.1, .int .i64 m.2.1, .int .i64 m.2.2]
set_option maxRecDepth 100000 in
set_option maxHeartbeats 1000000 in
theorem sparse_any (a : Option Addr) (cap : Nat) (b : List UInt8) (w : World) (hs : SlB w a cap b) (hl : b.length ≤ 1000) : Calls Tryz.prog 148 #[.slice a b.length cap] w fun e w' => e = .returned (.tuple #[manV (parseMan b).1, .int .i64 (parseMan b).2]) ∧ Below w.heap.size w w' := by
  have hbZ := blw w (Obj.cells #[.int .i64 0, .int .i64 0, .int .i64 0] 237)
  have Z0 := heap_alloc_new w (Obj.cells #[.int .i64 0, .int .i64 0, .int .i64 0] 237)
  have hsZ := hs.below hbZ
  by_cases h6 : b.length < 6
  · have hge : getE b.length 0 6 ≠ 0 := by
      have hm : manyI 6 ≠ 0 := by decide
      unfold getE pieceE
      rw [if_neg hm]
      split
      · decide
      · rename_i hh
        simp at hh
        split
        · decide
        · rename_i h2
          exact absurd h6 (by omega)
    have HP := Lib.hid (show parseMan b = ((0, 0, 0), 130) by unfold parseMan; rw [if_pos (by omega)])
    have hgb := fun w => get_bad a b.length cap 0 6 w (by unfold maxLen; omega) hge
    generalize getE b.length 0 6 = ge at *
    have hgn : (ge != 0) = true := by rw [bne_iff_ne]; exact hge
    go_enter Tryz.func148, Tryz.ntmps148
    refine wp_seq_k (fun K hK => ?_)
    have HK := Lib.hid hK
    clear hK
    go_wp2
    refine HK.out _ _ ?_
    clear HK
    generalize hw0 : w.alloc (Obj.cells #[.int .i64 0, .int .i64 0, .int .i64 0] 237) = w0 at *
    clear hw0
    go_wp2_with (first
      | (go_at_call 203; refine (hgb _).mono ?_; rintro e w1 ⟨rfl, hb1⟩; have Z1 := tr_bl hb1 Z0)
      | ((with_reducible refine wpList_stB 237 _ _ ?_); refine ⟨_, _, _, ⟨_, _, _, Tryz.sizeOf237, rfl, Z1, st3s _ rfl 0 0 0⟩, ?_⟩; intro w5 Z5 g5))
    refine bodyPost_ret (results_c1t1 rfl rfl (run_loadVar_all Tryz.isAgg237 Tryz.sizeOf237 Z5 rfl)) rfl ⟨?_, bl_st (hbZ.trans (hb1.mono hbZ.size)) g5 (Nat.le_trans hbZ.size hb1.size) (Nat.le_refl _)⟩
    rw [HP.out]
    rfl
  have hgo : ∀ w', SlB w' a cap b → Calls Tryz.prog 203 #[.slice a b.length cap, .int .i64 0, .int .i64 6] w' fun e w'' => e = .returned (.tuple #[.int .i64 (getN b 0 6 : Nat), .int .i64 6, .int .i64 0]) ∧ Below w'.heap.size w' w'' := fun w' h => by
    have := get_ok a cap b 0 6 w' h (by omega) (by omega)
    exact this
  by_cases h8 : b.length = 8
  case neg =>
    have HP := Lib.hid (show parseMan b = ((0, 0, 0), 130) by unfold parseMan; rw [if_pos h8])
    have e8 : ((b.length : Int) != 8) = true := by rw [bne_iff_ne]; omega
    go_enter Tryz.func148, Tryz.ntmps148
    refine wp_seq_k (fun K hK => ?_)
    have HK := Lib.hid hK
    clear hK
    go_wp2
    refine HK.out _ _ ?_
    clear HK
    generalize hw0 : w.alloc (Obj.cells #[.int .i64 0, .int .i64 0, .int .i64 0] 237) = w0 at *
    clear hw0
    go_wp2_with (first
      | (go_at_call 203; refine (hgo _ hsZ).mono ?_; rintro e w1 ⟨rfl, hb1⟩; have Z1 := tr_bl hb1 Z0)
      | ((with_reducible refine wpList_stB 237 _ _ ?_); refine ⟨_, _, _, ⟨_, _, _, Tryz.sizeOf237, rfl, Z1, st3s _ rfl 0 0 0⟩, ?_⟩; intro w5 Z5 g5))
    refine bodyPost_ret (results_c1t1 rfl rfl (run_loadVar_all Tryz.isAgg237 Tryz.sizeOf237 Z5 rfl)) rfl ⟨?_, bl_st (hbZ.trans (hb1.mono hbZ.size)) g5 (Nat.le_trans hbZ.size hb1.size) (Nat.le_refl _)⟩
    rw [HP.out]
    rfl
  case pos =>
    have e8 : ((b.length : Int) != 8) = false := by rw [bne_eq_false_iff_eq]; omega
    obtain ⟨bk, off, rfl, hcs⟩ := hs.row.at (k := 0) (by rw [bys_len]; omega)
    have hxat : ∀ k, k < 8 → (bys b)[k]? = some (.int .u8 ((b.getD k 0).toNat : Int)) := by
      intro k hk
      unfold bys
      rw [List.getElem?_map, List.getD_eq_getElem?_getD, List.getElem?_eq_getElem (by omega)]
      rfl
    have x6 := hcs 6 _ (hxat 6 (by omega))
    have x7 := hcs 7 _ (hxat 7 (by omega))
    have hpm : parseMan b = if (getN b 0 6 : Int) < 1 ∨ 1099511627752 < (getN b 0 6 : Int) ∨ 1 < (b.getD 6 0).toNat ∨ (b.getD 7 0).toNat < 1 ∨ 8 < (b.getD 7 0).toNat then ((0, 0, 0), 130) else
        ((((getN b 0 6 : Nat) : Int), (((b.getD 6 0).toNat : Nat) : Int), (((b.getD 7 0).toNat : Nat) : Int)), 0) := by unfold parseMan; rw [if_neg (by omega)]
    have hn := getN_lt b 0 6
    have k6 := (b.getD 6 0).toNat_lt
    have k7 := (b.getD 7 0).toNat_lt
    generalize getN b 0 6 = n at *
    generalize (b.getD 6 0).toNat = y6 at *
    generalize (b.getD 7 0).toNat = y7 at *
    have W6 : IntKind.i64.wrap (y6 : Int) = y6 := IntWalk.i64_in _ (by omega)
    have W7 : IntKind.i64.wrap (y7 : Int) = y7 := IntWalk.i64_in _ (by omega)
    have W8 : IntKind.i64.wrap 7 = 7 := IntWalk.i64_in _ (by omega)
    obtain ⟨r, hr⟩ : ∃ r, (if (n : Int) < 1 ∨ 1099511627752 < (n : Int) ∨ 1 < y6 ∨ y7 < 1 ∨ 8 < y7 then (((0, 0, 0), 130) : (Int × Int × Int) × Int) else (((n : Int), (y6 : Int), (y7 : Int)), 0)) = r := ⟨_, rfl⟩
    rw [hpm, hr]
    have HR := Lib.hid hr
    clear hr
    have HCS := Lib.hid hcs
    clear hcs hxat hpm
    rw [h8] at hgo ⊢
    clear e8
    go_enter Tryz.func148, Tryz.ntmps148
    refine wp_seq_k (fun K hK => ?_)
    have HK := Lib.hid hK
    clear hK
    go_wp2
    refine HK.out _ _ ?_
    clear HK
    generalize hw0 : w.alloc (Obj.cells #[.int .i64 0, .int .i64 0, .int .i64 0] 237) = w0 at *
    have z6 : w0.cell? ⟨bk, off + 6, none⟩ = some (.int .u8 (y6 : Int)) := by rw [← hw0]; exact cell_later (blw w (Obj.cells #[.int .i64 0, .int .i64 0, .int .i64 0] 237)) x6
    have z7 : w0.cell? ⟨bk, off + 7, none⟩ = some (.int .u8 (y7 : Int)) := by rw [← hw0]; exact cell_later (blw w (Obj.cells #[.int .i64 0, .int .i64 0, .int .i64 0] 237)) x7
    clear hw0 x6 x7
    refine wp_seq_k (fun K hK => ?_)
    have HK := Lib.hid hK
    clear hK
    go_wp2_with (go_at_call 203; refine (hgo _ hsZ).mono ?_; rintro e w1 ⟨rfl, hb1⟩; have Z1 := tr_bl hb1 Z0; have y6c := cell_later hb1 z6; have y7c := cell_later hb1 z7)
    refine HK.out _ _ ?_
    clear HK
    refine wp_seq_k (fun K hK => ?_)
    have HK := Lib.hid hK
    clear hK
    go_wp2
    refine HK.out _ _ ?_
    clear HK
    have hb2 := hbZ.trans (hb1.mono hbZ.size)
    clear z6 z7 Z0 hbZ hgo hsZ
    refine wp_seq_k (fun K hK => ?_)
    have HK := Lib.hid hK
    clear hK
    go_wp2_with fail
    have hbd := (Below.refl w1.heap.size w1).drew
    have Z3 := tr_bl hbd Z1
    have v6 := cell_later hbd y6c
    have v7 := cell_later hbd y7c
    have hb3 := hb2.trans (hbd.mono hb2.size)
    refine wp_region_held_drew (S := fun w' => w'.cell? ⟨bk, off + 6, none⟩ = some (.int .u8 (y6 : Int)) ∧ w'.cell? ⟨bk, off + 7, none⟩ = some (.int .u8 (y7 : Int))) (by kernel_rfl) ⟨v6, v7⟩ (fun hS0 => ?_)
    clear hbd Z1 y6c y7c hb2 hb1
    generalize w1.drew = x0 at *
    refine wpAnyH_take (i := 0) (oi := ⟨_, _, _, _, _, _⟩) (v := ?_) rfl (by kernel_rfl) (by kernel_rfl) (by kernel_rfl) (fun _ _ _ h => h) (Or.inl ⟨by rfl, ?_⟩) (by assumption) ?_
    rotate_left
    · intro wS hSw
      go_simp; (try with_reducible rfl)
    (try simp only [Act.put])
    (try simp only [List.setIfInBounds_toArray])
    (try simp only [List.set_cons_succ])
    (try simp only [List.set_cons_zero])
    refine wpAnyH_take (i := 1) (oi := ⟨_, _, _, _, _, _⟩) (v := ?_) rfl (by kernel_rfl) (by kernel_rfl) (by kernel_rfl) (fun _ _ _ h => h) (Or.inl ⟨by rfl, ?_⟩) (by assumption) ?_
    rotate_left
    · intro wS hSw
      go_simp; (try with_reducible rfl)
    (try simp only [Act.put])
    (try simp only [List.setIfInBounds_toArray])
    (try simp only [List.set_cons_succ])
    (try simp only [List.set_cons_zero])
    refine wpAnyH_take (i := 2) (oi := ⟨_, _, _, _, _, _⟩) (v := ?_) rfl (by kernel_rfl) (by kernel_rfl) (by kernel_rfl) (fun _ _ _ h => h) (Or.inl ⟨by rfl, ?_⟩) (by assumption) ?_
    rotate_left
    · intro wS hSw
      go_simp; (try with_reducible rfl)
    (try simp only [Act.put])
    (try simp only [List.setIfInBounds_toArray])
    (try simp only [List.set_cons_succ])
    (try simp only [List.set_cons_zero])
    refine wpAnyH_take (i := 3) (oi := ⟨_, _, _, _, _, _⟩) (v := ?_) rfl (by kernel_rfl) (by kernel_rfl) (by kernel_rfl) (fun _ _ _ h => h) (Or.inl ⟨by rfl, ?_⟩) (by assumption) ?_
    rotate_left
    · intro wS hSw
      go_simp; (try with_reducible rfl)
    (try simp only [Act.put])
    (try simp only [List.setIfInBounds_toArray])
    (try simp only [List.set_cons_succ])
    (try simp only [List.set_cons_zero])
    refine wpAnyH_take (i := 4) (oi := ⟨_, _, _, _, _, _⟩) (v := ?_) rfl (by kernel_rfl) (by kernel_rfl) (by kernel_rfl) (fun _ _ _ h => h) (Or.inl ⟨by rfl, ?_⟩) (by assumption) ?_
    rotate_left
    · intro wS hSw
      have c := hSw.1; go_simp; (try with_reducible rfl)
    (try simp only [Act.put])
    (try simp only [List.setIfInBounds_toArray])
    (try simp only [List.set_cons_succ])
    (try simp only [List.set_cons_zero])
    refine wpAnyH_take (i := 5) (oi := ⟨_, _, _, _, _, _⟩) (v := ?_) rfl (by kernel_rfl) (by kernel_rfl) (by kernel_rfl) (fun _ _ _ h => h) (Or.inl ⟨by rfl, ?_⟩) (by assumption) ?_
    rotate_left
    · intro wS hSw
      go_simp; (try with_reducible rfl)
    (try simp only [Act.put])
    (try simp only [List.setIfInBounds_toArray])
    (try simp only [List.set_cons_succ])
    (try simp only [List.set_cons_zero])
    refine wpAnyH_take (i := 6) (oi := ⟨_, _, _, _, _, _⟩) (v := ?_) rfl (by kernel_rfl) (by kernel_rfl) (by kernel_rfl) (fun _ _ _ h => h) (Or.inl ⟨by rfl, ?_⟩) (by assumption) ?_
    rotate_left
    · intro wS hSw
      go_simp; (try with_reducible rfl)
    (try simp only [Act.put])
    (try simp only [List.setIfInBounds_toArray])
    (try simp only [List.set_cons_succ])
    (try simp only [List.set_cons_zero])
    refine wpAnyH_take (i := 7) (oi := ⟨_, _, _, _, _, _⟩) (v := ?_) rfl (by kernel_rfl) (by kernel_rfl) (by kernel_rfl) (fun _ _ _ h => h) (Or.inl ⟨by rfl, ?_⟩) (by assumption) ?_
    rotate_left
    · intro wS hSw
      go_simp; (try with_reducible rfl)
    (try simp only [Act.put])
    (try simp only [List.setIfInBounds_toArray])
    (try simp only [List.set_cons_succ])
    (try simp only [List.set_cons_zero])
    refine wpAnyH_take (i := 8) (oi := ⟨_, _, _, _, _, _⟩) (v := .int .i64 7) rfl (by kernel_rfl) (by kernel_rfl) (by kernel_rfl) (fun _ _ _ h => h) (Or.inl ⟨by rfl, fun wS hSw => ?_⟩) (by assumption) ?_
    · go_simp
    (try simp only [Act.put])
    (try simp only [List.setIfInBounds_toArray])
    (try simp only [List.set_cons_succ])
    (try simp only [List.set_cons_zero])
    refine wpAnyH_take (i := 9) (oi := ⟨_, _, _, _, _, _⟩) (v := ?_) rfl (by kernel_rfl) (by kernel_rfl) (by kernel_rfl) (fun _ _ _ h => h) (Or.inl ⟨by rfl, ?_⟩) (by assumption) ?_
    rotate_left
    · intro wS hSw
      go_simp; (try with_reducible rfl)
    (try simp only [Act.put])
    (try simp only [List.setIfInBounds_toArray])
    (try simp only [List.set_cons_succ])
    (try simp only [List.set_cons_zero])
    refine wpAnyH_take (i := 10) (oi := ⟨_, _, _, _, _, _⟩) (v := ?_) rfl (by kernel_rfl) (by kernel_rfl) (by kernel_rfl) (fun _ _ _ h => h) (Or.inl ⟨by rfl, ?_⟩) (by assumption) ?_
    rotate_left
    · intro wS hSw
      have c := hSw.2; go_simp; (try with_reducible rfl)
    (try simp only [Act.put])
    (try simp only [List.setIfInBounds_toArray])
    (try simp only [List.set_cons_succ])
    (try simp only [List.set_cons_zero])
    refine wpAnyH_take (i := 11) (oi := ⟨_, _, _, _, _, _⟩) (v := ?_) rfl (by kernel_rfl) (by kernel_rfl) (by kernel_rfl) (fun _ _ _ h => h) (Or.inl ⟨by rfl, ?_⟩) (by assumption) ?_
    rotate_left
    · intro wS hSw
      go_simp; (try with_reducible rfl)
    (try simp only [Act.put])
    (try simp only [List.setIfInBounds_toArray])
    (try simp only [List.set_cons_succ])
    (try simp only [List.set_cons_zero])
    refine wpAnyH_take (i := 12) (oi := ⟨_, _, _, _, _, _⟩) (v := ?_) rfl (by kernel_rfl) (by kernel_rfl) (by kernel_rfl) (fun _ _ _ h => h) (Or.inl ⟨by rfl, ?_⟩) (by assumption) ?_
    rotate_left
    · intro wS hSw
      go_simp; (try with_reducible rfl)
    (try simp only [Act.put])
    (try simp only [List.setIfInBounds_toArray])
    (try simp only [List.set_cons_succ])
    (try simp only [List.set_cons_zero])
    refine wpAnyH_ready (rs := [13]) (by kernel_rfl) (by simp) ?_
    refine AllReadyH.cons (o := ⟨_, _, _, _, _, _⟩) rfl (fun K' hK' => ?_) AllReadyH.nil
    refine (if_pos (by rfl)).mpr ?_
    go_simp
    change K' _ (World.alloc x0 (Obj.cells #[.int .i64 0, .int .i64 0, .int .i64 0] 237))
    have N3 := heap_alloc_new x0 (Obj.cells #[.int .i64 0, .int .i64 0, .int .i64 0] 237)
    have hbn := blw x0 (Obj.cells #[.int .i64 0, .int .i64 0, .int .i64 0] 237)
    have Z4 := tr_al (Obj.cells #[.int .i64 0, .int .i64 0, .int .i64 0] 237) Z3
    have hqz : w.heap.size ≠ x0.heap.size := by have := lt_blk Z3; omega
    have hb4 := hb3.alloc hb3.size (Obj.cells #[.int .i64 0, .int .i64 0, .int .i64 0] 237)
    refine hK'.out _ _ ⟨cell_later hbn v6, cell_later hbn v7⟩ (fun _ => ?_)
    clear hK' hS0
    (try simp only [Act.put])
    (try simp only [List.setIfInBounds_toArray])
    (try simp only [List.set_cons_succ])
    (try simp only [List.set_cons_zero])
    refine wpAnyH_ready (rs := [14]) (by kernel_rfl) (by simp) ?_
    refine AllReadyH.cons (o := ⟨_, _, _, _, _, _⟩) rfl (fun K' hK' => ?_) AllReadyH.nil
    refine (if_pos (by rfl)).mpr ?_
    refine wp_stB 237 _ _ ?_
    refine ⟨_, _, _, ⟨_, _, _, Tryz.sizeOf237, rfl, N3, st3s _ rfl (n : Int) (y6 : Int) (y7 : Int)⟩, ?_⟩
    intro w8 N4 g8
    have Z5 := tr_st g8 Z4 hqz.symm
    have hb08 := hbn.grown g8 hbn.size (fun k e => by cases e; exact Nat.le_refl _)
    have hb8 := hb3.trans (hb08.mono hb3.size)
    refine hK'.out _ _ ⟨cell_later hb08 v6, cell_later hb08 v7⟩ (fun _ => ?_)
    clear hK'
    (try simp only [Act.put])
    (try simp only [List.setIfInBounds_toArray])
    (try simp only [List.set_cons_succ])
    (try simp only [List.set_cons_zero])
    refine wpAnyH_done (by kernel_rfl) ?_ _
    refine HK.out _ _ ?_
    clear HK v6 v7 hb08 hb4 hb3 Z3 Z4 N3 g8 hbn
    obtain ⟨q0, q1, q2⟩ := man_cells N4
    generalize x0.heap.size = qn at *
    by_cases j1 : (n : Int) < 1
    · have HP := Lib.hid (HR.out.symm.trans (if_pos (.inl j1)))
      go_wp2_with ((with_reducible refine wpList_stB 237 _ _ ?_); refine ⟨_, _, _, ⟨_, _, _, Tryz.sizeOf237, rfl, Z5, st3s _ rfl 0 0 0⟩, ?_⟩; intro w9 Z9 g9)
      refine bodyPost_ret (results_c1t1 rfl rfl (run_loadVar_all Tryz.isAgg237 Tryz.sizeOf237 Z9 rfl)) rfl ⟨?_, bl_st hb8 g9 hb8.size (Nat.le_refl _)⟩
      rw [HP.out]
      rfl
    by_cases j2 : 1099511627752 < (n : Int)
    · have HP := Lib.hid (HR.out.symm.trans (if_pos (.inr (.inl j2))))
      go_wp2_with ((with_reducible refine wpList_stB 237 _ _ ?_); refine ⟨_, _, _, ⟨_, _, _, Tryz.sizeOf237, rfl, Z5, st3s _ rfl 0 0 0⟩, ?_⟩; intro w9 Z9 g9)
      refine bodyPost_ret (results_c1t1 rfl rfl (run_loadVar_all Tryz.isAgg237 Tryz.sizeOf237 Z9 rfl)) rfl ⟨?_, bl_st hb8 g9 hb8.size (Nat.le_refl _)⟩
      rw [HP.out]
      rfl
    by_cases j3 : 1 < y6
    · have HP := Lib.hid (HR.out.symm.trans (if_pos (.inr (.inr (.inl j3)))))
      have j3' : (1 : Int) < y6 := by omega
      go_wp2_with ((with_reducible refine wpList_stB 237 _ _ ?_); refine ⟨_, _, _, ⟨_, _, _, Tryz.sizeOf237, rfl, Z5, st3s _ rfl 0 0 0⟩, ?_⟩; intro w9 Z9 g9)
      refine bodyPost_ret (results_c1t1 rfl rfl (run_loadVar_all Tryz.isAgg237 Tryz.sizeOf237 Z9 rfl)) rfl ⟨?_, bl_st hb8 g9 hb8.size (Nat.le_refl _)⟩
      rw [HP.out]
      rfl
    have j3' : ¬ (1 : Int) < y6 := by omega
    by_cases j4 : y7 < 1
    · have HP := Lib.hid (HR.out.symm.trans (if_pos (.inr (.inr (.inr (.inl j4))))))
      have j4' : (y7 : Int) < 1 := by omega
      go_wp2_with ((with_reducible refine wpList_stB 237 _ _ ?_); refine ⟨_, _, _, ⟨_, _, _, Tryz.sizeOf237, rfl, Z5, st3s _ rfl 0 0 0⟩, ?_⟩; intro w9 Z9 g9)
      refine bodyPost_ret (results_c1t1 rfl rfl (run_loadVar_all Tryz.isAgg237 Tryz.sizeOf237 Z9 rfl)) rfl ⟨?_, bl_st hb8 g9 hb8.size (Nat.le_refl _)⟩
      rw [HP.out]
      rfl
    have j4' : ¬ (y7 : Int) < 1 := by omega
    by_cases j5 : 8 < y7
    · have HP := Lib.hid (HR.out.symm.trans (if_pos (.inr (.inr (.inr (.inr j5))))))
      have j5' : (8 : Int) < y7 := by omega
      go_wp2_with ((with_reducible refine wpList_stB 237 _ _ ?_); refine ⟨_, _, _, ⟨_, _, _, Tryz.sizeOf237, rfl, Z5, st3s _ rfl 0 0 0⟩, ?_⟩; intro w9 Z9 g9)
      refine bodyPost_ret (results_c1t1 rfl rfl (run_loadVar_all Tryz.isAgg237 Tryz.sizeOf237 Z9 rfl)) rfl ⟨?_, bl_st hb8 g9 hb8.size (Nat.le_refl _)⟩
      rw [HP.out]
      rfl
    have j5' : ¬ (8 : Int) < y7 := by omega
    have HP := Lib.hid (HR.out.symm.trans (if_neg (by omega)))
    refine wp_seq_k (fun K hK => ?_)
    have HK := Lib.hid hK
    clear hK
    go_wp2
    refine HK.out _ _ ?_
    clear HK
    go_wp2_with (first
      | ((with_reducible refine wpList_ldB 237 _ ?_); refine ⟨rfl, _, ⟨_, _, _, _, _, Tryz.isAgg237, Tryz.sizeOf237, rfl, ‹_›, ld3s _ _ _⟩, ?_⟩)
      | ((with_reducible refine wpList_stB 237 _ _ ?_); refine ⟨_, _, _, ⟨_, _, _, Tryz.sizeOf237, rfl, Z5, st3s _ rfl (n : Int) (y6 : Int) (y7 : Int)⟩, ?_⟩; intro w9 Z9 g9))
    refine bodyPost_ret (results_c1t1 rfl rfl (run_loadVar_all Tryz.isAgg237 Tryz.sizeOf237 Z9 rfl)) rfl ⟨?_, bl_st hb8 g9 hb8.size (Nat.le_refl _)⟩
    rw [HP.out]
    rfl
end Go.Proofs.YthfolocjkpiljaaGreatDoor

namespace Go.Proofs.YthfolocjkpiljaaGreatDoor
open Go.RowKit

/-- Bytes and a Bool, handed back. -/
def SRes (base : Nat) (r : List UInt8 × Bool) (e : Ending) (w' : World) : Prop := ∃ a c, e = .returned (.tuple #[.slice a r.1.length c, .bool r.2]) ∧ OwnS w' base a c r.1
theorem SRes.no (base : Nat) (w' : World) : SRes base ([], false) (.returned (.tuple #[.slice none 0 0, .bool false])) w' := ⟨none, 0, rfl, OwnB.none _ _, Nat.le_refl _, by decide, fun _ => rfl⟩
/-- The first so many sectors of a place. -/
def preS (d : Dk) (f : Int) : Nat → List UInt8
  | 0 => []
  | 1 => (readD d f).1
  | _ => (readD d f).1 ++ (readD d (f + 1)).1
theorem tgV_new (t : Tg) : (tgV t).cells = #[.int .i64 t.rep, .int .i64 t.reg, .int .i64 t.pla, .int .i64 t.idx, .int .i64 t.inc] ∧ (#[Value.int .i64 t.rep, .int .i64 t.reg, .int .i64 t.pla, .int .i64 t.idx, .int .i64 t.inc]).size = 5 ∧ ∀ u ∈ (#[Value.int .i64 t.rep, .int .i64 t.reg, .int .i64 t.pla, .int .i64 t.idx, .int .i64 t.inc]).toList, u.oneCell' = true := ⟨rfl, rfl, by simp [Value.oneCell']⟩
theorem mine_len (b : List UInt8) (rep reg pla : Int) : (mineF b rep reg pla).2.2.length ≤ b.length := by
  unfold mineF openF
  (repeat' split) <;> simp <;> omega
section
variable {B g gp q : Nat} {wv : Value} {d : Dk} {w : World} {s : Sh}
set_option maxRecDepth 100000 in
set_option maxHeartbeats 2000000 in
theorem sread_any (h : ShB w q g s) (hd : DiskB B g gp wv d w) (hok : ShOk s) (k : Int) (hk : 0 ≤ k ∧ k < 8) : Calls Tryz.prog 228 #[.pointer (some ⟨q, 0, none⟩), .int .i64 k] w fun e w' => SRes w.heap.size (readS d s k) e w' ∧ Below w.heap.size w w' := by
  have ha := hok.a
  have hp : 0 ≤ plaS s k ∧ plaS s k < 16 := by unfold plaS; omega
  have hf := first5 hp
  have hsec : secsS d (plaS s k) = (preS d (firstN 5 (plaS s k)) 2, decide ((readD d (firstN 5 (plaS s k))).2 = 0) && decide ((readD d (firstN 5 (plaS s k) + 1)).2 = 0)) := rfl
  unfold readS
  rw [hsec]
  simp only
  obtain ⟨f, hff⟩ : ∃ f, firstN 5 (plaS s k) = f := ⟨_, rfl⟩
  rw [hff] at hf ⊢
  obtain ⟨r, hr⟩ : ∃ r, (if (decide ((readD d f).2 = 0) && decide ((readD d (f + 1)).2 = 0)) = false then (([], false) : List UInt8 × Bool) else frameS s k (mineF (preS d f 2) s.rep 5 (plaS s k))) = r := ⟨_, rfl⟩
  rw [hr]
  have HR := Lib.hid hr
  clear hr
  have hpl : plaS s k = 8 * s.area + k := rfl
  have c1 := h.c1
  go_enter Tryz.func228, Tryz.ntmps228
  refine wp_seq_k (fun K hK => ?_)
  have HK := Lib.hid hK
  clear hK
  go_wp2
  refine HK.out _ _ ?_
  clear HK
  refine wp_seq_k (fun K hK => ?_)
  have HK := Lib.hid hK
  clear hK
  go_wp2
  refine HK.out _ _ ?_
  clear HK
  rw [← hpl]
  obtain ⟨p, hpp⟩ : ∃ p, plaS s k = p := ⟨_, rfl⟩
  rw [hpp] at hff hf hp ⊢
  have HPP := Lib.hid hpp
  have hfb : 0 ≤ f ∧ f < 200 := by omega
  have HF := Lib.hid hff
  clear hf
  clear hff hpl c1 hsec hpp
  refine wp_seq_k (fun K hK => ?_)
  have HK := Lib.hid hK
  clear hK
  go_wp2
  refine HK.out _ _ ?_
  clear HK
  refine wp_seq_k (fun K hK => ?_)
  have HK := Lib.hid hK
  clear hK
  go_wp2_with (go_at_call 96; refine (wide_any 5 _).mono ?_; rintro e w1 ⟨rfl, hb1⟩)
  rw [show wideN 5 = 2 from rfl]
  go_loopw [26, 7] (fun i o wr => ∃ (j : Nat) (v : Value), j ≤ 2 ∧ i = .int .i64 (j : Nat) ∧ o = v ∧ (∀ t : Nat, t < j → (readD d (f + t)).2 = 0) ∧ wr.ownsRow w.heap.size 5 1 v (preS d f j).length (bys (preS d f j)) ∧ Below w.heap.size w wr) (fun i _ _ => 2 - (intOf i).toNat)
  case atStart => exact ⟨0, _, by omega, rfl, rfl, fun t ht => absurd ht (by omega), World.ownsRow_nil _ _ _ _, hb1⟩
  case round =>
    clear hb1
    obtain ⟨j, v, hj, rfl, rfl, hall, hown, hbr⟩ := hrel
    rcases (show j = 0 ∨ j = 1 ∨ j = 2 by omega) with rfl | rfl | rfl
    · skip
      have hrd := fun w' (h' : DiskB B g gp wv d w') => read_slb h' (f)
      obtain ⟨bs, re, hbs⟩ : ∃ bs re, readD d (f) = (bs, re) := ⟨_, _, rfl⟩
      have hrl := read_len hd (f)
      rw [hbs] at hrl
      simp only [hbs] at hrd
      simp only at hrl
      have HBS := Lib.hid hbs
      clear hbs
      have hdr := hd.below hbr
      have hsr := h.below hbr
      have hpl : (preS d f 0).length = 64 * 0 := rfl
      have HPL := Lib.hid hpl
      have HPS := Lib.hid (show preS d f (0 + 1) = preS d f 0 ++ (readD d (f)).1 from rfl)
      clear hpl
      generalize preS d f 0 = pr at *
      refine wp_seq_k (fun K hK => ?_)
      have HK := Lib.hid hK
      clear hK
      go_wp2
      refine HK.out _ _ ?_
      clear HK
      refine wp_seq_k (fun K hK => ?_)
      have HK := Lib.hid hK
      clear hK
      go_wp2
      refine HK.out _ _ ?_
      clear HK
      refine wp_seq_k (fun K hK => ?_)
      have HK2 := Lib.hid hK
      clear hK
      refine wp_block ?_
      refine wp_seq_k (fun K hK => ?_)
      have HK := Lib.hid hK
      clear hK
      go_wp2
      refine HK.out _ _ ?_
      clear HK
      refine wp_seq_k (fun K hK => ?_)
      have HK3 := Lib.hid hK
      clear hK
      go_wp2_with fail
      have hbd := (Below.refl wr.heap.size wr).drew
      have D1 := hdr.below hbd
      have S1 := hsr.below hbd
      have hb1 := hbr.trans (hbd.mono hbr.size)
      have o1 := owns_bl hown hbd
      refine wp_region_held_drew (S := fun w' => ShB w' q g s) (by kernel_rfl) S1 (fun hS0 => ?_)
      clear hbd hdr hsr hown hbr
      generalize wr.drew = x0 at *
      refine wpAnyH_take (i := 0) (oi := ⟨_, _, _, _, _, _⟩) (v := ?_) rfl (by kernel_rfl) (by kernel_rfl) (by kernel_rfl) (fun _ _ _ h => h) (Or.inl ⟨by rfl, ?_⟩) (by assumption) ?_
      rotate_left
      · intro wS hSw
        go_simp; (try with_reducible rfl)
      (try simp only [Act.put])
      (try simp only [List.setIfInBounds_toArray])
      (try simp only [List.set_cons_succ])
      (try simp only [List.set_cons_zero])
      refine wpAnyH_take (i := 1) (oi := ⟨_, _, _, _, _, _⟩) (v := ?_) rfl (by kernel_rfl) (by kernel_rfl) (by kernel_rfl) (fun _ _ _ h => h) (Or.inl ⟨by rfl, ?_⟩) (by assumption) ?_
      rotate_left
      · intro wS hSw
        go_simp; (try with_reducible rfl)
      (try simp only [Act.put])
      (try simp only [List.setIfInBounds_toArray])
      (try simp only [List.set_cons_succ])
      (try simp only [List.set_cons_zero])
      refine wpAnyH_take (i := 2) (oi := ⟨_, _, _, _, _, _⟩) (v := ?_) rfl (by kernel_rfl) (by kernel_rfl) (by kernel_rfl) (fun _ _ _ h => h) (Or.inl ⟨by rfl, ?_⟩) (by assumption) ?_
      rotate_left
      · intro wS hSw
        go_simp; (try with_reducible rfl)
      (try simp only [Act.put])
      (try simp only [List.setIfInBounds_toArray])
      (try simp only [List.set_cons_succ])
      (try simp only [List.set_cons_zero])
      refine wpAnyH_take (i := 3) (oi := ⟨_, _, _, _, _, _⟩) (v := ?_) rfl (by kernel_rfl) (by kernel_rfl) (by kernel_rfl) (fun _ _ _ h => h) (Or.inl ⟨by rfl, ?_⟩) (by assumption) ?_
      rotate_left
      · intro wS hSw
        have c := hSw.c3; go_simp; (try with_reducible rfl)
      (try simp only [Act.put])
      (try simp only [List.setIfInBounds_toArray])
      (try simp only [List.set_cons_succ])
      (try simp only [List.set_cons_zero])
      refine wpAnyH_take (i := 4) (oi := ⟨_, _, _, _, _, _⟩) (v := ?_) rfl (by kernel_rfl) (by kernel_rfl) (by kernel_rfl) (fun _ _ _ h => h) (Or.inl ⟨by rfl, ?_⟩) (by assumption) ?_
      rotate_left
      · intro wS hSw
        go_simp; (try with_reducible rfl)
      (try simp only [Act.put])
      (try simp only [List.setIfInBounds_toArray])
      (try simp only [List.set_cons_succ])
      (try simp only [List.set_cons_zero])
      refine wpAnyH_take (i := 6) (oi := ⟨_, _, _, _, _, _⟩) (v := ?_) rfl (by kernel_rfl) (by kernel_rfl) (by kernel_rfl) (fun _ _ _ h => h) (Or.inl ⟨by rfl, ?_⟩) (by assumption) ?_
      rotate_left
      · intro wS hSw
        go_simp; (try with_reducible rfl)
      (try simp only [Act.put])
      (try simp only [List.setIfInBounds_toArray])
      (try simp only [List.set_cons_succ])
      (try simp only [List.set_cons_zero])
      refine wpAnyH_ready (rs := [5]) (by kernel_rfl) (by simp) ?_
      refine AllReadyH.cons (o := ⟨_, _, _, _, _, _⟩) rfl (fun K' hK' => ?_) AllReadyH.nil
      refine (if_pos (by rfl)).mpr ?_
      go_simp
      refine (first_any 5 p _).mono ?_
      rintro e w2 ⟨rfl, hb2⟩
      rw [HF.out]
      have D2 := D1.below hb2
      have S2 := S1.below hb2
      have o2 := owns_bl o1 hb2
      have hb3 := hb1.trans (hb2.mono hb1.size)
      refine hK'.out _ _ S2 (fun _ => ?_)
      clear hK' D1 S1 o1 hb1 hb2 hS0
      (try simp only [Act.put])
      (try simp only [List.setIfInBounds_toArray])
      (try simp only [List.set_cons_succ])
      (try simp only [List.set_cons_zero])
      refine wpAnyH_take (i := 7) (oi := ⟨_, _, _, _, _, _⟩) (v := .int .i64 (f)) rfl (by kernel_rfl) (by kernel_rfl) (by kernel_rfl) (fun _ _ _ h => h) (Or.inl ⟨by rfl, fun wS hSw => ?_⟩) (by assumption) ?_
      · go_simp; (try rw [IntWalk.i64_in _ (by omega)])
      (try simp only [Act.put])
      (try simp only [List.setIfInBounds_toArray])
      (try simp only [List.set_cons_succ])
      (try simp only [List.set_cons_zero])
      refine wpAnyH_ready (rs := [8]) (by kernel_rfl) (by simp) ?_
      refine AllReadyH.cons (o := ⟨_, _, _, _, _, _⟩) rfl (fun K' hK' => ?_) AllReadyH.nil
      refine (if_pos (by rfl)).mpr ?_
      go_simp
      refine (hrd _ D2).mono ?_
      rintro e w4 ⟨⟨a4, c4, rfl, s4⟩, hb4⟩
      have S4 := S2.below hb4
      have o4 := owns_bl o2 hb4
      have hb5 := hb3.trans (hb4.mono hb3.size)
      refine hK'.out _ _ S4 (fun _ => ?_)
      clear hK' D2 S2 o2 hb3 hb4 hrd
      (try simp only [Act.put])
      (try simp only [List.setIfInBounds_toArray])
      (try simp only [List.set_cons_succ])
      (try simp only [List.set_cons_zero])
      refine wpAnyH_take (i := 9) (oi := ⟨_, _, _, _, _, _⟩) (v := ?_) rfl (by kernel_rfl) (by kernel_rfl) (by kernel_rfl) (fun _ _ _ h => h) (Or.inl ⟨by rfl, ?_⟩) (by assumption) ?_
      rotate_left
      · intro wS hSw
        go_simp; (try with_reducible rfl)
      (try simp only [Act.put])
      (try simp only [List.setIfInBounds_toArray])
      (try simp only [List.set_cons_succ])
      (try simp only [List.set_cons_zero])
      refine wpAnyH_take (i := 10) (oi := ⟨_, _, _, _, _, _⟩) (v := ?_) rfl (by kernel_rfl) (by kernel_rfl) (by kernel_rfl) (fun _ _ _ h => h) (Or.inl ⟨by rfl, ?_⟩) (by assumption) ?_
      rotate_left
      · intro wS hSw
        go_simp; (try with_reducible rfl)
      (try simp only [Act.put])
      (try simp only [List.setIfInBounds_toArray])
      (try simp only [List.set_cons_succ])
      (try simp only [List.set_cons_zero])
      refine wpAnyH_take (i := 11) (oi := ⟨_, _, _, _, _, _⟩) (v := ?_) rfl (by kernel_rfl) (by kernel_rfl) (by kernel_rfl) (fun _ _ _ h => h) (Or.inl ⟨by rfl, ?_⟩) (by assumption) ?_
      rotate_left
      · intro wS hSw
        go_simp; (try with_reducible rfl)
      (try simp only [Act.put])
      (try simp only [List.setIfInBounds_toArray])
      (try simp only [List.set_cons_succ])
      (try simp only [List.set_cons_zero])
      refine wpAnyH_take (i := 12) (oi := ⟨_, _, _, _, _, _⟩) (v := ?_) rfl (by kernel_rfl) (by kernel_rfl) (by kernel_rfl) (fun _ _ _ h => h) (Or.inl ⟨by rfl, ?_⟩) (by assumption) ?_
      rotate_left
      · intro wS hSw
        go_simp; (try with_reducible rfl)
      (try simp only [Act.put])
      (try simp only [List.setIfInBounds_toArray])
      (try simp only [List.set_cons_succ])
      (try simp only [List.set_cons_zero])
      refine wpAnyH_take (i := 13) (oi := ⟨_, _, _, _, _, _⟩) (v := ?_) rfl (by kernel_rfl) (by kernel_rfl) (by kernel_rfl) (fun _ _ _ h => h) (Or.inl ⟨by rfl, ?_⟩) (by assumption) ?_
      rotate_left
      · intro wS hSw
        go_simp; (try with_reducible rfl)
      (try simp only [Act.put])
      (try simp only [List.setIfInBounds_toArray])
      (try simp only [List.set_cons_succ])
      (try simp only [List.set_cons_zero])
      refine wpAnyH_done (by kernel_rfl) ?_ _
      refine HK3.out _ _ ?_
      clear HK3
      by_cases h0 : re = 0
      · subst h0
        have HBL := Lib.hid (hrl.1 rfl)
        clear hrl
        refine wp_seq_k (fun K hK => ?_)
        have HK := Lib.hid hK
        clear hK
        go_wp2
        refine HK.out _ _ ?_
        clear HK
        go_wp2_with (at_builtin; refine wpList_append_row rfl _ _ 34 5 elByte rfl w.heap.size _ pr.length (bys pr) rfl o4 a4 bs.length c4 (bys bs) rfl (by rw [bys_len]; omega) s4.row bys_one (by have := HPL.out; have := HBL.out; omega) (by decide) hb5.size ?_; intro v6 w6 ho6 hb6)
        (try simp only [Exit.inBlock, Exit.then])
        refine HK2.out _ _ ?_
        clear HK2
        go_wp2
        go_roundw
        case rel =>
          refine ⟨0 + 1, _, by omega, by rfl, rfl, fun t ht => ?_, ?_, hb5.trans hb6⟩
          · by_cases htj : t < 0
            · exact hall t htj
            · obtain rfl : t = 0 := by omega
              rw [show f + ((0 : Nat) : Int) = f by omega, HBS.out]
          · rw [HPS.out, HBS.out, List.length_append, bys_app]
            exact ho6
        case measure => simp [intOf]
      · have hn : (re != 0) = true := by rw [bne_iff_ne]; exact h0
        have hr0 : r = ([], false) := by
          rw [← HR.out, if_pos]
          rw [HBS.out]; simp [h0]
        clear HK HR HPS
        subst hr0
        go_wp2
        go_ret2
        exact ⟨SRes.no _ _, hb5⟩
    · have hr0 := hall 0 (by omega)
      rw [show f + ((0 : Nat) : Int) = f by omega] at hr0
      skip
      have hrd := fun w' (h' : DiskB B g gp wv d w') => read_slb h' (f + 1)
      obtain ⟨bs, re, hbs⟩ : ∃ bs re, readD d (f + 1) = (bs, re) := ⟨_, _, rfl⟩
      have hrl := read_len hd (f + 1)
      rw [hbs] at hrl
      simp only [hbs] at hrd
      simp only at hrl
      have HBS := Lib.hid hbs
      clear hbs
      have hdr := hd.below hbr
      have hsr := h.below hbr
      have hpl : (preS d f 1).length = 64 * 1 := (read_len hd f).1 hr0
      have HPL := Lib.hid hpl
      have HPS := Lib.hid (show preS d f (1 + 1) = preS d f 1 ++ (readD d (f + 1)).1 from rfl)
      clear hpl
      generalize preS d f 1 = pr at *
      refine wp_seq_k (fun K hK => ?_)
      have HK := Lib.hid hK
      clear hK
      go_wp2
      refine HK.out _ _ ?_
      clear HK
      refine wp_seq_k (fun K hK => ?_)
      have HK := Lib.hid hK
      clear hK
      go_wp2
      refine HK.out _ _ ?_
      clear HK
      refine wp_seq_k (fun K hK => ?_)
      have HK2 := Lib.hid hK
      clear hK
      refine wp_block ?_
      refine wp_seq_k (fun K hK => ?_)
      have HK := Lib.hid hK
      clear hK
      go_wp2
      refine HK.out _ _ ?_
      clear HK
      refine wp_seq_k (fun K hK => ?_)
      have HK3 := Lib.hid hK
      clear hK
      go_wp2_with fail
      have hbd := (Below.refl wr.heap.size wr).drew
      have D1 := hdr.below hbd
      have S1 := hsr.below hbd
      have hb1 := hbr.trans (hbd.mono hbr.size)
      have o1 := owns_bl hown hbd
      refine wp_region_held_drew (S := fun w' => ShB w' q g s) (by kernel_rfl) S1 (fun hS0 => ?_)
      clear hbd hdr hsr hown hbr
      generalize wr.drew = x0 at *
      refine wpAnyH_take (i := 0) (oi := ⟨_, _, _, _, _, _⟩) (v := ?_) rfl (by kernel_rfl) (by kernel_rfl) (by kernel_rfl) (fun _ _ _ h => h) (Or.inl ⟨by rfl, ?_⟩) (by assumption) ?_
      rotate_left
      · intro wS hSw
        go_simp; (try with_reducible rfl)
      (try simp only [Act.put])
      (try simp only [List.setIfInBounds_toArray])
      (try simp only [List.set_cons_succ])
      (try simp only [List.set_cons_zero])
      refine wpAnyH_take (i := 1) (oi := ⟨_, _, _, _, _, _⟩) (v := ?_) rfl (by kernel_rfl) (by kernel_rfl) (by kernel_rfl) (fun _ _ _ h => h) (Or.inl ⟨by rfl, ?_⟩) (by assumption) ?_
      rotate_left
      · intro wS hSw
        go_simp; (try with_reducible rfl)
      (try simp only [Act.put])
      (try simp only [List.setIfInBounds_toArray])
      (try simp only [List.set_cons_succ])
      (try simp only [List.set_cons_zero])
      refine wpAnyH_take (i := 2) (oi := ⟨_, _, _, _, _, _⟩) (v := ?_) rfl (by kernel_rfl) (by kernel_rfl) (by kernel_rfl) (fun _ _ _ h => h) (Or.inl ⟨by rfl, ?_⟩) (by assumption) ?_
      rotate_left
      · intro wS hSw
        go_simp; (try with_reducible rfl)
      (try simp only [Act.put])
      (try simp only [List.setIfInBounds_toArray])
      (try simp only [List.set_cons_succ])
      (try simp only [List.set_cons_zero])
      refine wpAnyH_take (i := 3) (oi := ⟨_, _, _, _, _, _⟩) (v := ?_) rfl (by kernel_rfl) (by kernel_rfl) (by kernel_rfl) (fun _ _ _ h => h) (Or.inl ⟨by rfl, ?_⟩) (by assumption) ?_
      rotate_left
      · intro wS hSw
        have c := hSw.c3; go_simp; (try with_reducible rfl)
      (try simp only [Act.put])
      (try simp only [List.setIfInBounds_toArray])
      (try simp only [List.set_cons_succ])
      (try simp only [List.set_cons_zero])
      refine wpAnyH_take (i := 4) (oi := ⟨_, _, _, _, _, _⟩) (v := ?_) rfl (by kernel_rfl) (by kernel_rfl) (by kernel_rfl) (fun _ _ _ h => h) (Or.inl ⟨by rfl, ?_⟩) (by assumption) ?_
      rotate_left
      · intro wS hSw
        go_simp; (try with_reducible rfl)
      (try simp only [Act.put])
      (try simp only [List.setIfInBounds_toArray])
      (try simp only [List.set_cons_succ])
      (try simp only [List.set_cons_zero])
      refine wpAnyH_take (i := 6) (oi := ⟨_, _, _, _, _, _⟩) (v := ?_) rfl (by kernel_rfl) (by kernel_rfl) (by kernel_rfl) (fun _ _ _ h => h) (Or.inl ⟨by rfl, ?_⟩) (by assumption) ?_
      rotate_left
      · intro wS hSw
        go_simp; (try with_reducible rfl)
      (try simp only [Act.put])
      (try simp only [List.setIfInBounds_toArray])
      (try simp only [List.set_cons_succ])
      (try simp only [List.set_cons_zero])
      refine wpAnyH_ready (rs := [5]) (by kernel_rfl) (by simp) ?_
      refine AllReadyH.cons (o := ⟨_, _, _, _, _, _⟩) rfl (fun K' hK' => ?_) AllReadyH.nil
      refine (if_pos (by rfl)).mpr ?_
      go_simp
      refine (first_any 5 p _).mono ?_
      rintro e w2 ⟨rfl, hb2⟩
      rw [HF.out]
      have D2 := D1.below hb2
      have S2 := S1.below hb2
      have o2 := owns_bl o1 hb2
      have hb3 := hb1.trans (hb2.mono hb1.size)
      refine hK'.out _ _ S2 (fun _ => ?_)
      clear hK' D1 S1 o1 hb1 hb2 hS0
      (try simp only [Act.put])
      (try simp only [List.setIfInBounds_toArray])
      (try simp only [List.set_cons_succ])
      (try simp only [List.set_cons_zero])
      refine wpAnyH_take (i := 7) (oi := ⟨_, _, _, _, _, _⟩) (v := .int .i64 (f + 1)) rfl (by kernel_rfl) (by kernel_rfl) (by kernel_rfl) (fun _ _ _ h => h) (Or.inl ⟨by rfl, fun wS hSw => ?_⟩) (by assumption) ?_
      · go_simp; (try rw [IntWalk.i64_in _ (by omega)])
      (try simp only [Act.put])
      (try simp only [List.setIfInBounds_toArray])
      (try simp only [List.set_cons_succ])
      (try simp only [List.set_cons_zero])
      refine wpAnyH_ready (rs := [8]) (by kernel_rfl) (by simp) ?_
      refine AllReadyH.cons (o := ⟨_, _, _, _, _, _⟩) rfl (fun K' hK' => ?_) AllReadyH.nil
      refine (if_pos (by rfl)).mpr ?_
      go_simp
      refine (hrd _ D2).mono ?_
      rintro e w4 ⟨⟨a4, c4, rfl, s4⟩, hb4⟩
      have S4 := S2.below hb4
      have o4 := owns_bl o2 hb4
      have hb5 := hb3.trans (hb4.mono hb3.size)
      refine hK'.out _ _ S4 (fun _ => ?_)
      clear hK' D2 S2 o2 hb3 hb4 hrd
      (try simp only [Act.put])
      (try simp only [List.setIfInBounds_toArray])
      (try simp only [List.set_cons_succ])
      (try simp only [List.set_cons_zero])
      refine wpAnyH_take (i := 9) (oi := ⟨_, _, _, _, _, _⟩) (v := ?_) rfl (by kernel_rfl) (by kernel_rfl) (by kernel_rfl) (fun _ _ _ h => h) (Or.inl ⟨by rfl, ?_⟩) (by assumption) ?_
      rotate_left
      · intro wS hSw
        go_simp; (try with_reducible rfl)
      (try simp only [Act.put])
      (try simp only [List.setIfInBounds_toArray])
      (try simp only [List.set_cons_succ])
      (try simp only [List.set_cons_zero])
      refine wpAnyH_take (i := 10) (oi := ⟨_, _, _, _, _, _⟩) (v := ?_) rfl (by kernel_rfl) (by kernel_rfl) (by kernel_rfl) (fun _ _ _ h => h) (Or.inl ⟨by rfl, ?_⟩) (by assumption) ?_
      rotate_left
      · intro wS hSw
        go_simp; (try with_reducible rfl)
      (try simp only [Act.put])
      (try simp only [List.setIfInBounds_toArray])
      (try simp only [List.set_cons_succ])
      (try simp only [List.set_cons_zero])
      refine wpAnyH_take (i := 11) (oi := ⟨_, _, _, _, _, _⟩) (v := ?_) rfl (by kernel_rfl) (by kernel_rfl) (by kernel_rfl) (fun _ _ _ h => h) (Or.inl ⟨by rfl, ?_⟩) (by assumption) ?_
      rotate_left
      · intro wS hSw
        go_simp; (try with_reducible rfl)
      (try simp only [Act.put])
      (try simp only [List.setIfInBounds_toArray])
      (try simp only [List.set_cons_succ])
      (try simp only [List.set_cons_zero])
      refine wpAnyH_take (i := 12) (oi := ⟨_, _, _, _, _, _⟩) (v := ?_) rfl (by kernel_rfl) (by kernel_rfl) (by kernel_rfl) (fun _ _ _ h => h) (Or.inl ⟨by rfl, ?_⟩) (by assumption) ?_
      rotate_left
      · intro wS hSw
        go_simp; (try with_reducible rfl)
      (try simp only [Act.put])
      (try simp only [List.setIfInBounds_toArray])
      (try simp only [List.set_cons_succ])
      (try simp only [List.set_cons_zero])
      refine wpAnyH_take (i := 13) (oi := ⟨_, _, _, _, _, _⟩) (v := ?_) rfl (by kernel_rfl) (by kernel_rfl) (by kernel_rfl) (fun _ _ _ h => h) (Or.inl ⟨by rfl, ?_⟩) (by assumption) ?_
      rotate_left
      · intro wS hSw
        go_simp; (try with_reducible rfl)
      (try simp only [Act.put])
      (try simp only [List.setIfInBounds_toArray])
      (try simp only [List.set_cons_succ])
      (try simp only [List.set_cons_zero])
      refine wpAnyH_done (by kernel_rfl) ?_ _
      refine HK3.out _ _ ?_
      clear HK3
      by_cases h0 : re = 0
      · subst h0
        have HBL := Lib.hid (hrl.1 rfl)
        clear hrl
        refine wp_seq_k (fun K hK => ?_)
        have HK := Lib.hid hK
        clear hK
        go_wp2
        refine HK.out _ _ ?_
        clear HK
        go_wp2_with (at_builtin; refine wpList_append_row rfl _ _ 34 5 elByte rfl w.heap.size _ pr.length (bys pr) rfl o4 a4 bs.length c4 (bys bs) rfl (by rw [bys_len]; omega) s4.row bys_one (by have := HPL.out; have := HBL.out; omega) (by decide) hb5.size ?_; intro v6 w6 ho6 hb6)
        (try simp only [Exit.inBlock, Exit.then])
        refine HK2.out _ _ ?_
        clear HK2
        go_wp2
        go_roundw
        case rel =>
          refine ⟨1 + 1, _, by omega, by rfl, rfl, fun t ht => ?_, ?_, hb5.trans hb6⟩
          · by_cases htj : t < 1
            · exact hall t htj
            · obtain rfl : t = 1 := by omega
              rw [show f + ((1 : Nat) : Int) = f + 1 by omega, HBS.out]
          · rw [HPS.out, HBS.out, List.length_append, bys_app]
            exact ho6
        case measure => simp [intOf]
      · have hn : (re != 0) = true := by rw [bne_iff_ne]; exact h0
        have hr0 : r = ([], false) := by
          rw [← HR.out, if_pos]
          rw [HBS.out]; simp [h0]
        clear HK HR HPS
        subst hr0
        go_wp2
        go_ret2
        exact ⟨SRes.no _ _, hb5⟩
    · have hr0 := hall 0 (by omega)
      have hr1 := hall 1 (by omega)
      rw [show f + ((0 : Nat) : Int) = f by omega] at hr0
      rw [show f + ((1 : Nat) : Int) = f + 1 by omega] at hr1
      have hrr := HR.out
      rw [hr0, hr1, if_neg (by simp)] at hrr
      have hlen : (preS d f 2).length = 128 := by
        show ((readD d f).1 ++ (readD d (f + 1)).1).length = 128
        rw [List.length_append, (read_len hd f).1 hr0, (read_len hd (f + 1)).1 hr1]
      clear hall hr0 hr1 HR
      generalize preS d f 2 = b at *
      obtain ⟨a2, c2, rfl, s2⟩ := SlB.of_owns hown
      have hmi := mine_any a2 c2 b s.rep 5 p wr s2 (by omega)
      have hml := mine_len b s.rep 5 p
      obtain ⟨st, tg, body, hmm⟩ : ∃ st tg body, mineF b s.rep 5 p = (st, tg, body) := ⟨_, _, _, rfl⟩
      have hppv : plaS s k = p := HPP.out
      rw [hppv, hmm] at hrr
      rw [hmm] at hmi hml
      simp only at hml
      have hbl : body.length ≤ 1000 := by omega
      have hsr := h.below hbr
      have cr4 := hsr.c4
      clear hppv hmm hml hown hlen
      generalize hbn : b.length = bn at *
      clear hbn
      go_wp2
      refine HK.out _ _ ?_
      clear HK
      refine wp_seq_k (fun K hK => ?_)
      have HK := Lib.hid hK
      clear hK
      go_wp2_with (first
              | (go_at_call 97; refine hmi.mono ?_; rintro e w2 ⟨⟨a3, c3, rfl, hO⟩, hb2⟩)
              | ((first | (with_reducible refine wpList_stNew 33 _ _ ?_) | (with_reducible refine wp_stNew 33 _ _ ?_)); refine ⟨_, _, ⟨Tryz.sizeOf33, rfl, tgV_new _⟩, rfl, ?_⟩))
      refine HK.out _ _ ?_
      clear HK
      have hb3 := hbr.trans (hb2.mono hbr.size)
      have hbn := blw w2 (Obj.cells #[.int .i64 tg.rep, .int .i64 tg.reg, .int .i64 tg.pla, .int .i64 tg.idx, .int .i64 tg.inc] 33)
      have T3 := heap_alloc_new w2 (Obj.cells #[.int .i64 tg.rep, .int .i64 tg.reg, .int .i64 tg.pla, .int .i64 tg.idx, .int .i64 tg.inc] 33)
      have S3 := (hsr.below hb2).below hbn
      have O3 := hO.below hbn
      have hb4 := hb3.trans (hbn.mono hb3.size)
      clear hbr hb2 hb3 hsr hO cr4 hmi s2 hbn
      generalize w2.alloc (Obj.cells #[.int .i64 tg.rep, .int .i64 tg.reg, .int .i64 tg.pla, .int .i64 tg.idx, .int .i64 tg.inc] 33) = w3 at *
      generalize w2.heap.size = tb at *
      obtain ⟨n, c, pe, hpk⟩ : ∃ n c pe, parseCk body = (n, c, pe) := ⟨_, _, _, rfl⟩
      have hpn := parse_ck_le body
      have hkp : Calls Tryz.prog 265 #[.slice a3 body.length c3] w3 fun e w' => (∃ a4 c4, e = .returned (.tuple #[.int .i64 (n : Nat), .slice a4 c.length c4, .int .i64 pe]) ∧ OwnS w' w3.heap.size a4 c4 c) ∧ Below w3.heap.size w3 w' := by
        have := kparse_any a3 c3 body w3 O3.slb hbl
        unfold CkRes at this
        simp only [hpk] at this
        exact this
      unfold frameS at hrr
      rw [hpk] at hrr hpn
      simp only at hrr hpn
      clear hpk
      refine wp_seq_k (fun K hK => ?_)
      have HK := Lib.hid hK
      clear hK
      go_wp2_with (go_at_call 265; refine hkp.mono ?_; rintro e w4 ⟨⟨a4, c4, rfl, O4⟩, hb5⟩)
      refine HK.out _ _ ?_
      clear HK
      have S4 := S3.below hb5
      have T4 := tr_bl hb5 T3
      have hb6 := hb4.trans (hb5.mono hb4.size)
      have u0 := under_cell S4.c0
      have u2 := under_cell S4.c2
      have ut : ∀ x, (Under w4 x).cell? ⟨tb, 3, none⟩ = some (.int .i64 tg.idx) := under_cell (blk_cell T4 3 _ rfl)
      have hO4 := O4.mono hb4.size
      clear S3 T3 O3 hkp hb5 hb4 S4 T4 hbl
      by_cases g1 : st = 1
      case neg =>
        have e1 : ((st : Int) == 1) = false := by rw [beq_eq_false_iff_ne]; omega
        rw [decide_eq_false g1, Bool.false_and] at hrr
        clear g1
        subst hrr
        have HFI := fun x => sfits_any k (n : Int) a4 c4 c (Under w4 x) (O4.slb.below (under_below w4 x))
        refine wp_seq_k (fun K hK => ?_)
        have HK5 := Lib.hid hK
        clear hK
        refine wp_region_under (by kernel_rfl) (by kernel_rfl) ?_
        repeat (first | go_big_quiet_step ((first
          | (go_at_call 157; exact under_call (HFI _)))) | ((with_reducible refine wpQuiet_skip ?_ ?_) ; (focus rfl); (try simp only [Act.put]); (try simp only [List.setIfInBounds_toArray]); (try simp only [List.set_cons_succ]); (try simp only [List.set_cons_zero])))
        refine wpQuiet_nil ?_
        intro _ hw'
        obtain ⟨xU, hw''⟩ := hw'
        subst hw''
        have hbU := under_below w4 xU
        refine HK5.out _ _ ?_
        clear HK5
        go_wp2
        go_ret2
        exact ⟨⟨a4, c4, rfl, hO4.below hbU⟩, hb6.trans (hbU.mono hb6.size)⟩
      case pos =>
        subst g1
        by_cases g2 : tg.idx = s.idx
        case neg =>
          have e2 : (tg.idx == s.idx) = false := by rw [beq_eq_false_iff_ne]; exact g2
          rw [decide_eq_false g2, Bool.false_and, Bool.and_false] at hrr
          clear g2
          subst hrr
          have HFI := fun x => sfits_any k (n : Int) a4 c4 c (Under w4 x) (O4.slb.below (under_below w4 x))
          refine wp_seq_k (fun K hK => ?_)
          have HK5 := Lib.hid hK
          clear hK
          refine wp_region_under (by kernel_rfl) (by kernel_rfl) ?_
          repeat (first | go_big_quiet_step ((first
            | (go_at_call 157; exact under_call (HFI _)))) | ((with_reducible refine wpQuiet_skip ?_ ?_) ; (focus rfl); (try simp only [Act.put]); (try simp only [List.setIfInBounds_toArray]); (try simp only [List.set_cons_succ]); (try simp only [List.set_cons_zero])))
          refine wpQuiet_nil ?_
          intro _ hw'
          obtain ⟨xU, hw''⟩ := hw'
          subst hw''
          have hbU := under_below w4 xU
          refine HK5.out _ _ ?_
          clear HK5
          go_wp2
          go_ret2
          exact ⟨⟨a4, c4, rfl, hO4.below hbU⟩, hb6.trans (hbU.mono hb6.size)⟩
        case pos =>
          have e2 : (tg.idx == s.idx) = true := by rw [beq_iff_eq]; exact g2
          rw [decide_eq_true g2, Bool.true_and] at hrr
          clear g2
          by_cases g3 : pe = 0
          case neg =>
            have e3 : (pe == 0) = false := by rw [beq_eq_false_iff_ne]; exact g3
            rw [decide_eq_false g3, Bool.false_and, Bool.and_false] at hrr
            clear g3
            subst hrr
            have HFI := fun x => sfits_any k (n : Int) a4 c4 c (Under w4 x) (O4.slb.below (under_below w4 x))
            refine wp_seq_k (fun K hK => ?_)
            have HK5 := Lib.hid hK
            clear hK
            refine wp_region_under (by kernel_rfl) (by kernel_rfl) ?_
            repeat (first | go_big_quiet_step ((first
              | (go_at_call 157; exact under_call (HFI _)))) | ((with_reducible refine wpQuiet_skip ?_ ?_) ; (focus rfl); (try simp only [Act.put]); (try simp only [List.setIfInBounds_toArray]); (try simp only [List.set_cons_succ]); (try simp only [List.set_cons_zero])))
            refine wpQuiet_nil ?_
            intro _ hw'
            obtain ⟨xU, hw''⟩ := hw'
            subst hw''
            have hbU := under_below w4 xU
            refine HK5.out _ _ ?_
            clear HK5
            go_wp2
            go_ret2
            exact ⟨⟨a4, c4, rfl, hO4.below hbU⟩, hb6.trans (hbU.mono hb6.size)⟩
          case pos =>
            subst g3
            by_cases g4 : (n : Int) = s.cnt
            case neg =>
              have e4 : ((n : Int) == s.cnt) = false := by rw [beq_eq_false_iff_ne]; exact g4
              rw [decide_eq_false g4, Bool.false_and, Bool.and_false, Bool.and_false] at hrr
              clear g4
              subst hrr
              have HFI := fun x => sfits_any k (n : Int) a4 c4 c (Under w4 x) (O4.slb.below (under_below w4 x))
              refine wp_seq_k (fun K hK => ?_)
              have HK5 := Lib.hid hK
              clear hK
              refine wp_region_under (by kernel_rfl) (by kernel_rfl) ?_
              repeat (first | go_big_quiet_step ((first
                | (go_at_call 157; exact under_call (HFI _)))) | ((with_reducible refine wpQuiet_skip ?_ ?_) ; (focus rfl); (try simp only [Act.put]); (try simp only [List.setIfInBounds_toArray]); (try simp only [List.set_cons_succ]); (try simp only [List.set_cons_zero])))
              refine wpQuiet_nil ?_
              intro _ hw'
              obtain ⟨xU, hw''⟩ := hw'
              subst hw''
              have hbU := under_below w4 xU
              refine HK5.out _ _ ?_
              clear HK5
              go_wp2
              go_ret2
              exact ⟨⟨a4, c4, rfl, hO4.below hbU⟩, hb6.trans (hbU.mono hb6.size)⟩
            case pos =>
              have e4 : ((n : Int) == s.cnt) = true := by rw [beq_iff_eq]; exact g4
              rw [decide_eq_true g4] at hrr
              simp only [Bool.true_and, decide_true] at hrr
              clear g4
              subst hrr
              have HFI := fun x => sfits_any k (n : Int) a4 c4 c (Under w4 x) (O4.slb.below (under_below w4 x))
              refine wp_seq_k (fun K hK => ?_)
              have HK5 := Lib.hid hK
              clear hK
              refine wp_region_under (by kernel_rfl) (by kernel_rfl) ?_
              repeat (first | go_big_quiet_step ((first
                | (go_at_call 157; exact under_call (HFI _)))) | ((with_reducible refine wpQuiet_skip ?_ ?_) ; (focus rfl); (try simp only [Act.put]); (try simp only [List.setIfInBounds_toArray]); (try simp only [List.set_cons_succ]); (try simp only [List.set_cons_zero])))
              refine wpQuiet_nil ?_
              intro _ hw'
              obtain ⟨xU, hw''⟩ := hw'
              subst hw''
              have hbU := under_below w4 xU
              refine HK5.out _ _ ?_
              clear HK5
              go_wp2
              go_ret2
              exact ⟨⟨a4, c4, rfl, hO4.below hbU⟩, hb6.trans (hbU.mono hb6.size)⟩
end
end Go.Proofs.YthfolocjkpiljaaGreatDoor

namespace Go.Proofs.YthfolocjkpiljaaGreatDoor
open Go.RowKit

theorem elInt : ElemT Tryz.prog 41 3 1 8 := ElemT.of (.int .i64 0) Tryz.underlying41 (by kernel_rfl) rfl (by decide)
theorem hurtS_yes {d : Dk} {s : Sh} {n : Nat} (h : (readS d s (n : Int)).2 = false) : hurtS d s (n + 1) = hurtS d s n ++ [(n : Int)] := by
  unfold hurtS
  rw [List.range_succ, List.filter_append, List.map_append]
  simp [h]
theorem hurtS_no {d : Dk} {s : Sh} {n : Nat} (h : (readS d s (n : Int)).2 = true) : hurtS d s (n + 1) = hurtS d s n := by
  unfold hurtS
  rw [List.range_succ, List.filter_append, List.map_append]
  simp [h]
theorem hurtS_len (d : Dk) (s : Sh) (n : Nat) : (hurtS d s n).length ≤ n := by
  unfold hurtS
  rw [List.length_map]
  exact Nat.le_trans (List.length_filter_le _ _) (by simp)
theorem allS_succ (d : Dk) (s : Sh) (n : Nat) : allS d s (n + 1) = allS d s n ++ (readS d s (n : Int)).1 := by
  unfold allS
  rw [List.range_succ, List.flatMap_append]
  simp
theorem allS_len (d : Dk) (s : Sh) (n : Nat) : (allS d s n).length ≤ 80 * n := by
  induction n with
  | zero => simp [allS]
  | succ n ih => rw [allS_succ, List.length_append]; have := read_len2 d s (n : Int); omega
section
variable {B g gp q : Nat} {wv : Value} {d : Dk} {w : World} {s : Sh}
set_option maxRecDepth 100000 in
theorem sbroken_any (h : ShB w q g s) (hd : DiskB B g gp wv d w) (hok : ShOk s) (k : Int) (hk : 0 ≤ k ∧ k < 8) : Calls Tryz.prog 158 #[.pointer (some ⟨q, 0, none⟩), .int .i64 k] w fun e w' => e = .returned (.bool (!(readS d s k).2)) ∧ Below w.heap.size w w' := by
  have hr := sread_any h hd hok k hk
  obtain ⟨r1, r2, hrr⟩ : ∃ r1 r2, readS d s k = (r1, r2) := ⟨_, _, rfl⟩
  rw [hrr] at hr ⊢
  clear hrr
  go_enter Tryz.func158, Tryz.ntmps158
  go_wp2_with (go_at_call 228; refine hr.mono ?_; rintro e w1 ⟨⟨a, c, rfl, hO⟩, hb1⟩)
  go_ret
  exact ⟨rfl, hb1⟩
set_option maxRecDepth 100000 in
set_option maxHeartbeats 1000000 in
theorem swhich_any (h : ShB w q g s) (hd : DiskB B g gp wv d w) (hok : ShOk s) : Calls Tryz.prog 176 #[.pointer (some ⟨q, 0, none⟩), .func (.func 158) #[.pointer (some ⟨q, 0, none⟩)] #[]] w fun e w' => (∃ a c, e = .returned (.slice a (hurtS d s s.cnt.toNat).length c) ∧ Row w' a ((hurtS d s s.cnt.toNat).map (Value.int .i64))) ∧ Below w.heap.size w w' := by
  have hc := hok.c
  obtain ⟨n, hn⟩ : ∃ n : Nat, s.cnt = (n : Int) := ⟨s.cnt.toNat, by omega⟩
  have hcn := scount_any h
  rw [hn] at hcn hc
  rw [hn, Int.toNat_natCast]
  have HN := Lib.hid hn
  clear hn
  go_enter Tryz.func176, Tryz.ntmps176
  refine wp_seq_k (fun K hK => ?_)
  have HK := Lib.hid hK
  clear hK
  go_wp2
  refine HK.out _ _ ?_
  clear HK
  refine wp_seq_k (fun K hK => ?_)
  have HK := Lib.hid hK
  clear hK
  go_wp2
  refine HK.out _ _ ?_
  clear HK
  refine wp_seq_k (fun K hK => ?_)
  have HK := Lib.hid hK
  clear hK
  go_wp2_with (go_at_call 82; refine hcn.mono ?_; rintro e w1 ⟨rfl, rfl⟩)
  go_loopw [9, 5] (fun i o wr => ∃ (j : Nat) (v : Value), j ≤ n ∧ i = .int .i64 (j : Nat) ∧ o = v ∧ wr.ownsRow w.heap.size 3 1 v (hurtS d s j).length ((hurtS d s j).map (Value.int .i64)) ∧ Below w.heap.size w wr) (fun i _ _ => n - (intOf i).toNat)
  case atStart => exact ⟨0, _, by omega, rfl, rfl, World.ownsRow_nil _ _ _ _, Below.refl _ _⟩
  case round =>
    obtain ⟨j, v, hj, rfl, rfl, hown, hbr⟩ := hrel
    by_cases hlt : j < n
    case neg =>
      obtain rfl : j = n := by omega
      obtain ⟨a2, c2, rfl, hrw, _⟩ := Row.of_owns hown
      go_wp2
      refine HK.out _ _ ?_
      clear HK
      go_wp2
      go_ret
      exact ⟨⟨a2, c2, rfl, hrw⟩, hbr⟩
    case pos =>
      have hbk := sbroken_any (h.below hbr) (hd.below hbr) hok (j : Int) (by omega)
      have hI : (j : Int) < (n : Int) := by omega
      have hlen := hurtS_len d s j
      obtain ⟨rb, hrb⟩ : ∃ rb, (readS d s (j : Int)).2 = rb := ⟨_, rfl⟩
      rw [hrb] at hbk
      cases rb
      case true =>
        have HS := Lib.hid (hurtS_no hrb)
        clear hrb
        go_wp2_with (go_at_call 158; refine hbk.mono ?_; rintro e w2 ⟨rfl, hb2⟩)
        go_roundw
        case rel => exact ⟨j + 1, _, by omega, by go_num, rfl, by rw [HS.out]; exact owns_bl hown hb2, hbr.trans (hb2.mono hbr.size)⟩
        case measure => simp [intOf]; omega
      case false =>
        have HS := Lib.hid (hurtS_yes hrb)
        clear hrb
        generalize hurtS d s j = hu at *
        go_wp2_with (first
          | (go_at_call 158; refine hbk.mono ?_; rintro e w2 ⟨rfl, hb2⟩; have o2 := owns_bl hown hb2; have hb3 := hbr.trans (hb2.mono hbr.size))
          | (at_builtin; refine wpList_append1 rfl _ _ 41 3 elInt rfl w.heap.size _ hu.length _ rfl o2 #[.int .i64 (j : Int)] rfl (by simp; rfl) _ rfl (by omega) (by decide) hb3.size ?_; intro v4 w4 ho4 hb4 _))
        go_roundw
        case rel => exact ⟨j + 1, _, by omega, by go_num, rfl, by rw [HS.out, List.length_append, List.map_append]; exact ho4, hb3.trans hb4⟩
        case measure => simp [intOf]; omega
set_option maxRecDepth 100000 in
theorem shurt_any (h : ShB w q g s) (hd : DiskB B g gp wv d w) (hok : ShOk s) : Calls Tryz.prog 81 #[.pointer (some ⟨q, 0, none⟩)] w fun e w' => (∃ a c, e = .returned (.slice a (hurtS d s s.cnt.toNat).length c) ∧ Row w' a ((hurtS d s s.cnt.toNat).map (Value.int .i64))) ∧ Below w.heap.size w w' := by
  have hwh := swhich_any h hd hok
  go_enter Tryz.func81, Tryz.ntmps81
  go_wp2_with (go_at_call 176; refine hwh.mono ?_; rintro e w1 ⟨⟨a, c, rfl, hrw⟩, hb1⟩)
  go_ret
  exact ⟨⟨a, c, rfl, hrw⟩, hb1⟩
end
end Go.Proofs.YthfolocjkpiljaaGreatDoor

namespace Go.Proofs.YthfolocjkpiljaaGreatDoor
open Go.RowKit

/-- Bytes and an error, handed back. -/
def ERes (base : Nat) (r : List UInt8 × Int) (e : Ending) (w' : World) : Prop := ∃ a c, e = .returned (.tuple #[.slice a r.1.length c, .int .i64 r.2]) ∧ OwnS w' base a c r.1
theorem ERes.no (base : Nat) (w' : World) (x : Int) : ERes base ([], x) (.returned (.tuple #[.slice none 0 0, .int .i64 x])) w' := ⟨none, 0, rfl, OwnB.none _ _, Nat.le_refl _, by decide, fun _ => rfl⟩
section
variable {B g gp q : Nat} {wv : Value} {d : Dk} {w : World} {s : Sh}
theorem asked_ok {k : Int} (h : askedS d s k = 0) : 0 ≤ k ∧ k < s.cnt ∧ upD d = true := by
  unfold askedS at h
  split at h
  · cases h
  · split at h
    · cases h
    · rename_i h1 h2
      exact ⟨by omega, by omega, by cases hu : upD d <;> simp_all⟩
theorem asked_in {k : Int} (h1 : 0 ≤ k) (h2 : k < s.cnt) (h3 : upD d = true) : askedS d s k = 0 := by
  unfold askedS
  rw [if_neg (by omega), if_neg (by simp [h3])]
set_option maxRecDepth 100000 in
theorem schunk_any (h : ShB w q g s) (hd : DiskB B g gp wv d w) (hok : ShOk s) (k : Int) : Calls Tryz.prog 164 #[.pointer (some ⟨q, 0, none⟩), .int .i64 k] w fun e w' => ERes w.heap.size (chunkS d s k) e w' ∧ Below w.heap.size w w' := by
  have ha := sasked_any h hd k
  by_cases h0 : askedS d s k = 0
  case neg =>
    rw [show chunkS d s k = ([], askedS d s k) by unfold chunkS; rw [if_pos h0]]
    generalize askedS d s k = x at *
    have hn : (x != 0) = true := by rw [bne_iff_ne]; exact h0
    go_enter Tryz.func164, Tryz.ntmps164
    go_wp2_with (go_at_call 156; refine ha.mono ?_; rintro e w1 ⟨rfl, rfl⟩)
    go_ret2
    exact ⟨ERes.no _ _ _, Below.refl _ _⟩
  case pos =>
    obtain ⟨k1, k2, _⟩ := asked_ok h0
    have hr := sread_any h hd hok k ⟨k1, by have := hok.c; omega⟩
    have hch : chunkS d s k = if (readS d s k).2 = false then ([], 130) else ((readS d s k).1, 0) := by unfold chunkS; rw [if_neg (by simp [h0])]
    rw [hch]
    rw [h0] at ha
    clear hch h0 k1 k2
    obtain ⟨r1, r2, hrr⟩ : ∃ r1 r2, readS d s k = (r1, r2) := ⟨_, _, rfl⟩
    rw [hrr] at hr ⊢
    clear hrr
    cases r2
    · rw [if_pos rfl]
      go_enter Tryz.func164, Tryz.ntmps164
      go_wp2_with (first
        | (go_at_call 156; refine ha.mono ?_; rintro e w1 ⟨rfl, rfl⟩)
        | (go_at_call 228; refine hr.mono ?_; rintro e w1 ⟨⟨a, c, rfl, hO⟩, hb1⟩))
      go_ret2
      exact ⟨ERes.no _ _ _, hb1⟩
    · rw [if_neg (by simp)]
      go_enter Tryz.func164, Tryz.ntmps164
      go_wp2_with (first
        | (go_at_call 156; refine ha.mono ?_; rintro e w1 ⟨rfl, rfl⟩)
        | (go_at_call 228; refine hr.mono ?_; rintro e w1 ⟨⟨a, c, rfl, hO⟩, hb1⟩))
      go_ret2
      exact ⟨⟨a, c, rfl, hO⟩, hb1⟩
set_option maxRecDepth 100000 in
set_option maxHeartbeats 1000000 in
theorem sbytes_any (h : ShB w q g s) (hd : DiskB B g gp wv d w) (hok : ShOk s) : Calls Tryz.prog 83 #[.pointer (some ⟨q, 0, none⟩)] w fun e w' => ERes w.heap.size (bytesS d s) e w' ∧ Below w.heap.size w w' := by
  have c3 := h.c3
  have hu := up_any hd
  cases hup : upD d
  case false =>
    rw [show bytesS d s = ([], 5) by unfold bytesS; rw [if_pos hup]]
    rw [hup] at hu
    go_enter Tryz.func83, Tryz.ntmps83
    go_wp2_with (first
      | (go_at_call 141; refine (snone_any h).mono ?_; rintro e w1 ⟨rfl, rfl⟩)
      | (go_at_call 129; refine hu.mono ?_; rintro e w1 ⟨rfl, rfl⟩))
    go_ret2
    exact ⟨ERes.no _ _ _, Below.refl _ _⟩
  case true =>
    have hc := hok.c
    obtain ⟨n, hn⟩ : ∃ n : Nat, s.cnt = (n : Int) := ⟨s.cnt.toNat, by omega⟩
    have c2 := h.c2
    obtain ⟨r, hr⟩ : ∃ r, (if (List.range n).all (fun (k : Nat) => (readS d s k).2) = true then (allS d s n, (0 : Int)) else ([], 130)) = r := ⟨_, rfl⟩
    have hbr : bytesS d s = r := by
      rw [← hr]
      unfold bytesS
      rw [if_neg (by simp [hup]), hn, Int.toNat_natCast]
    rw [hbr]
    rw [hup] at hu
    rw [hn] at c2 hc
    have HR := Lib.hid hr
    have HCH := fun w (h : ShB w q g s) (hd : DiskB B g gp wv d w) (k : Nat) (hk : k < n) => schunk_any h hd hok (k : Int)
    have HCK : ∀ k : Nat, k < n → chunkS d s k = if (readS d s k).2 = false then ([], 130) else ((readS d s k).1, 0) := fun k hk => by
      unfold chunkS
      rw [if_neg (by simp [asked_in (d := d) (s := s) (k := (k : Int)) (by omega) (by omega) hup])]
    clear hbr hr hup hn
    go_enter Tryz.func83, Tryz.ntmps83
    refine wp_seq_k (fun K hK => ?_)
    have HK := Lib.hid hK
    clear hK
    go_wp2
    refine HK.out _ _ ?_
    clear HK
    refine wp_seq_k (fun K hK => ?_)
    have HK := Lib.hid hK
    clear hK
    go_wp2_with (first
          | (go_at_call 141; refine (snone_any h).mono ?_; rintro e w1 ⟨rfl, rfl⟩)
          | (go_at_call 129; refine hu.mono ?_; rintro e w1 ⟨rfl, rfl⟩))
    refine HK.out _ _ ?_
    clear HK
    refine wp_seq_k (fun K hK => ?_)
    have HK := Lib.hid hK
    clear hK
    go_wp2
    refine HK.out _ _ ?_
    clear HK
    refine wp_seq_k (fun K hK => ?_)
    have HK := Lib.hid hK
    clear hK
    go_wp2_with fail
    go_loopw [23, 4] (fun i o wr => ∃ (j : Nat) (v : Value), j ≤ n ∧ i = .int .i64 (j : Nat) ∧ o = v ∧ Hid (∀ t : Nat, t < j → (readS d s (t : Int)).2 = true) ∧ wr.ownsRow w.heap.size 5 1 v (allS d s j).length (bys (allS d s j)) ∧ Below w.heap.size w wr) (fun i _ _ => n - (intOf i).toNat)
    case atStart => exact ⟨0, _, by omega, rfl, rfl, Lib.hid (fun t ht => absurd ht (by omega)), World.ownsRow_nil _ _ _ _, Below.refl _ _⟩
    case round =>
      clear c2 c3 hu
      obtain ⟨j, v, hj, rfl, rfl, hall, hown, hbr⟩ := hrel
      by_cases hlt : j < n
      case neg =>
        obtain rfl : j = n := by omega
        have hrr : r = (allS d s j, 0) := by
          rw [← HR.out, if_pos]
          rw [List.all_eq_true]
          intro t ht
          exact hall.out t (List.mem_range.1 ht)
        clear HR hall HCH HCK
        subst hrr
        obtain ⟨a2, c2, rfl, hO⟩ := OwnS.of_owns hown
        go_wp2
        refine HK.out _ _ ?_
        clear HK
        go_wp2
        go_ret2
        exact ⟨⟨a2, c2, rfl, hO⟩, hbr⟩
      case pos =>
        have hch := HCH _ (h.below hbr) (hd.below hbr) j hlt
        rw [HCK j hlt] at hch
        have hI : (j : Int) < (n : Int) := by omega
        have hal := allS_len d s j
        have hrl := read_len2 d s (j : Int)
        have hsu := allS_succ d s j
        clear HCH HCK
        obtain ⟨r1, r2, hrr⟩ : ∃ r1 r2, readS d s (j : Int) = (r1, r2) := ⟨_, _, rfl⟩
        rw [hrr] at hch hrl hsu
        cases r2
        case false =>
          rw [if_pos rfl] at hch
          have hr2 : r = ([], 130) := by
            rw [← HR.out, if_neg]
            intro hh
            have := List.all_eq_true.1 hh j (List.mem_range.2 hlt)
            simp only [hrr] at this
            cases this
          clear HR hall HK hsu hrr
          subst hr2
          go_wp2_with (go_at_call 164; refine hch.mono ?_; rintro e w2 ⟨⟨a2, c2, rfl, hO⟩, hb2⟩)
          go_ret2
          exact ⟨ERes.no _ _ _, hbr.trans (hb2.mono hbr.size)⟩
        case true =>
          rw [if_neg (by simp)] at hch
          simp only at hsu hrl
          have hall2 : Hid (∀ t : Nat, t < j + 1 → (readS d s (t : Int)).2 = true) := Lib.hid (fun t ht => by
            by_cases htj : t < j
            · exact hall.out t htj
            · obtain rfl : t = j := by omega
              rw [hrr])
          have HS := Lib.hid hsu
          clear hsu hrr hall HR
          generalize allS d s j = al at *
          go_wp2_with (first
            | (go_at_call 164; refine hch.mono ?_; rintro e w2 ⟨⟨a2, c2, rfl, hO⟩, hb2⟩; have o2 := owns_bl hown hb2; have hb3 := hbr.trans (hb2.mono hbr.size))
            | (at_builtin; refine wpList_append_row rfl _ _ 34 5 elByte rfl w.heap.size _ al.length (bys al) rfl o2 a2 r1.length c2 (bys r1) rfl (by rw [bys_len]; omega) hO.slb.row bys_one (by omega) (by decide) hb3.size ?_; intro v6 w6 ho6 hb6))
          go_roundw
          case rel => exact ⟨j + 1, _, by omega, by go_num, rfl, hall2, by rw [HS.out, List.length_append, bys_app]; exact ho6, hb3.trans hb6⟩
          case measure => simp [intOf]; omega
end
end Go.Proofs.YthfolocjkpiljaaGreatDoor

namespace Go.Proofs.YthfolocjkpiljaaGreatDoor
open Go.RowKit

/-- What hands back an error, and leaves a disk. -/
def Does2 (B g gp : Nat) (w : World) (r : Dk × Int) (e : Ending) (w' : World) : Prop := e = .returned (.int .i64 r.2) ∧ (∃ wv', DiskB B g gp wv' r.1 w') ∧ Kt B w w'
theorem Does2.of {B g gp : Nat} {w w' : World} {r : Dk × Int} {d : Dk} {x : Int} (hr : r = (d, x)) (hd : ∃ wv', DiskB B g gp wv' d w') (hk : Kt B w w') : Does2 B g gp w r (.returned (.int .i64 x)) w' := by
  subst hr
  exact ⟨rfl, hd, hk⟩
/-- Shelves of one replica and one incarnation. -/
structure Alike (s m : Sh) : Prop where
  ok : ShOk m
  c : 1 ≤ m.cnt
  r : m.rep = s.rep
  i : m.inc = s.inc
section
variable {B g gp q : Nat} {wv : Value} {d : Dk} {w : World} {s m : Sh}
set_option maxRecDepth 100000 in
set_option maxHeartbeats 2000000 in
theorem sput_any (h : ShB w q g s) (hd : DiskB B g gp wv d w) (hb : B ≤ w.heap.size) (hm : Alike s m) (k : Int) (hk : 0 ≤ k ∧ k < 8) (a : Option Addr) (cap : Nat) (c : List UInt8) (hs : SlB w a cap c) (hc : c.length ≤ 80) (hw : d.waits.length ≤ 1000) :
    Calls Tryz.prog 143 #[.pointer (some ⟨q, 0, none⟩), .agg #[.int .i64 m.idx, .int .i64 m.area, .int .i64 m.cnt], .int .i64 k, .slice a c.length cap] w (Does2 B g gp w (putS d m k c)) := by
  have hbw := blw w (Obj.cells #[.int .i64 m.idx, .int .i64 m.area, .int .i64 m.cnt] 237)
  have B0 := heap_alloc_new w (Obj.cells #[.int .i64 m.idx, .int .i64 m.area, .int .i64 m.cnt] 237)
  have D0 := hd.below hbw
  have S0 := h.below hbw
  have s0 := hs.below hbw
  have ha := hm.ok.a
  have hc8 := hm.ok.c
  have hp : 0 ≤ plaS m k ∧ plaS m k < 16 := by unfold plaS; omega
  have hf := first5 hp
  obtain ⟨r, hr⟩ : ∃ r, putS d m k c = r := ⟨_, rfl⟩
  rw [hr]
  obtain ⟨q0, q1, q2⟩ := man_cells B0
  have hkp := kprint_any m.cnt hm.c hc8.2 a cap c hc (w.alloc (Obj.cells #[.int .i64 m.idx, .int .i64 m.area, .int .i64 m.cnt] 237)) s0
  go_enter Tryz.func143, Tryz.ntmps143
  refine wp_seq_k (fun K hK => ?_)
  have HK := Lib.hid hK
  clear hK
  go_wp2
  refine HK.out _ _ ?_
  clear HK
  generalize hw0 : w.alloc (Obj.cells #[.int .i64 m.idx, .int .i64 m.area, .int .i64 m.cnt] 237) = w0 at *
  clear hw0
  refine wp_scope_straight ?_
  refine wp_seq_k (fun K hK => ?_)
  have HK := Lib.hid hK
  clear hK
  go_wp2_with (go_at_call 219; refine hkp.mono ?_; rintro e w2 ⟨⟨v2, rfl, o2⟩, hb2⟩)
  refine HK.out _ _ ?_
  clear HK
  have B2 := tr_bl hb2 B0
  obtain ⟨r0, r1, r2⟩ := man_cells B2
  have hpl : plaS m k = 8 * m.area + k := rfl
  refine wp_seq_k (fun K hK => ?_)
  have HK := Lib.hid hK
  clear hK
  go_wp2
  refine HK.out _ _ ?_
  clear HK
  rw [← hpl]
  obtain ⟨p, hpp⟩ : ∃ p, plaS m k = p := ⟨_, rfl⟩
  rw [hpp] at hf hp ⊢
  obtain ⟨f, hff⟩ : ∃ f, firstN 5 p = f := ⟨_, rfl⟩
  rw [hff] at hf
  have hfb : 0 ≤ f ∧ f < 200 := by omega
  have HF := Lib.hid hff
  have HPP := Lib.hid hpp
  clear hf hff hpl hpp q0 q1 q2 r0 r1 r2 hkp s0 hs
  have hb3 := hbw.trans (hb2.mono hbw.size)
  have D2 := D0.below hb2
  have S2 := S0.below hb2
  clear hb2 B0 D0 S0 hbw hd h
  obtain ⟨a2, c2, rfl, hO2⟩ := OwnS.of_owns o2
  clear o2
  refine wp_seq_k (fun K hK => ?_)
  have HK := Lib.hid hK
  clear hK
  go_wp2_with fail
  have hbd := (Below.refl w2.heap.size w2).drew
  have D3 := D2.below hbd
  have S3 := S2.below hbd
  have B3 := tr_bl hbd B2
  have O3 := hO2.below hbd
  have hb4 := hb3.trans (hbd.mono hb3.size)
  refine wp_region_held_drew (S := fun w' => ShB w' q g s ∧ w'.heap[w.heap.size]? = some (Obj.cells #[.int .i64 m.idx, .int .i64 m.area, .int .i64 m.cnt] 237)) (by kernel_rfl) ⟨S3, B3⟩ (fun hS0 => ?_)
  clear hbd D2 S2 B2 hO2 hb3
  generalize w2.drew = x0 at *
  refine wpAnyH_take (i := 0) (oi := ⟨_, _, _, _, _, _⟩) (v := ?_) rfl (by kernel_rfl) (by kernel_rfl) (by kernel_rfl) (fun _ _ _ h => h) (Or.inl ⟨by rfl, ?_⟩) (by assumption) ?_
  rotate_left
  · intro wS hSw
    go_simp; (try with_reducible rfl)
  (try simp only [Act.put])
  (try simp only [List.setIfInBounds_toArray])
  (try simp only [List.set_cons_succ])
  (try simp only [List.set_cons_zero])
  refine wpAnyH_take (i := 1) (oi := ⟨_, _, _, _, _, _⟩) (v := ?_) rfl (by kernel_rfl) (by kernel_rfl) (by kernel_rfl) (fun _ _ _ h => h) (Or.inl ⟨by rfl, ?_⟩) (by assumption) ?_
  rotate_left
  · intro wS hSw
    go_simp; (try with_reducible rfl)
  (try simp only [Act.put])
  (try simp only [List.setIfInBounds_toArray])
  (try simp only [List.set_cons_succ])
  (try simp only [List.set_cons_zero])
  refine wpAnyH_take (i := 2) (oi := ⟨_, _, _, _, _, _⟩) (v := ?_) rfl (by kernel_rfl) (by kernel_rfl) (by kernel_rfl) (fun _ _ _ h => h) (Or.inl ⟨by rfl, ?_⟩) (by assumption) ?_
  rotate_left
  · intro wS hSw
    go_simp; (try with_reducible rfl)
  (try simp only [Act.put])
  (try simp only [List.setIfInBounds_toArray])
  (try simp only [List.set_cons_succ])
  (try simp only [List.set_cons_zero])
  refine wpAnyH_take (i := 3) (oi := ⟨_, _, _, _, _, _⟩) (v := ?_) rfl (by kernel_rfl) (by kernel_rfl) (by kernel_rfl) (fun _ _ _ h => h) (Or.inl ⟨by rfl, ?_⟩) (by assumption) ?_
  rotate_left
  · intro wS hSw
    have c := hSw.1.c4; go_simp; (try with_reducible rfl)
  (try simp only [Act.put])
  (try simp only [List.setIfInBounds_toArray])
  (try simp only [List.set_cons_succ])
  (try simp only [List.set_cons_zero])
  refine wpAnyH_take (i := 4) (oi := ⟨_, _, _, _, _, _⟩) (v := ?_) rfl (by kernel_rfl) (by kernel_rfl) (by kernel_rfl) (fun _ _ _ h => h) (Or.inl ⟨by rfl, ?_⟩) (by assumption) ?_
  rotate_left
  · intro wS hSw
    go_simp; (try with_reducible rfl)
  (try simp only [Act.put])
  (try simp only [List.setIfInBounds_toArray])
  (try simp only [List.set_cons_succ])
  (try simp only [List.set_cons_zero])
  refine wpAnyH_take (i := 5) (oi := ⟨_, _, _, _, _, _⟩) (v := ?_) rfl (by kernel_rfl) (by kernel_rfl) (by kernel_rfl) (fun _ _ _ h => h) (Or.inl ⟨by rfl, ?_⟩) (by assumption) ?_
  rotate_left
  · intro wS hSw
    go_simp; (try with_reducible rfl)
  (try simp only [Act.put])
  (try simp only [List.setIfInBounds_toArray])
  (try simp only [List.set_cons_succ])
  (try simp only [List.set_cons_zero])
  refine wpAnyH_take (i := 6) (oi := ⟨_, _, _, _, _, _⟩) (v := ?_) rfl (by kernel_rfl) (by kernel_rfl) (by kernel_rfl) (fun _ _ _ h => h) (Or.inl ⟨by rfl, ?_⟩) (by assumption) ?_
  rotate_left
  · intro wS hSw
    have c := (man_cells hSw.2).1; go_simp; (try with_reducible rfl)
  (try simp only [Act.put])
  (try simp only [List.setIfInBounds_toArray])
  (try simp only [List.set_cons_succ])
  (try simp only [List.set_cons_zero])
  refine wpAnyH_take (i := 7) (oi := ⟨_, _, _, _, _, _⟩) (v := ?_) rfl (by kernel_rfl) (by kernel_rfl) (by kernel_rfl) (fun _ _ _ h => h) (Or.inl ⟨by rfl, ?_⟩) (by assumption) ?_
  rotate_left
  · intro wS hSw
    go_simp; (try with_reducible rfl)
  (try simp only [Act.put])
  (try simp only [List.setIfInBounds_toArray])
  (try simp only [List.set_cons_succ])
  (try simp only [List.set_cons_zero])
  refine wpAnyH_take (i := 8) (oi := ⟨_, _, _, _, _, _⟩) (v := ?_) rfl (by kernel_rfl) (by kernel_rfl) (by kernel_rfl) (fun _ _ _ h => h) (Or.inl ⟨by rfl, ?_⟩) (by assumption) ?_
  rotate_left
  · intro wS hSw
    go_simp; (try with_reducible rfl)
  (try simp only [Act.put])
  (try simp only [List.setIfInBounds_toArray])
  (try simp only [List.set_cons_succ])
  (try simp only [List.set_cons_zero])
  refine wpAnyH_take (i := 9) (oi := ⟨_, _, _, _, _, _⟩) (v := ?_) rfl (by kernel_rfl) (by kernel_rfl) (by kernel_rfl) (fun _ _ _ h => h) (Or.inl ⟨by rfl, ?_⟩) (by assumption) ?_
  rotate_left
  · intro wS hSw
    go_simp; (try with_reducible rfl)
  (try simp only [Act.put])
  (try simp only [List.setIfInBounds_toArray])
  (try simp only [List.set_cons_succ])
  (try simp only [List.set_cons_zero])
  refine wpAnyH_take (i := 10) (oi := ⟨_, _, _, _, _, _⟩) (v := ?_) rfl (by kernel_rfl) (by kernel_rfl) (by kernel_rfl) (fun _ _ _ h => h) (Or.inl ⟨by rfl, ?_⟩) (by assumption) ?_
  rotate_left
  · intro wS hSw
    have c := hSw.1.c5; go_simp; (try with_reducible rfl)
  (try simp only [Act.put])
  (try simp only [List.setIfInBounds_toArray])
  (try simp only [List.set_cons_succ])
  (try simp only [List.set_cons_zero])
  refine wpAnyH_take (i := 11) (oi := ⟨_, _, _, _, _, _⟩) (v := ?_) rfl (by kernel_rfl) (by kernel_rfl) (by kernel_rfl) (fun _ _ _ h => h) (Or.inl ⟨by rfl, ?_⟩) (by assumption) ?_
  rotate_left
  · intro wS hSw
    go_simp; (try with_reducible rfl)
  (try simp only [Act.put])
  (try simp only [List.setIfInBounds_toArray])
  (try simp only [List.set_cons_succ])
  (try simp only [List.set_cons_zero])
  refine wpAnyH_take (i := 12) (oi := ⟨_, _, _, _, _, _⟩) (v := ?_) rfl (by kernel_rfl) (by kernel_rfl) (by kernel_rfl) (fun _ _ _ h => h) (Or.inl ⟨by rfl, ?_⟩) (by assumption) ?_
  rotate_left
  · intro wS hSw
    go_simp; (try with_reducible rfl)
  (try simp only [Act.put])
  (try simp only [List.setIfInBounds_toArray])
  (try simp only [List.set_cons_succ])
  (try simp only [List.set_cons_zero])
  refine wpAnyH_ready (rs := [13]) (by kernel_rfl) (by simp) ?_
  refine AllReadyH.cons (o := ⟨_, _, _, _, _, _⟩) rfl (fun K' hK' => ?_) AllReadyH.nil
  refine (if_pos (by rfl)).mpr ?_
  go_simp
  refine (wide_any 5 _).mono ?_
  rintro e w4 ⟨rfl, hb5⟩
  have D4 := D3.below hb5
  have S4 := S3.below hb5
  have B4 := tr_bl hb5 B3
  have O4 := O3.below hb5
  have hb6 := hb4.trans (hb5.mono hb4.size)
  refine hK'.out _ _ ⟨S4, B4⟩ (fun _ => ?_)
  clear hK' D3 S3 B3 O3 hb4 hb5
  (try simp only [Act.put])
  (try simp only [List.setIfInBounds_toArray])
  (try simp only [List.set_cons_succ])
  (try simp only [List.set_cons_zero])
  refine wpAnyH_ready (rs := [14]) (by kernel_rfl) (by simp) ?_
  refine AllReadyH.cons (o := ⟨_, _, _, _, _, _⟩) rfl (fun K' hK' => ?_) AllReadyH.nil
  refine (if_pos (by rfl)).mpr ?_
  go_simp
  have htg : tgV (tagS m k) = .agg #[.int .i64 s.rep, .int .i64 5, .int .i64 p, .int .i64 m.idx, .int .i64 s.inc] := by
    unfold tgV tagS
    rw [HPP.out, hm.r, hm.i]
  have hse := seal2 (tagS m k) a2 c2 (ckB m.cnt c) w4 O4.slb (tagS_may hm.ok hk) (by unfold ckB; rw [List.length_cons]; omega)
  rw [htg] at hse
  refine hse.mono ?_
  rintro e w5 ⟨⟨G, rfl, hG, F5⟩, hb7⟩
  have D5 := D4.below hb7
  have S5 := S4.below hb7
  have B5 := tr_bl hb7 B4
  have hb8 := hb6.trans (hb7.mono hb6.size)
  have hwG : w.heap.size ≤ G := Nat.le_trans hb6.size hG
  refine hK'.out _ _ ⟨S5, B5⟩ (fun _ => ?_)
  clear hK' D4 S4 B4 O4 hb6 hb7 hse htg
  (try simp only [Act.put])
  (try simp only [List.setIfInBounds_toArray])
  (try simp only [List.set_cons_succ])
  (try simp only [List.set_cons_zero])
  refine wpAnyH_take (i := 15) (oi := ⟨_, _, _, _, _, _⟩) (v := ?_) rfl (by kernel_rfl) (by kernel_rfl) (by kernel_rfl) (fun _ _ _ h => h) (Or.inl ⟨by rfl, ?_⟩) (by assumption) ?_
  rotate_left
  · intro wS hSw
    go_simp; (try with_reducible rfl)
  (try simp only [Act.put])
  (try simp only [List.setIfInBounds_toArray])
  (try simp only [List.set_cons_succ])
  (try simp only [List.set_cons_zero])
  refine wpAnyH_take (i := 16) (oi := ⟨_, _, _, _, _, _⟩) (v := ?_) rfl (by kernel_rfl) (by kernel_rfl) (by kernel_rfl) (fun _ _ _ h => h) (Or.inl ⟨by rfl, ?_⟩) (by assumption) ?_
  rotate_left
  · intro wS hSw
    go_simp; (try with_reducible rfl)
  (try simp only [Act.put])
  (try simp only [List.setIfInBounds_toArray])
  (try simp only [List.set_cons_succ])
  (try simp only [List.set_cons_zero])
  refine wpAnyH_take (i := 17) (oi := ⟨_, _, _, _, _, _⟩) (v := ?_) rfl (by kernel_rfl) (by kernel_rfl) (by kernel_rfl) (fun _ _ _ h => h) (Or.inl ⟨by rfl, ?_⟩) (by assumption) ?_
  rotate_left
  · intro wS hSw
    go_simp; (try with_reducible rfl)
  (try simp only [Act.put])
  (try simp only [List.setIfInBounds_toArray])
  (try simp only [List.set_cons_succ])
  (try simp only [List.set_cons_zero])
  refine wpAnyH_take (i := 18) (oi := ⟨_, _, _, _, _, _⟩) (v := ?_) rfl (by kernel_rfl) (by kernel_rfl) (by kernel_rfl) (fun _ _ _ h => h) (Or.inl ⟨by rfl, ?_⟩) (by assumption) ?_
  rotate_left
  · intro wS hSw
    go_simp; (try with_reducible rfl)
  (try simp only [Act.put])
  (try simp only [List.setIfInBounds_toArray])
  (try simp only [List.set_cons_succ])
  (try simp only [List.set_cons_zero])
  refine wpAnyH_take (i := 19) (oi := ⟨_, _, _, _, _, _⟩) (v := ?_) rfl (by kernel_rfl) (by kernel_rfl) (by kernel_rfl) (fun _ _ _ h => h) (Or.inl ⟨by rfl, ?_⟩) (by assumption) ?_
  rotate_left
  · intro wS hSw
    go_simp; (try with_reducible rfl)
  (try simp only [Act.put])
  (try simp only [List.setIfInBounds_toArray])
  (try simp only [List.set_cons_succ])
  (try simp only [List.set_cons_zero])
  refine wpAnyH_done (by kernel_rfl) ?_ _
  refine HK.out _ _ ?_
  clear HK
  have hfl : (frmS m k c).length = 128 := frmS_len hc
  have O5 : OwnB w5 w.heap.size (some ⟨G, 0, none⟩) 128 (frmS m k c) := .inr ⟨G, [], rfl, hwG, by omega, by unfold maxLen; omega, by rw [List.append_nil]; exact F5⟩
  have k5 := Kt.of hb8 hb
  clear F5 B5 hG
  have hr0 : r = if (writeD d f (pcD (frmS m k c) 0)).2 ≠ 0 then writeD d f (pcD (frmS m k c) 0) else writeD (writeD d f (pcD (frmS m k c) 0)).1 (f + 1) (pcD (frmS m k c) 1) := by
    rw [← hr]
    unfold putS
    rw [HPP.out, HF.out]
  clear hr
  generalize frmS m k c = fr at *
  refine wp_seq_k (fun K hK => ?_)
  have HK := Lib.hid hK
  clear hK
  go_wp2
  refine HK.out _ _ ?_
  clear HK
  refine wp_seq_k (fun K hK => ?_)
  have HK := Lib.hid hK
  clear hK
  refine wp_label ?_
  refine HK.out _ _ ?_
  clear HK
  refine wp_seq_k (fun K hK => ?_)
  have HK := Lib.hid hK
  clear hK
  go_wp2_with (go_at_call 96; refine (wide_any 5 _).mono ?_; rintro e w6 ⟨rfl, hb9⟩; have D6 := D5.below hb9; have S6 := S5.below hb9; have O6 := O5.below hb9; have k6 := k5.trans (Kt.of hb9 (Nat.le_trans hb hb8.size)))
  rw [show wideN 5 = 2 from rfl]
  clear D5 S5 O5 k5 hb8 hb9
  have hp0 : (pcD fr 0).length = 64 := by unfold pcD; rw [List.length_take, List.length_drop]; omega
  have hp1 : (pcD fr 1).length = 64 := by unfold pcD; rw [List.length_take, List.length_drop]; omega
  have hw1 := (write_pl d f (pcD fr 0)).2
  obtain ⟨d1, e1, hd1⟩ : ∃ d1 e1, writeD d f (pcD fr 0) = (d1, e1) := ⟨_, _, rfl⟩
  rw [hd1] at hr0 hw1
  simp only at hr0 hw1
  obtain ⟨d2, e2, hd2⟩ : ∃ d2 e2, writeD d1 (f + 1) (pcD fr 1) = (d2, e2) := ⟨_, _, rfl⟩
  rw [hd2] at hr0
  have HW0 := fun w' (D : DiskB B g gp wv d w') hB O => write_any D hB f (some ⟨G, 0, none⟩) 128 (pcD fr 0) O (by omega)
  have HW1 := fun w' wv' (D : DiskB B g gp wv' d1 w') hB O => write_any D hB (f + 1) (some ⟨G, 64, none⟩) 64 (pcD fr 1) O (by omega)
  simp only [hd1, hp0] at HW0
  simp only [hd2, hp1] at HW1
  have HR := Lib.hid hr0
  have HFL := Lib.hid hfl
  have HP0 := Lib.hid hp0
  have HP1 := Lib.hid hp1
  clear hr0 hfl hp0 hp1 hd1 hd2 hw1
  go_loopw [49, 13] (fun i o wr => ∃ j : Nat, j ≤ 2 ∧ i = .int .i64 (j : Nat) ∧ o = .int .i64 0 ∧ ((j = 0 ∧ DiskB B g gp wv d wr) ∨ (j = 1 ∧ e1 = 0 ∧ ∃ wv', DiskB B g gp wv' d1 wr) ∨ (j = 2 ∧ e1 = 0 ∧ e2 = 0 ∧ ∃ wv', DiskB B g gp wv' d2 wr)) ∧ ShB wr q g s ∧ OwnB wr w.heap.size (some ⟨G, 0, none⟩) 128 fr ∧ Kt B w wr) (fun i _ _ => 2 - (intOf i).toNat)
  case atStart => exact ⟨0, by omega, rfl, rfl, .inl ⟨rfl, D6⟩, S6, O6, k6⟩
  case round =>
    clear D6 S6 O6 k6
    obtain ⟨j, hj, rfl, rfl, hst, S7, O7, k7⟩ := hrel
    rcases hst with ⟨rfl, D7⟩ | ⟨rfl, rfl, wv7, D7⟩ | ⟨rfl, rfl, rfl, wv7, D7⟩
    · skip
      have hB7 := Nat.le_trans hb k7.bl.size
      refine wp_seq_k (fun K hK => ?_)
      have HK := Lib.hid hK
      clear hK
      go_wp2
      refine HK.out _ _ ?_
      clear HK
      refine wp_seq_k (fun K hK => ?_)
      have HK := Lib.hid hK
      clear hK
      go_wp2
      refine HK.out _ _ ?_
      clear HK
      refine wp_seq_k (fun K hK => ?_)
      have HK2 := Lib.hid hK
      clear hK
      refine wp_block ?_
      refine wp_seq_k (fun K hK => ?_)
      have HK := Lib.hid hK
      clear hK
      go_wp2
      refine HK.out _ _ ?_
      clear HK
      refine wp_seq_k (fun K hK => ?_)
      have HK3 := Lib.hid hK
      clear hK
      go_wp2_with fail
      have hbd := (Below.refl wr.heap.size wr).drew
      have D8 := D7.below hbd
      have S8 := S7.below hbd
      have O8 := O7.below hbd
      have k8 := k7.trans (Kt.of hbd hB7)
      have hB8 := Nat.le_trans hB7 hbd.size
      refine wp_region_held_drew (S := fun w' => ShB w' q g s) (by kernel_rfl) S8 (fun hS0 => ?_)
      clear hbd D7 S7 O7 k7 hB7
      generalize wr.drew = x1 at *
      refine wpAnyH_take (i := 0) (oi := ⟨_, _, _, _, _, _⟩) (v := ?_) rfl (by kernel_rfl) (by kernel_rfl) (by kernel_rfl) (fun _ _ _ h => h) (Or.inl ⟨by rfl, ?_⟩) (by assumption) ?_
      rotate_left
      · intro wS hSw
        go_simp; (try with_reducible rfl)
      (try simp only [Act.put])
      (try simp only [List.setIfInBounds_toArray])
      (try simp only [List.set_cons_succ])
      (try simp only [List.set_cons_zero])
      refine wpAnyH_take (i := 1) (oi := ⟨_, _, _, _, _, _⟩) (v := ?_) rfl (by kernel_rfl) (by kernel_rfl) (by kernel_rfl) (fun _ _ _ h => h) (Or.inl ⟨by rfl, ?_⟩) (by assumption) ?_
      rotate_left
      · intro wS hSw
        go_simp; (try with_reducible rfl)
      (try simp only [Act.put])
      (try simp only [List.setIfInBounds_toArray])
      (try simp only [List.set_cons_succ])
      (try simp only [List.set_cons_zero])
      refine wpAnyH_take (i := 2) (oi := ⟨_, _, _, _, _, _⟩) (v := ?_) rfl (by kernel_rfl) (by kernel_rfl) (by kernel_rfl) (fun _ _ _ h => h) (Or.inl ⟨by rfl, ?_⟩) (by assumption) ?_
      rotate_left
      · intro wS hSw
        go_simp; (try with_reducible rfl)
      (try simp only [Act.put])
      (try simp only [List.setIfInBounds_toArray])
      (try simp only [List.set_cons_succ])
      (try simp only [List.set_cons_zero])
      refine wpAnyH_take (i := 3) (oi := ⟨_, _, _, _, _, _⟩) (v := ?_) rfl (by kernel_rfl) (by kernel_rfl) (by kernel_rfl) (fun _ _ _ h => h) (Or.inl ⟨by rfl, ?_⟩) (by assumption) ?_
      rotate_left
      · intro wS hSw
        have c := hSw.c3; go_simp; (try with_reducible rfl)
      (try simp only [Act.put])
      (try simp only [List.setIfInBounds_toArray])
      (try simp only [List.set_cons_succ])
      (try simp only [List.set_cons_zero])
      refine wpAnyH_take (i := 4) (oi := ⟨_, _, _, _, _, _⟩) (v := ?_) rfl (by kernel_rfl) (by kernel_rfl) (by kernel_rfl) (fun _ _ _ h => h) (Or.inl ⟨by rfl, ?_⟩) (by assumption) ?_
      rotate_left
      · intro wS hSw
        go_simp; (try with_reducible rfl)
      (try simp only [Act.put])
      (try simp only [List.setIfInBounds_toArray])
      (try simp only [List.set_cons_succ])
      (try simp only [List.set_cons_zero])
      refine wpAnyH_take (i := 6) (oi := ⟨_, _, _, _, _, _⟩) (v := ?_) rfl (by kernel_rfl) (by kernel_rfl) (by kernel_rfl) (fun _ _ _ h => h) (Or.inl ⟨by rfl, ?_⟩) (by assumption) ?_
      rotate_left
      · intro wS hSw
        go_simp; (try with_reducible rfl)
      (try simp only [Act.put])
      (try simp only [List.setIfInBounds_toArray])
      (try simp only [List.set_cons_succ])
      (try simp only [List.set_cons_zero])
      refine wpAnyH_take (i := 8) (oi := ⟨_, _, _, _, _, _⟩) (v := ?_) rfl (by kernel_rfl) (by kernel_rfl) (by kernel_rfl) (fun _ _ _ h => h) (Or.inl ⟨by rfl, ?_⟩) (by assumption) ?_
      rotate_left
      · intro wS hSw
        go_simp; (try with_reducible rfl)
      (try simp only [Act.put])
      (try simp only [List.setIfInBounds_toArray])
      (try simp only [List.set_cons_succ])
      (try simp only [List.set_cons_zero])
      refine wpAnyH_take (i := 9) (oi := ⟨_, _, _, _, _, _⟩) (v := ?_) rfl (by kernel_rfl) (by kernel_rfl) (by kernel_rfl) (fun _ _ _ h => h) (Or.inl ⟨by rfl, ?_⟩) (by assumption) ?_
      rotate_left
      · intro wS hSw
        go_simp; (try with_reducible rfl)
      (try simp only [Act.put])
      (try simp only [List.setIfInBounds_toArray])
      (try simp only [List.set_cons_succ])
      (try simp only [List.set_cons_zero])
      refine wpAnyH_take (i := 10) (oi := ⟨_, _, _, _, _, _⟩) (v := .int .i64 0) rfl (by kernel_rfl) (by kernel_rfl) (by kernel_rfl) (fun _ _ _ h => h) (Or.inl ⟨by rfl, fun wS hSw => ?_⟩) (by assumption) ?_
      · go_simp; (try rfl)
      (try simp only [Act.put])
      (try simp only [List.setIfInBounds_toArray])
      (try simp only [List.set_cons_succ])
      (try simp only [List.set_cons_zero])
      refine wpAnyH_take (i := 11) (oi := ⟨_, _, _, _, _, _⟩) (v := ?_) rfl (by kernel_rfl) (by kernel_rfl) (by kernel_rfl) (fun _ _ _ h => h) (Or.inl ⟨by rfl, ?_⟩) (by assumption) ?_
      rotate_left
      · intro wS hSw
        go_simp; (try with_reducible rfl)
      (try simp only [Act.put])
      (try simp only [List.setIfInBounds_toArray])
      (try simp only [List.set_cons_succ])
      (try simp only [List.set_cons_zero])
      refine wpAnyH_take (i := 12) (oi := ⟨_, _, _, _, _, _⟩) (v := .int .i64 (0 + 1)) rfl (by kernel_rfl) (by kernel_rfl) (by kernel_rfl) (fun _ _ _ h => h) (Or.inl ⟨by rfl, fun wS hSw => ?_⟩) (by assumption) ?_
      · go_simp; (try rfl)
      (try simp only [Act.put])
      (try simp only [List.setIfInBounds_toArray])
      (try simp only [List.set_cons_succ])
      (try simp only [List.set_cons_zero])
      refine wpAnyH_take (i := 13) (oi := ⟨_, _, _, _, _, _⟩) (v := .int .i64 (0 + 64)) rfl (by kernel_rfl) (by kernel_rfl) (by kernel_rfl) (fun _ _ _ h => h) (Or.inl ⟨by rfl, fun wS hSw => ?_⟩) (by assumption) ?_
      · go_simp; (try rfl)
      (try simp only [Act.put])
      (try simp only [List.setIfInBounds_toArray])
      (try simp only [List.set_cons_succ])
      (try simp only [List.set_cons_zero])
      refine wpAnyH_take (i := 14) (oi := ⟨_, _, _, _, _, _⟩) (v := .slice (some ⟨G, 0, none⟩) 64 128) rfl (by kernel_rfl) (by kernel_rfl) (by kernel_rfl) (fun _ _ _ h => h) (Or.inl ⟨by rfl, fun wS hSw => ?_⟩) (by assumption) ?_
      · go_simp; (try rfl)
      (try simp only [Act.put])
      (try simp only [List.setIfInBounds_toArray])
      (try simp only [List.set_cons_succ])
      (try simp only [List.set_cons_zero])
      refine wpAnyH_ready (rs := [5]) (by kernel_rfl) (by simp) ?_
      refine AllReadyH.cons (o := ⟨_, _, _, _, _, _⟩) rfl (fun K' hK' => ?_) AllReadyH.nil
      refine (if_pos (by rfl)).mpr ?_
      go_simp
      refine (first_any 5 p _).mono ?_
      rintro e w10 ⟨rfl, hb10⟩
      rw [HF.out]
      have D10 := D8.below hb10
      have S10 := S8.below hb10
      have O10 := O8.below hb10
      have k10 := k8.trans (Kt.of hb10 hB8)
      have hB10 := Nat.le_trans hB8 hb10.size
      refine hK'.out _ _ S10 (fun _ => ?_)
      clear hK' D8 S8 O8 k8 hB8 hb10
      (try simp only [Act.put])
      (try simp only [List.setIfInBounds_toArray])
      (try simp only [List.set_cons_succ])
      (try simp only [List.set_cons_zero])
      refine wpAnyH_take (i := 7) (oi := ⟨_, _, _, _, _, _⟩) (v := .int .i64 (f)) rfl (by kernel_rfl) (by kernel_rfl) (by kernel_rfl) (fun _ _ _ h => h) (Or.inl ⟨by rfl, fun wS hSw => ?_⟩) (by assumption) ?_
      · go_simp; (try rw [IntWalk.i64_in _ (by omega)])
      (try simp only [Act.put])
      (try simp only [List.setIfInBounds_toArray])
      (try simp only [List.set_cons_succ])
      (try simp only [List.set_cons_zero])
      refine wpAnyH_ready (rs := [15]) (by kernel_rfl) (by simp) ?_
      refine AllReadyH.cons (o := ⟨_, _, _, _, _, _⟩) rfl (fun K' hK' => ?_) AllReadyH.nil
      refine (if_pos (by rfl)).mpr ?_
      go_simp
      refine (HW0 w10 D10 hB10 (fun w' hk => by have := (O10.kt hk).slb.sub 0 64 (by omega); exact ⟨this.row, by have := HP0.out; omega, by unfold maxLen; omega, fun e => by cases e⟩)).mono ?_
      rintro e w11 ⟨rfl, ⟨wv11, D11⟩, hk11⟩
      have S11 := S10.kt hk11
      have O11 := O10.kt hk11
      have k11 := k10.trans hk11
      refine hK'.out _ _ S11 (fun _ => ?_)
      clear hK' D10 S10 O10 k10 hB10 hk11
      (try simp only [Act.put])
      (try simp only [List.setIfInBounds_toArray])
      (try simp only [List.set_cons_succ])
      (try simp only [List.set_cons_zero])
      refine wpAnyH_take (i := 16) (oi := ⟨_, _, _, _, _, _⟩) (v := ?_) rfl (by kernel_rfl) (by kernel_rfl) (by kernel_rfl) (fun _ _ _ h => h) (Or.inl ⟨by rfl, ?_⟩) (by assumption) ?_
      rotate_left
      · intro wS hSw
        go_simp; (try with_reducible rfl)
      (try simp only [Act.put])
      (try simp only [List.setIfInBounds_toArray])
      (try simp only [List.set_cons_succ])
      (try simp only [List.set_cons_zero])
      refine wpAnyH_done (by kernel_rfl) ?_ _
      refine HK3.out _ _ ?_
      clear HK3
      by_cases h0 : e1 = 0
      case neg =>
        have hn : (e1 != 0) = true := by rw [bne_iff_ne]; exact h0
        have hr2 := (show r = (d1, e1) by rw [HR.out, if_pos h0])
        go_wp2
        (try simp only [Exit.inBlock, Exit.then])
        refine HK.out _ _ ?_
        clear HK
        go_wp2
        (try simp only [Exit.noGoto])
        go_ret
        exact Does2.of hr2 ⟨_, D11⟩ k11
      case pos =>
        subst h0
        go_wp2
        (try simp only [Exit.inBlock, Exit.then])
        refine HK2.out _ _ ?_
        clear HK2
        go_wp2
        go_roundw
        case rel => exact ⟨0 + 1, by omega, by rfl, rfl, .inr (.inl ⟨by trivial, by trivial, _, D11⟩), S11, O11, k11⟩
        case measure => simp [intOf]
    · skip
      have hB7 := Nat.le_trans hb k7.bl.size
      refine wp_seq_k (fun K hK => ?_)
      have HK := Lib.hid hK
      clear hK
      go_wp2
      refine HK.out _ _ ?_
      clear HK
      refine wp_seq_k (fun K hK => ?_)
      have HK := Lib.hid hK
      clear hK
      go_wp2
      refine HK.out _ _ ?_
      clear HK
      refine wp_seq_k (fun K hK => ?_)
      have HK2 := Lib.hid hK
      clear hK
      refine wp_block ?_
      refine wp_seq_k (fun K hK => ?_)
      have HK := Lib.hid hK
      clear hK
      go_wp2
      refine HK.out _ _ ?_
      clear HK
      refine wp_seq_k (fun K hK => ?_)
      have HK3 := Lib.hid hK
      clear hK
      go_wp2_with fail
      have hbd := (Below.refl wr.heap.size wr).drew
      have D8 := D7.below hbd
      have S8 := S7.below hbd
      have O8 := O7.below hbd
      have k8 := k7.trans (Kt.of hbd hB7)
      have hB8 := Nat.le_trans hB7 hbd.size
      refine wp_region_held_drew (S := fun w' => ShB w' q g s) (by kernel_rfl) S8 (fun hS0 => ?_)
      clear hbd D7 S7 O7 k7 hB7
      generalize wr.drew = x1 at *
      refine wpAnyH_take (i := 0) (oi := ⟨_, _, _, _, _, _⟩) (v := ?_) rfl (by kernel_rfl) (by kernel_rfl) (by kernel_rfl) (fun _ _ _ h => h) (Or.inl ⟨by rfl, ?_⟩) (by assumption) ?_
      rotate_left
      · intro wS hSw
        go_simp; (try with_reducible rfl)
      (try simp only [Act.put])
      (try simp only [List.setIfInBounds_toArray])
      (try simp only [List.set_cons_succ])
      (try simp only [List.set_cons_zero])
      refine wpAnyH_take (i := 1) (oi := ⟨_, _, _, _, _, _⟩) (v := ?_) rfl (by kernel_rfl) (by kernel_rfl) (by kernel_rfl) (fun _ _ _ h => h) (Or.inl ⟨by rfl, ?_⟩) (by assumption) ?_
      rotate_left
      · intro wS hSw
        go_simp; (try with_reducible rfl)
      (try simp only [Act.put])
      (try simp only [List.setIfInBounds_toArray])
      (try simp only [List.set_cons_succ])
      (try simp only [List.set_cons_zero])
      refine wpAnyH_take (i := 2) (oi := ⟨_, _, _, _, _, _⟩) (v := ?_) rfl (by kernel_rfl) (by kernel_rfl) (by kernel_rfl) (fun _ _ _ h => h) (Or.inl ⟨by rfl, ?_⟩) (by assumption) ?_
      rotate_left
      · intro wS hSw
        go_simp; (try with_reducible rfl)
      (try simp only [Act.put])
      (try simp only [List.setIfInBounds_toArray])
      (try simp only [List.set_cons_succ])
      (try simp only [List.set_cons_zero])
      refine wpAnyH_take (i := 3) (oi := ⟨_, _, _, _, _, _⟩) (v := ?_) rfl (by kernel_rfl) (by kernel_rfl) (by kernel_rfl) (fun _ _ _ h => h) (Or.inl ⟨by rfl, ?_⟩) (by assumption) ?_
      rotate_left
      · intro wS hSw
        have c := hSw.c3; go_simp; (try with_reducible rfl)
      (try simp only [Act.put])
      (try simp only [List.setIfInBounds_toArray])
      (try simp only [List.set_cons_succ])
      (try simp only [List.set_cons_zero])
      refine wpAnyH_take (i := 4) (oi := ⟨_, _, _, _, _, _⟩) (v := ?_) rfl (by kernel_rfl) (by kernel_rfl) (by kernel_rfl) (fun _ _ _ h => h) (Or.inl ⟨by rfl, ?_⟩) (by assumption) ?_
      rotate_left
      · intro wS hSw
        go_simp; (try with_reducible rfl)
      (try simp only [Act.put])
      (try simp only [List.setIfInBounds_toArray])
      (try simp only [List.set_cons_succ])
      (try simp only [List.set_cons_zero])
      refine wpAnyH_take (i := 6) (oi := ⟨_, _, _, _, _, _⟩) (v := ?_) rfl (by kernel_rfl) (by kernel_rfl) (by kernel_rfl) (fun _ _ _ h => h) (Or.inl ⟨by rfl, ?_⟩) (by assumption) ?_
      rotate_left
      · intro wS hSw
        go_simp; (try with_reducible rfl)
      (try simp only [Act.put])
      (try simp only [List.setIfInBounds_toArray])
      (try simp only [List.set_cons_succ])
      (try simp only [List.set_cons_zero])
      refine wpAnyH_take (i := 8) (oi := ⟨_, _, _, _, _, _⟩) (v := ?_) rfl (by kernel_rfl) (by kernel_rfl) (by kernel_rfl) (fun _ _ _ h => h) (Or.inl ⟨by rfl, ?_⟩) (by assumption) ?_
      rotate_left
      · intro wS hSw
        go_simp; (try with_reducible rfl)
      (try simp only [Act.put])
      (try simp only [List.setIfInBounds_toArray])
      (try simp only [List.set_cons_succ])
      (try simp only [List.set_cons_zero])
      refine wpAnyH_take (i := 9) (oi := ⟨_, _, _, _, _, _⟩) (v := ?_) rfl (by kernel_rfl) (by kernel_rfl) (by kernel_rfl) (fun _ _ _ h => h) (Or.inl ⟨by rfl, ?_⟩) (by assumption) ?_
      rotate_left
      · intro wS hSw
        go_simp; (try with_reducible rfl)
      (try simp only [Act.put])
      (try simp only [List.setIfInBounds_toArray])
      (try simp only [List.set_cons_succ])
      (try simp only [List.set_cons_zero])
      refine wpAnyH_take (i := 10) (oi := ⟨_, _, _, _, _, _⟩) (v := .int .i64 64) rfl (by kernel_rfl) (by kernel_rfl) (by kernel_rfl) (fun _ _ _ h => h) (Or.inl ⟨by rfl, fun wS hSw => ?_⟩) (by assumption) ?_
      · go_simp; (try rfl)
      (try simp only [Act.put])
      (try simp only [List.setIfInBounds_toArray])
      (try simp only [List.set_cons_succ])
      (try simp only [List.set_cons_zero])
      refine wpAnyH_take (i := 11) (oi := ⟨_, _, _, _, _, _⟩) (v := ?_) rfl (by kernel_rfl) (by kernel_rfl) (by kernel_rfl) (fun _ _ _ h => h) (Or.inl ⟨by rfl, ?_⟩) (by assumption) ?_
      rotate_left
      · intro wS hSw
        go_simp; (try with_reducible rfl)
      (try simp only [Act.put])
      (try simp only [List.setIfInBounds_toArray])
      (try simp only [List.set_cons_succ])
      (try simp only [List.set_cons_zero])
      refine wpAnyH_take (i := 12) (oi := ⟨_, _, _, _, _, _⟩) (v := .int .i64 (1 + 1)) rfl (by kernel_rfl) (by kernel_rfl) (by kernel_rfl) (fun _ _ _ h => h) (Or.inl ⟨by rfl, fun wS hSw => ?_⟩) (by assumption) ?_
      · go_simp; (try rfl)
      (try simp only [Act.put])
      (try simp only [List.setIfInBounds_toArray])
      (try simp only [List.set_cons_succ])
      (try simp only [List.set_cons_zero])
      refine wpAnyH_take (i := 13) (oi := ⟨_, _, _, _, _, _⟩) (v := .int .i64 (64 + 64)) rfl (by kernel_rfl) (by kernel_rfl) (by kernel_rfl) (fun _ _ _ h => h) (Or.inl ⟨by rfl, fun wS hSw => ?_⟩) (by assumption) ?_
      · go_simp; (try rfl)
      (try simp only [Act.put])
      (try simp only [List.setIfInBounds_toArray])
      (try simp only [List.set_cons_succ])
      (try simp only [List.set_cons_zero])
      refine wpAnyH_take (i := 14) (oi := ⟨_, _, _, _, _, _⟩) (v := .slice (some ⟨G, 64, none⟩) 64 64) rfl (by kernel_rfl) (by kernel_rfl) (by kernel_rfl) (fun _ _ _ h => h) (Or.inl ⟨by rfl, fun wS hSw => ?_⟩) (by assumption) ?_
      · go_simp; (try rfl)
      (try simp only [Act.put])
      (try simp only [List.setIfInBounds_toArray])
      (try simp only [List.set_cons_succ])
      (try simp only [List.set_cons_zero])
      refine wpAnyH_ready (rs := [5]) (by kernel_rfl) (by simp) ?_
      refine AllReadyH.cons (o := ⟨_, _, _, _, _, _⟩) rfl (fun K' hK' => ?_) AllReadyH.nil
      refine (if_pos (by rfl)).mpr ?_
      go_simp
      refine (first_any 5 p _).mono ?_
      rintro e w10 ⟨rfl, hb10⟩
      rw [HF.out]
      have D10 := D8.below hb10
      have S10 := S8.below hb10
      have O10 := O8.below hb10
      have k10 := k8.trans (Kt.of hb10 hB8)
      have hB10 := Nat.le_trans hB8 hb10.size
      refine hK'.out _ _ S10 (fun _ => ?_)
      clear hK' D8 S8 O8 k8 hB8 hb10
      (try simp only [Act.put])
      (try simp only [List.setIfInBounds_toArray])
      (try simp only [List.set_cons_succ])
      (try simp only [List.set_cons_zero])
      refine wpAnyH_take (i := 7) (oi := ⟨_, _, _, _, _, _⟩) (v := .int .i64 (f + 1)) rfl (by kernel_rfl) (by kernel_rfl) (by kernel_rfl) (fun _ _ _ h => h) (Or.inl ⟨by rfl, fun wS hSw => ?_⟩) (by assumption) ?_
      · go_simp; (try rw [IntWalk.i64_in _ (by omega)])
      (try simp only [Act.put])
      (try simp only [List.setIfInBounds_toArray])
      (try simp only [List.set_cons_succ])
      (try simp only [List.set_cons_zero])
      refine wpAnyH_ready (rs := [15]) (by kernel_rfl) (by simp) ?_
      refine AllReadyH.cons (o := ⟨_, _, _, _, _, _⟩) rfl (fun K' hK' => ?_) AllReadyH.nil
      refine (if_pos (by rfl)).mpr ?_
      go_simp
      refine (HW1 w10 _ D10 hB10 (fun w' hk => by have := (O10.kt hk).slb.sub 64 64 (by have := HFL.out; omega); exact ⟨this.row, by have := HP1.out; omega, by unfold maxLen; omega, fun e => by cases e⟩)).mono ?_
      rintro e w11 ⟨rfl, ⟨wv11, D11⟩, hk11⟩
      have S11 := S10.kt hk11
      have O11 := O10.kt hk11
      have k11 := k10.trans hk11
      refine hK'.out _ _ S11 (fun _ => ?_)
      clear hK' D10 S10 O10 k10 hB10 hk11
      (try simp only [Act.put])
      (try simp only [List.setIfInBounds_toArray])
      (try simp only [List.set_cons_succ])
      (try simp only [List.set_cons_zero])
      refine wpAnyH_take (i := 16) (oi := ⟨_, _, _, _, _, _⟩) (v := ?_) rfl (by kernel_rfl) (by kernel_rfl) (by kernel_rfl) (fun _ _ _ h => h) (Or.inl ⟨by rfl, ?_⟩) (by assumption) ?_
      rotate_left
      · intro wS hSw
        go_simp; (try with_reducible rfl)
      (try simp only [Act.put])
      (try simp only [List.setIfInBounds_toArray])
      (try simp only [List.set_cons_succ])
      (try simp only [List.set_cons_zero])
      refine wpAnyH_done (by kernel_rfl) ?_ _
      refine HK3.out _ _ ?_
      clear HK3
      by_cases h0 : e2 = 0
      case neg =>
        have hn : (e2 != 0) = true := by rw [bne_iff_ne]; exact h0
        have hr2 := (show r = (d2, e2) by rw [HR.out, if_neg (by simp)])
        go_wp2
        (try simp only [Exit.inBlock, Exit.then])
        refine HK.out _ _ ?_
        clear HK
        go_wp2
        (try simp only [Exit.noGoto])
        go_ret
        exact Does2.of hr2 ⟨_, D11⟩ k11
      case pos =>
        subst h0
        go_wp2
        (try simp only [Exit.inBlock, Exit.then])
        refine HK2.out _ _ ?_
        clear HK2
        go_wp2
        go_roundw
        case rel => exact ⟨1 + 1, by omega, by rfl, rfl, .inr (.inr ⟨by trivial, by trivial, by trivial, _, D11⟩), S11, O11, k11⟩
        case measure => simp [intOf]
    · have hr2 : r = (d2, 0) := by rw [HR.out, if_neg (by simp)]
      clear HR HW0 HW1
      subst hr2
      go_wp2
      refine HK.out _ _ ?_
      clear HK
      go_wp2
      (try simp only [Exit.noGoto])
      go_ret
      exact ⟨rfl, ⟨_, D7⟩, k7⟩
end
end Go.Proofs.YthfolocjkpiljaaGreatDoor

