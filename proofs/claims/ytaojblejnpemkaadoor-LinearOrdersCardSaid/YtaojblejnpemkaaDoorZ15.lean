/- Texts that the claim leans on, part 15: M23. -/
import Derived.Test.YtaojblejnpemkaaDoorZ1
import Derived.Test.YtaojblejnpemkaaDoorZ2
import Derived.Test.YtaojblejnpemkaaDoorZ3
import Derived.Test.YtaojblejnpemkaaDoorZ4
import Derived.Test.YtaojblejnpemkaaDoorZ5
import Derived.Test.YtaojblejnpemkaaDoorZ6
import Derived.Test.YtaojblejnpemkaaDoorZ7
import Derived.Test.YtaojblejnpemkaaDoorZ8
import Derived.Test.YtaojblejnpemkaaDoorZ9
import Derived.Test.YtaojblejnpemkaaDoorZ13
import Derived.Test.YtaojblejnpemkaaDoorZ14
import Derived.Test.YtaojblejnpemkaaDoorRows
import Derived.WalkKit
import Derived.WalkSpells
import Derived.WalkLawsBesides
import Derived.Handy
import Derived.Deep.QuietTactic
import Derived.BigQuiet
import Derived.Deep.DeepCutAuto
import Derived.Lib.Hide
import Derived.RegionTactic
import Derived.ChangeAlike
import Derived.Laws.ResultCell
import Derived.Outline
import Derived.IntWalk
import Derived.Deep.RegionHeld3
import Derived.StillTailTactics
import Derived.Deep.RegionWith
import Derived.Laws.BitsAllLaws
import Derived.Laws.Shifts
import Derived.Lib.Overlaps
import Derived.ProofKit
import Derived.OpenShut
import Derived.Laws.Strings
import Derived.Laws.CopyOwn
import Derived.Laws.CopyRow
import Derived.Laws.NewBlocks
import Derived.Deep.RegionLaw
import Derived.Laws.MakeOwn
import Derived.Laws.OwnMore
import Derived.LoopN
import Derived.Deep.Slices
import Derived.Deep.Strs
import Derived.Lib.SmallJoins
import Derived.Shelf.Strconv.Quote
import Derived.Shelf.Strings.BuilderK
import Derived.Shelf.Strings.BuilderF
import Derived.Lib.LaidPrint
import Derived.Lib.QuoteLoop
import Derived.Lib.MapLaws
import Derived.Laws.BytesArg
import Derived.Maps.OwnSet
import Derived.Maps.Keyed
import Derived.WideKeyEntry
import Derived.DeepKeys4
import Derived.Laws.Rows
import Derived.Deep.Quiet
import Derived.Laws.EntriesVeiled
import Derived.Lib.LaidU8
import Derived.PinnedBridge
import Derived.Test.YtaojblejnpemkaaDoorTie
import Derived.Test.YtaojblejnpemkaaDoorCards
import Derived.ChangeMaps5
import Derived.Lay
import Derived.SevenTiedAt
namespace Go.Proofs.YtaojblejnpemkaaDoor
open Go.RowKit Go.Maps
theorem fac_six : ∀ n, n < 7 → fac n ≤ 4611686018427387904 := by decide +kernel
theorem find_yes {l : List Cl} {q : List Int} (h : FindQ l q true) : holdsR l q = true := by
  rw [← holds_eq]
  rcases h.1 with ⟨_, h⟩ | ⟨_, _, h⟩ | ⟨_, h, _⟩
  · cases h
  · exact h
  · cases h
section
variable {T : Lib.PrintTabs}
set_option maxRecDepth 100000 in
set_option maxHeartbeats 4000000 in
theorem orders_law (a : Option Addr) (cap : Nat) (l : List Cl) (w : World) (hs : SlC w a cap l) (hT : Tabs T w) :
    Calls Tryd.prog 3 #[.slice a l.length cap] w fun e w' => e = .returned (.bool true) ∧ Below w.heap.size w w' := by
  have hle := hs.le
  have hmx := hs.max
  unfold maxLen at hmx
  have hlong := long60_any a cap l w hs
  go_enter Tryd.func3, Tryd.ntmps3
  refine wp_seq_k (fun K hK => ?_)
  have HK := Lib.hid hK
  clear hK
  go_wp2
  refine HK.out _ _ ?_
  clear HK
  refine wp_seq_k (fun K hK => ?_)
  go_cut [] (fun wx => (l.length ≤ 60 ∧ (l.length ≤ 6 ∨ 40 < l.length)) ∧ Below w.heap.size w wx)
  case first =>
    go_wp2_with (go_at_call 8; refine hlong.mono ?_; rintro e w1 ⟨⟨b, rfl, hb⟩, hb1⟩; have HB := Lib.hid hb; clear hb hlong; cases b)
    all_goals
      first
      | (go_ret
         exact ⟨rfl, hb1⟩)
      | (go_meet
         exact ⟨⟨HB.out trivial, by omega⟩, hb1⟩)
  obtain ⟨⟨h60, hcond⟩, hb1⟩ := hcut
  refine hK _ _ ?_
  clear hK hlong
  have hfac : chk l = 0 → fac l.length ≤ 4611686018427387904 := fun h => fac_six _ (by have := chk_len h; omega)
  have HF := Lib.hid hfac
  have hs1 := hs.below hb1
  have hT1 := hT.below hb1
  clear hfac hcond
  refine wp_seq_k (fun K hK => ?_)
  have HK := Lib.hid hK
  clear hK
  go_wp2_with (go_at_call 9; refine (rcopyC_any a cap l wc h60 hs1).mono ?_; rintro e w2 ⟨⟨v, rfl, hO⟩, hb2⟩)
  refine HK.out _ _ ?_
  clear HK
  obtain ⟨ma, mcap, rfl, hm2⟩ := SlC.of_owns hO
  have hs2 := hs1.below hb2
  have hT2 := hT1.below hb2
  have hb02 := hb1.trans (hb2.mono hb1.size)
  clear hO hs1 hT1 hb1 hb2
  have hro := rorder_any a cap l w2 hs2
  obtain ⟨c, hc⟩ : ∃ c, chk l = c := ⟨_, rfl⟩
  rw [hc] at hro
  have HCC := Lib.hid hc
  clear hc
  refine wp_seq_k (fun K hK => ?_)
  have HK := Lib.hid hK
  clear hK
  go_wp2_with (go_at_call 10; refine hro.mono ?_; rintro e w3 ⟨⟨b, rfl, hOR⟩, hb3⟩)
  refine HK.out _ _ ?_
  clear HK
  have HOR := Lib.hid hOR
  have hs3 := hs2.below hb3
  have hm3 := hm2.below hb3
  have hT3 := hT2.below hb3
  have hb03 := hb02.trans (hb3.mono hb02.size)
  clear hOR hro hs2 hm2 hT2 hb02 hb3
  have hlo := order_any2 hT3 hm3 (grow_fac l) HF.out
  rw [HCC.out] at hlo
  refine wp_seq_k (fun K hK => ?_)
  have HK := Lib.hid hK
  clear hK
  go_wp2_with (go_at_call 11; refine hlo.mono ?_; rintro e w4 ⟨⟨q1, b1, rfl, hf1⟩, hb4⟩)
  refine HK.out _ _ ?_
  clear HK
  obtain rfl := ord_agree hf1 HOR.out
  have hs4 := hs3.below hb4
  have hm4 := hm3.below hb4
  have hT4 := hT3.below hb4
  have hb04 := hb03.trans (hb4.mono hb03.size)
  clear hlo hf1 hs3 hm3 hT3 hb03 hb4
  have hfi := lfind_any2 hT4 hm4 (grow_fac l) HF.out
  rw [HCC.out] at hfi
  refine wp_seq_k (fun K hK => ?_)
  have HK := Lib.hid hK
  clear hK
  go_wp2_with (go_at_call 12; refine hfi.mono ?_; rintro e w5 ⟨⟨rv, q, b2, rfl, hRow, hf2⟩, hb5⟩)
  refine HK.out _ _ ?_
  clear HK
  obtain rfl := ord_agree hf2 HOR.out
  have HQ := Lib.hid hf2
  have hs5 := hs4.below hb5
  have hm5 := hm4.below hb5
  have hb05 := hb04.trans (hb5.mono hb04.size)
  obtain ⟨qa, qcap, rfl, hq5⟩ := SlI.of_owns hRow
  clear hfi hf2 hs4 hm4 hT4 hb04 hb5 hRow HOR HF HCC
  refine wp_seq_k (fun K hK => ?_)
  go_cut [] (fun wx => Below w5.heap.size w5 wx)
  case first =>
    go_wp2
    have hr := hs5.row
    have hrm := hm5.row
    go_loopw [11] (fun i wr => ∃ k : Nat, k ≤ l.length ∧ i = .int .i64 k ∧ Below w5.heap.size w5 wr) (fun i _ => l.length - (intOf i).toNat)
    case atStart => exact ⟨0, by omega, rfl, Below.refl _ _⟩
    case round =>
      obtain ⟨k, hk, rfl, hbr⟩ := hrel
      by_cases hlt : k < l.length
      case pos =>
        obtain ⟨bb, off, rfl, hblt, ht0⟩ := hr.calln hlt
        obtain ⟨bb2, off2, rfl, hblt2, ht2⟩ := hrm.calln hlt
        obtain ⟨c0, c1, c2, c3, c4, c5, c6, c7, c8, c9⟩ := ht0.below hbr hblt
        obtain ⟨d0, d1, d2, d3, d4, d5, d6, d7, d8, d9⟩ := ht2.below hbr hblt2
        clear ht0 ht2
        generalize clN l k = c at *
        obtain ⟨cli, ⟨kd, key, old, val⟩, ⟨er, fo, va⟩, st, en⟩ := c
        simp only at c0 c1 c2 c3 c4 c5 c6 c7 c8 c9 d0 d1 d2 d3 d4 d5 d6 d7 d8 d9
        go_wp2
        go_big_quiet (fail)
        go_wp2
        go_roundw
        case rel => exact ⟨k + 1, by omega, by go_num, bl_tr hbr (below_drewN _ _)⟩
        case measure => simp [intOf]; omega
      case neg =>
        go_wp2
        go_meet
        exact hbr
  have hs6 := hs5.below hcut
  have hq6 : SlI wc qa qcap q := hq5.below hcut
  have hb06 := hb05.trans (hcut.mono hb05.size)
  refine hK _ _ ?_
  clear hK hs5 hq5 hm5 hb05 hcut
  cases b2
  case true =>
    have hH := find_yes HQ.out
    have hrh := rholds_any a cap l qa qcap q wc hs6 hq6
    rw [hH] at hrh
    clear hH HQ
    go_wp2_with (go_at_call 13; refine hrh.mono ?_; rintro e w7 ⟨rfl, hb7⟩)
    go_ret
    exact ⟨rfl, hb06.trans (hb7.mono hb06.size)⟩
  case false =>
    obtain rfl := HQ.out.2 rfl
    clear HQ
    go_wp2
    go_ret
    exact ⟨rfl, hb06⟩
end
end Go.Proofs.YtaojblejnpemkaaDoor
