/- Texts that the claim leans on, part 12: A4. -/
import Derived.Test.YtmnjmjbmnhppfaaZ1
import Derived.Test.YtmnjmjbmnhppfaaZ2
import Derived.Test.YtmnjmjbmnhppfaaZ3
import Derived.Test.YtmnjmjbmnhppfaaZ4
import Derived.Test.YtmnjmjbmnhppfaaZ5
import Derived.Test.YtmnjmjbmnhppfaaZ6
import Derived.Test.YtmnjmjbmnhppfaaZ7
import Derived.Test.YtmnjmjbmnhppfaaZ8
import Derived.Test.YtmnjmjbmnhppfaaZ9
import Derived.Test.YtmnjmjbmnhppfaaZ10
import Derived.Test.YtmnjmjbmnhppfaaZ11
import Derived.Test.YtmnjmjbmnhppfaaRows
import Derived.WalkKit
import Derived.WalkSpells
import Derived.WalkLawsBesides
import Derived.Handy
import Derived.Deep.QuietTactic
import Derived.BigQuiet
import Derived.Deep.DeepCutAuto
import Derived.Lib.Hide
import Derived.RegionTactic
import Derived.ChangeAlike
import Derived.Laws.ResultCell
import Derived.Outline
import Derived.ProofKit
import Derived.Lib.SmallJoins
import Derived.Lib.AppendStr
import Derived.Laws.IdiomStrings
import Derived.Laws.BytesArg
import Derived.Recover
import Derived.Defers
import Derived.Deep.RegionHeld3
import Derived.Deep.Slices
import Derived.Deep.Strs
import Derived.OpenShut
import Derived.Deep.Quiet
import Derived.ChangeKeysEq
import Derived.ChangeSlices
import Derived.Laws.EntriesVeiled
import Derived.StillTailTactics
import Derived.Laws.Rows
import Derived.Lib.Overlaps
import Derived.Deep.RegionWith
import Derived.Laws.Strings
import Derived.Laws.CopyOwn
import Derived.Laws.CopyRow
import Derived.Laws.NewBlocks
import Derived.Deep.RegionLaw
namespace Go.Proofs.Ytmnjmjbmnhppfaa
open Go.RowKit

set_option maxRecDepth 100000 in
set_option maxHeartbeats 1000000 in
theorem back_law (m : Im) (a : Option Addr) (cap : Nat) (l : List UInt8) (ab : Option Addr) (cb : Nat) (w : World) (hs : SlP w a cap m.st) (hsb : SlB w ab cb l) :
    Calls Try.prog 13 #[.agg (imA m.idx (.slice a m.st.length cap) m.tb), .slice ab l.length cb] w fun en w' => en = .returned (.bool true) ∧ Below w.heap.size w w' := by
  have hb0 := blw w (Obj.cells (imA m.idx (.slice a m.st.length cap) m.tb) 49)
  have B3 := heap_alloc_new w (Obj.cells (imA m.idx (.slice a m.st.length cap) m.tb) 49)
  have hs0 := hs.below hb0
  have hsb0 := hsb.below hb0
  have hmx := hsb.max
  have hlc := hsb.le
  unfold maxLen at hmx
  go_enter Try.func13, Try.ntmps13
  refine wp_seq_k (fun K hK => ?_)
  have HK := Lib.hid hK
  clear hK
  go_wp2
  refine HK.out _ _ ?_
  clear HK
  change Code.wp _ _ _ _ (w.alloc (Obj.cells (imA m.idx (.slice a m.st.length cap) m.tb) 49))
  generalize w.alloc (Obj.cells (imA m.idx (.slice a m.st.length cap) m.tb) 49) = w0 at *
  refine wp_seq_k (fun K hK => ?_)
  have HK := Lib.hid hK
  clear hK
  go_wp2_with (go_at_call 51; refine (awake_any _).mono ?_; rintro en wa ⟨rfl, hba⟩)
  refine HK.out _ _ ?_
  clear HK
  have B3 := tr_bl hba B3
  have hs1 := hs0.below hba
  have hsb1 := hsb0.below hba
  have hb1 := step_b hb0 hba
  clear hs hs0 hb0 hba hsb hsb0
  cases hg : greatI m
  case true =>
    have HG := Lib.hid hg
    clear hg
    go_wp2_with (first
      | ((with_reducible refine wpList_ldB 49 _ ?_); refine ⟨rfl, _, ⟨_, _, _, _, _, Try.isAgg49, Try.sizeOf49, rfl, ‹_›, imA_all _ _ _⟩, ?_⟩)
      | (go_at_call 23; refine (greatI_any _ _ _ _ hs1 _ HG.out).mono ?_; rintro en w1 ⟨rfl, hb2⟩))
    go_ret
    exact ⟨rfl, step_b hb1 hb2⟩
  case false =>
    have HG := Lib.hid hg
    have hgs : greatB m.st = false := by
      unfold greatI at hg
      rw [Bool.or_eq_false_iff] at hg
      exact hg.2
    have hl40 := (great_no hgs).1
    clear hg hgs
    by_cases hlong : 1000 < l.length
    · go_wp2_with (first
        | ((with_reducible refine wpList_ldB 49 _ ?_); refine ⟨rfl, _, ⟨_, _, _, _, _, Try.isAgg49, Try.sizeOf49, rfl, ‹_›, imA_all _ _ _⟩, ?_⟩)
        | (go_at_call 23; refine (greatI_any _ _ _ _ hs1 _ HG.out).mono ?_; rintro en w1 ⟨rfl, hb2⟩))
      go_ret
      exact ⟨rfl, step_b hb1 hb2⟩
    refine wp_seq_k (fun K hK => ?_)
    have HK := Lib.hid hK
    clear hK
    go_wp2_with (first
          | ((with_reducible refine wpList_ldB 49 _ ?_); refine ⟨rfl, _, ⟨_, _, _, _, _, Try.isAgg49, Try.sizeOf49, rfl, ‹_›, imA_all _ _ _⟩, ?_⟩)
          | (go_at_call 23; refine (greatI_any _ _ _ _ hs1 _ HG.out).mono ?_; rintro en w1 ⟨rfl, hb2⟩))
    refine HK.out _ _ ?_
    clear HK
    have B3 := tr_bl hb2 B3
    have hs2 := hs1.below hb2
    have hsb2 := hsb1.below hb2
    have hb2 := step_b hb1 hb2
    clear hs1 hb1 hsb1 HG
    -- the first half: what is printed is parsed as it was
    cases hm : mayI m
    case' false =>
      have HM := Lib.hid hm
      clear hm
      refine wp_seq_k (fun K hK => ?_)
      have HK := Lib.hid hK
      clear hK
      go_wp2_with (first
              | ((with_reducible refine wpList_ldB 49 _ ?_); refine ⟨rfl, _, ⟨_, _, _, _, _, Try.isAgg49, Try.sizeOf49, rfl, ‹_›, imA_all _ _ _⟩, ?_⟩)
              | (go_at_call 24; refine (print_not m _ _ HM.out _ hs2 (by omega)).mono ?_; rintro en w4 ⟨rfl, hb4⟩))
      refine HK.out _ _ ?_
      clear HK
      have B3 := tr_bl hb4 B3
      have hs4 := hs2.below hb4
      have hsb4 := hsb2.below hb4
      have hb4 := step_b hb2 hb4
      clear hs2 hsb2 hb2
      refine wp_seq_k (fun K hK => ?_)
      have HK := Lib.hid hK
      clear hK
      go_wp2_with (first
              | ((with_reducible refine wpList_ldB 49 _ ?_); refine ⟨rfl, _, ⟨_, _, _, _, _, Try.isAgg49, Try.sizeOf49, rfl, ‹_›, imA_all _ _ _⟩, ?_⟩)
              | (go_at_call 49; refine (imay_any _ _ _ _ _ _ hs4.row (by omega) _ HM.out).mono ?_; rintro en w5 ⟨rfl, hb5⟩))
      refine HK.out _ _ ?_
      clear HK
      have hsb := hsb4.below hb5
      have hb := step_b hb4 hb5
      clear hb4 hs4 hsb4 hb5 B3
      refine wp_seq_k (fun K hK => ?_)
      have HK := Lib.hid hK
      clear hK
      go_wp2
      refine HK.out _ _ ?_
      clear HK
      generalize w5 = wk at *
    case' true =>
      have HM := Lib.hid hm
      obtain ⟨hL1, hL2⟩ := imB_len hm
      obtain ⟨lx, hlx⟩ : ∃ l, imB m = l := ⟨_, rfl⟩
      rw [hlx] at hL1 hL2
      have HL := Lib.hid hlx
      have HP := Lib.hid (show parseI lx = some m by rw [← hlx]; exact print_parse hm)
      clear hm hlx
      refine wp_seq_k (fun K hK => ?_)
      have HK := Lib.hid hK
      clear hK
      go_wp2_with (first
              | ((with_reducible refine wpList_ldB 49 _ ?_); refine ⟨rfl, _, ⟨_, _, _, _, _, Try.isAgg49, Try.sizeOf49, rfl, ‹_›, imA_all _ _ _⟩, ?_⟩)
              | (go_at_call 24; refine (print_may m _ _ lx HM.out HL.out _ hs2).mono ?_; rintro en w4 ⟨⟨ax, cx, rfl, sx⟩, hb4⟩))
      refine HK.out _ _ ?_
      clear HK
      have B3 := tr_bl hb4 B3
      have hs4 := hs2.below hb4
      have hsb4 := hsb2.below hb4
      have hb4 := step_b hb2 hb4
      clear hs2 hsb2 hb2
      refine wp_seq_k (fun K hK => ?_)
      have HK := Lib.hid hK
      clear hK
      go_wp2_with (first
              | ((with_reducible refine wpList_ldB 49 _ ?_); refine ⟨rfl, _, ⟨_, _, _, _, _, Try.isAgg49, Try.sizeOf49, rfl, ‹_›, imA_all _ _ _⟩, ?_⟩)
              | (go_at_call 49; refine (imay_any _ _ _ _ _ _ hs4.row (by omega) _ HM.out).mono ?_; rintro en w5 ⟨rfl, hb5⟩))
      refine HK.out _ _ ?_
      clear HK
      have B3 := tr_bl hb5 B3
      have hs5 := hs4.below hb5
      have hsb5 := hsb4.below hb5
      have sx := sx.below hb5
      have hb5 := step_b hb4 hb5
      clear hb4 hs4 hsb4
      refine wp_seq_k (fun K hK => ?_)
      have HK := Lib.hid hK
      clear hK
      go_wp2_with (first
              | ((with_reducible refine wpList_ldB 49 _ ?_); refine ⟨rfl, _, ⟨_, _, _, _, _, Try.isAgg49, Try.sizeOf49, rfl, ‹_›, imA_all _ _ _⟩, ?_⟩)
              | (go_at_call 26; refine (parse_yes _ _ _ lx m rfl HP.out (by omega) _ sx).mono ?_; rintro en w6 ⟨⟨ap, cp, rfl, op⟩, hb6⟩; have B3 := tr_bl hb6 B3; have hs6 := hs5.below hb6; have sp := SlP.of_own1 op)
              | ((first | (with_reducible refine wpList_stNew 49 _ _ ?_) | (with_reducible refine wp_stNew 49 _ _ ?_)); refine ⟨_, _, ⟨Try.sizeOf49, rfl, imA_new _ _ _ _ _⟩, rfl, ?_⟩; have B3 := tr_al (Obj.cells (imA m.idx (.slice ap m.st.length cp) m.tb) 49) B3; have B7 := heap_alloc_new w6 (Obj.cells (imA m.idx (.slice ap m.st.length cp) m.tb) 49); have hs7 := hs6.below (blw w6 (Obj.cells (imA m.idx (.slice ap m.st.length cp) m.tb) 49)); have sp := sp.below (blw w6 (Obj.cells (imA m.idx (.slice ap m.st.length cp) m.tb) 49)))
              | (go_at_call 29; refine (isame_any m m _ _ _ _ _ sp.row hs7.row (by omega) (by omega) true (sameI_refl m)).mono ?_; rintro en w8 ⟨rfl, hb8⟩))
      refine HK.out _ _ ?_
      clear HK
      have hsb := ((hsb5.below hb6).below (blw w6 (Obj.cells (imA m.idx (.slice ap m.st.length cp) m.tb) 49))).below hb8
      have hb := step_b (step_b (step_b hb5 hb6) (blw w6 (Obj.cells (imA m.idx (.slice ap m.st.length cp) m.tb) 49))) hb8
      clear hb5 hs5 hsb5 hb6 hb8 B3 B7 hs6 hs7 sp op
      generalize w8 = wk at *
    all_goals
      obtain ⟨pr, hpr⟩ : ∃ p, parseI l = p := ⟨_, rfl⟩
      cases pr with
      | none =>
        have HQ := Lib.hid hpr
        clear hpr
        refine wp_seq_k (fun K hK => ?_)
        have HK := Lib.hid hK
        clear hK
        go_wp2_with (first
                  | (go_at_call 26; refine (parse_no _ _ _ l rfl HQ.out (by omega) _ hsb).mono ?_; rintro en w6 ⟨rfl, hb6⟩)
                  | ((first | (with_reducible refine wpList_stNew 49 _ _ ?_) | (with_reducible refine wp_stNew 49 _ _ ?_)); refine ⟨_, _, ⟨Try.sizeOf49, rfl, imA_new 0 none 0 0 zeroT⟩, rfl, ?_⟩))
        refine HK.out _ _ ?_
        clear HK
        have hb := step_b (step_b hb hb6) (blw w6 (Obj.cells (imA 0 (.slice none 0 0) zeroT) 49))
        have B9 := heap_alloc_new w6 (Obj.cells (imA 0 (.slice none 0 0) zeroT) 49)
        generalize w6.alloc (Obj.cells (imA 0 (.slice none 0 0) zeroT) 49) = w7 at *
        go_wp2_with (first
          | ((with_reducible refine wpList_ldB 49 _ ?_); refine ⟨rfl, _, ⟨_, _, _, _, _, Try.isAgg49, Try.sizeOf49, rfl, ‹_›, imA_all _ _ _⟩, ?_⟩)
          | (go_at_call 29; refine (isame_any zeroI zeroI none none 0 0 _ (nilP _).row (nilP _).row (by decide) (by decide) true (sameI_refl _)).mono ?_; rintro en w8 ⟨rfl, hb8⟩))
        go_ret
        exact ⟨rfl, step_b hb hb8⟩
      | some q =>
        have hq := (parse_iff _ _).1 hpr
        have HQ := Lib.hid hpr
        have HMQ := Lib.hid hq.1
        have HLQ := Lib.hid hq.2
        clear hpr hq
        refine wp_seq_k (fun K hK => ?_)
        have HK := Lib.hid hK
        clear hK
        go_wp2_with (first
                  | (go_at_call 26; refine (parse_yes _ _ _ l q rfl HQ.out (by omega) _ hsb).mono ?_; rintro en w6 ⟨⟨aq, cq, rfl, oq⟩, hb6⟩)
                  | ((first | (with_reducible refine wpList_stNew 49 _ _ ?_) | (with_reducible refine wp_stNew 49 _ _ ?_)); refine ⟨_, _, ⟨Try.sizeOf49, rfl, imA_new _ _ _ _ _⟩, rfl, ?_⟩))
        refine HK.out _ _ ?_
        clear HK
        have hsb := (hsb.below hb6).below (blw w6 (Obj.cells (imA q.idx (.slice aq q.st.length cq) q.tb) 49))
        have hb := step_b (step_b hb hb6) (blw w6 (Obj.cells (imA q.idx (.slice aq q.st.length cq) q.tb) 49))
        have B9 := heap_alloc_new w6 (Obj.cells (imA q.idx (.slice aq q.st.length cq) q.tb) 49)
        have sq := (SlP.of_own1 oq).below (blw w6 (Obj.cells (imA q.idx (.slice aq q.st.length cq) q.tb) 49))
        generalize w6.alloc (Obj.cells (imA q.idx (.slice aq q.st.length cq) q.tb) 49) = w7 at *
        refine wp_seq_k (fun K hK => ?_)
        have HK := Lib.hid hK
        clear hK
        go_wp2
        refine HK.out _ _ ?_
        clear HK
        refine wp_seq_k (fun K hK => ?_)
        have HK := Lib.hid hK
        clear hK
        go_wp2_with (first
                  | ((with_reducible refine wpList_ldB 49 _ ?_); refine ⟨rfl, _, ⟨_, _, _, _, _, Try.isAgg49, Try.sizeOf49, rfl, ‹_›, imA_all _ _ _⟩, ?_⟩)
                  | (go_at_call 24; refine (print_may q _ _ l HMQ.out HLQ.out _ sq).mono ?_; rintro en w8 ⟨⟨ay, cy, rfl, sy⟩, hb8⟩))
        refine HK.out _ _ ?_
        clear HK
        have hc1 := conv_bytes ay cy l w8 sy.row
        have hc2 := conv_bytes ab cb l w8 (hsb.below hb8).row
        go_wp2
        go_ret
        exact ⟨ret_bool (by simp), step_b hb hb8⟩
end Go.Proofs.Ytmnjmjbmnhppfaa

