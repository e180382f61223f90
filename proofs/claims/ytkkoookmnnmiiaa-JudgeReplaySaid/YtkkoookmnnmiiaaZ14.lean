/- Texts that the claim leans on, part 14: J39. -/
import Derived.Test.YtkkoookmnnmiiaaZ1
import Derived.Test.YtkkoookmnnmiiaaZ2
import Derived.Test.YtkkoookmnnmiiaaZ3
import Derived.Test.YtkkoookmnnmiiaaZ4
import Derived.Test.YtkkoookmnnmiiaaZ5
import Derived.Test.YtkkoookmnnmiiaaZ6
import Derived.Test.YtkkoookmnnmiiaaZ7
import Derived.Test.YtkkoookmnnmiiaaZ8
import Derived.Test.YtkkoookmnnmiiaaZ9
import Derived.Test.YtkkoookmnnmiiaaZ10
import Derived.Test.YtkkoookmnnmiiaaZ11
import Derived.Test.YtkkoookmnnmiiaaZ12
import Derived.Test.YtkkoookmnnmiiaaZ13
import Derived.Test.YtkkoookmnnmiiaaRows
import Derived.WalkKit
import Derived.WalkSpells
import Derived.WalkLawsBesides
import Derived.Handy
import Derived.Deep.QuietTactic
import Derived.BigQuiet
import Derived.Deep.DeepCutAuto
import Derived.Lib.Hide
import Derived.RegionTactic
import Derived.ChangeAlike
import Derived.Laws.ResultCell
import Derived.Outline
import Derived.LoopN
import Derived.Deep.RegionHeld3
import Derived.ChangeKeysEq
import Derived.Laws.EntriesVeiled
import Derived.StillTailTactics
import Derived.Lib.Overlaps
import Derived.Deep.RegionWith
import Derived.Laws.Rows
import Derived.Deep.Quiet
import Derived.ProofKit
import Derived.OpenShut
import Derived.Laws.Strings
import Derived.Laws.CopyOwn
import Derived.Laws.CopyRow
import Derived.Laws.NewBlocks
import Derived.Deep.RegionLaw
import Derived.Shelf.Abstract
import Derived.Shelf.RegionOpen
import Derived.OwnWalkIn
import Derived.TacticsInMore
import Derived.LoopNIn
import Derived.LoopIn
import Derived.Maps.AppendAt
import Derived.Maps.OwnIn
import Derived.Maps.Keyed
import Derived.Maps.Views
import Derived.Shelf.SlIterI.Nil
import Derived.Shelf.SortM.Plain
import Derived.Shelf.SortM.SortNone
import Derived.RangeFuncNested
import Derived.RangeFuncBound
import Derived.RangeFuncCalls
import Derived.RangeFuncLeaves
import Derived.RangeFuncBox
import Derived.RangeFuncRecord
import Derived.Maps.OwnSet
import Derived.Lib.SlKeysI
import Derived.Deep.Slices
import Derived.Deep.Strs
import Derived.Lib.SmallJoins
namespace Go.Proofs.Ytkkoookmnnmiiaa
open Go.RowKit

theorem own_step {h : List En} (hm : ∀ i (hi : i < h.length), mayE h[i] = true) (h40 : h.length ≤ 40) {k : Nat} (hk : k < h.length) {m : Im} (ho : ownJ h k = some m) : m.idx = k ∧ mayI m = true ∧ ∃ o1 o2, applyP m ((k : Int) + 1) h[k] = (o1, o2, 0) ∧ ownJ h (k + 1) = some o1 := by
  obtain ⟨m', e1, e2, e3⟩ := own_some hm h40 k (by omega)
  rw [ho] at e1
  injection e1 with e1
  subst e1
  have h0 := apply_ok e2 (hm k hk) (by unfold big40; omega)
  rw [e3] at h0
  obtain ⟨⟨o1, o2, o3⟩, hap⟩ : ∃ o, applyP m ((k : Int) + 1) h[k] = o := ⟨_, rfl⟩
  rw [hap] at h0
  simp only at h0
  subst h0
  refine ⟨e3, e2, o1, o2, hap, ?_⟩
  unfold ownJ
  rw [ho]
  show (if _ then _ else _) = _
  rw [show h.getD k zeroE = h[k] by rw [List.getD_eq_getElem?_getD, List.getElem?_eq_getElem hk]; rfl, e3, hap]
  rfl
set_option maxRecDepth 100000 in
set_option maxHeartbeats 16000000 in
theorem replay_law (a b : Option Addr) (c d : Nat) (h : List En) (l : List Pc) (w : World) (hhr : Row w a (ensJ h)) (hpr : Row w b (pcsJ l)) (hl : h.length ≤ 9223372036854775807) (hp : l.length ≤ 9223372036854775807) (hok : ∀ y ∈ l, okPc y) :
    Calls Try.prog 7 #[.slice a h.length c, .slice b l.length d] w fun e w' => e = .returned (.bool true) ∧ Below w.heap.size w w' := by
  have HOK := Lib.hid hok
  have HPR := Lib.hid hpr
  clear hok hpr
  go_enter Try.func7, Try.ntmps7
  refine wp_seq_k (fun K hK => ?_)
  have HK := Lib.hid hK
  clear hK
  go_wp2
  refine HK.out _ _ ?_
  clear HK
  refine wp_seq_k (fun K hK => ?_)
  have HK := Lib.hid hK
  clear hK
  go_wp2_with (go_at_call 8; refine (awake_any _).mono ?_; rintro e w1 ⟨rfl, hb1⟩)
  refine HK.out _ _ ?_
  clear HK
  refine wp_seq_k (fun K hK => ?_)
  have HK := Lib.hid hK
  clear hK
  go_wp2_with fail
  go_at_call 9
  refine (oddJ_any (hhr.below0 hb1) hl hp).mono ?_
  rintro e w2 ⟨⟨r, rfl, hr⟩, hb2⟩
  have hw2 := hb1.trans (hb2.mono hb1.size)
  clear hb1 hb2
  cases r
  case true =>
    clear HK
    go_wp2
    go_ret
    exact ⟨rfl, hw2⟩
  case false =>
    obtain ⟨h40, h8, hmay⟩ := hr rfl
    have HM := Lib.hid hmay
    clear hr hmay
    go_wp2
    refine HK.out _ _ ?_
    clear HK
    refine wp_seq_k (fun K hK => ?_)
    have HK := Lib.hid hK
    clear hK
    go_wp2_with (go_at_call 10; refine (pieces_any (hhr.below0 hw2) (HPR.out.below0 hw2) h40 h8 HOK.out).mono ?_; rintro e w3 ⟨⟨v3, rfl, hPR⟩, hb3⟩; obtain ⟨la, lc, LS, rfl, hPP, hLS⟩ := hPR.parts)
    refine HK.out _ _ ?_
    clear HK
    have hw3 := hw2.trans (hb3.mono hw2.size)
    have hLl : LS.length ≤ 8 := by
      have := congrArg List.length hLS
      unfold lstA piecesJ at this
      rw [List.length_map, List.length_map] at this
      omega
    have HLS := Lib.hid hLS
    have HP := Lib.hid hPP
    have HEACH := Lib.hid (show ∀ x ∈ LS, x.2.2.length ≤ 41 ∧ ∃ p, x.2.2 = pieceJ h p from fun x hx => by
      have h1 : x.2.2 ∈ piecesJ h l := by
        rw [← hLS]
        exact List.mem_map.2 ⟨x, hx, rfl⟩
      obtain ⟨h2, h3⟩ := pieces_each h1
      exact ⟨by omega, h3⟩)
    have HOKI := Lib.hid (show ∀ x ∈ LS, ∀ y ∈ x.2.2, okI y from fun x hx y hy => by
      obtain ⟨_, p, hp⟩ := HEACH.out x hx
      rw [hp] at hy
      exact piece_ok h40 hy)
    have HL2 := Lib.hid (show ∀ x ∈ LS, x.2.2.length ≤ 1000000 from fun x hx => by have := (HEACH.out x hx).1; omega)
    clear hLS hPP hPR hb3 hw2 HPR h8
    refine wp_seq_k (fun K hK => ?_)
    have HK := Lib.hid hK
    clear hK
    go_wp2_with (first
          | (go_at_call 23; refine (replay_any HP.out lc (by omega) HL2.out HOKI.out).mono ?_; rintro e w4 ⟨⟨n, rm, ra, rc, rfl, hit, hstop, hsp⟩, hb4⟩)
          | ((first | (with_reducible refine wpList_stNew 57 _ _ ?_) | (with_reducible refine wp_stNew 57 _ _ ?_)); refine ⟨_, _, ⟨Try.sizeOf57, rfl, imA_new _ _ _ _ _⟩, rfl, ?_⟩))
    refine HK.out _ _ ?_
    clear HK
    rw [HLS.out] at hit hstop
    have HIT := Lib.hid hit
    have HST := Lib.hid hstop
    have HRL := Lib.hid (show rm.st.length ≤ 8 from by
      have := (itJ_may hit).1
      exact (may_spec (mayI_parts this).2.2.1).1)
    have hw4 := hw3.trans (hb4.mono hw3.size)
    clear hit hstop
    have B6 := heap_alloc_new w4 (Obj.cells (imA rm.idx (.slice ra rm.st.length rc) rm.tb) 57)
    have hb45 := blw w4 (Obj.cells (imA rm.idx (.slice ra rm.st.length rc) rm.tb) 57)
    have hw5 : Below w.heap.size w (w4.alloc (Obj.cells (imA rm.idx (.slice ra rm.st.length rc) rm.tb) 57)) := hw4.trans (hb45.mono hw4.size)
    have hb35 : Below w3.heap.size w3 (w4.alloc (Obj.cells (imA rm.idx (.slice ra rm.st.length rc) rm.tb) 57)) := hb4.trans (hb45.mono hb4.size)
    have hsp := hsp.below hb45
    obtain ⟨P6, hP6⟩ : ∃ g, w4.heap.size = g := ⟨_, rfl⟩
    simp only [hP6] at B6 ⊢
    generalize w4.alloc (Obj.cells (imA rm.idx (.slice ra rm.st.length rc) rm.tb) 57) = w5 at *
    clear hb45 hb4 hw4 hP6
    refine wp_seq_k (fun K hK => ?_)
    have HK := Lib.hid hK
    clear hK
    go_wp2_with (go_at_call 12; refine (chosenG (HP.out.below hb35) lc (by omega) HL2.out HOKI.out rfl).mono ?_; rintro e w6 ⟨⟨ca, cc, rfl, hCR⟩, hb6⟩)
    refine HK.out _ _ ?_
    clear HK
    rw [HLS.out] at hCR ⊢
    have hCB : (chosenJ (flatJ (piecesJ h l))).length ≤ 1000000000000 := by
      have := chosen_bound (ls := LS) (by omega) HL2.out
      rw [HLS.out] at this
      exact this
    obtain ⟨C, hC⟩ : ∃ C, chosenJ (flatJ (piecesJ h l)) = C := ⟨_, rfl⟩
    rw [hC] at hCR hCB ⊢
    have HC := Lib.hid hC
    have B6 := tr_bl hb6 B6
    have hsp := hsp.below hb6
    have hw6 := hw5.trans (hb6.mono hw5.size)
    clear hC hb35 hb6 hw5 hw3
    refine wp_seq_k (fun K hK => ?_)
    have HK := Lib.hid hK
    clear hK
    go_wp2
    refine HK.out _ _ ?_
    clear HK
    refine wp_seq_k (fun K hK => ?_)
    go_cut [8] (fun v wx => ∃ k : Nat, v = .int .i64 k ∧ FarJ C k ∧ Below w6.heap.size w6 wx)
    case first =>
      go_wp2
      go_loopw [8] (fun i wr => ∃ k : Nat, k ≤ C.length ∧ i = .int .i64 k ∧ Hid (∀ j (_ : j < k), ∃ hc : j < C.length, C[j].idx = ((j + 1 : Nat) : Int)) ∧ Below w6.heap.size w6 wr) (fun i _ => C.length - (Go.RowKit.intOf i).toNat)
      case atStart => exact ⟨0, by omega, rfl, Lib.hid (fun j hj => absurd hj (by omega)), Below.refl _ _⟩
      case round =>
        obtain ⟨k, hk, rfl, hT, hbr⟩ := hrel
        by_cases hlt : k < C.length
        · obtain ⟨b1, o1, rfl, hbl1, x0, _⟩ := ap_cells (hCR.below0 hbr) hlt
          obtain ⟨ix, hix⟩ : ∃ ix, (C[k]'hlt).idx = ix := ⟨_, rfl⟩
          rw [hix] at x0
          obtain ⟨r, hr⟩ : ∃ r, (ix == (k : Int) + 1) = r := ⟨_, rfl⟩
          have HIX := Lib.hid hix
          have HR := Lib.hid hr
          clear hix
          cases r
          case true =>
            have HT := Lib.hid (show ∀ j (_ : j < k + 1), ∃ hc : j < C.length, C[j].idx = ((j + 1 : Nat) : Int) from fun j hj => by
              by_cases hj2 : j < k
              · exact hT.out j hj2
              · have : j = k := by omega
                subst this
                refine ⟨hlt, ?_⟩
                rw [HIX.out, eq_of_beq HR.out]
                omega)
            clear hT
            go_wp2
            go_roundw
            case rel => exact ⟨k + 1, by omega, by go_num, HT, hbr⟩
            case measure => simp [Go.RowKit.intOf]; omega
          case false =>
            go_wp2
            go_meet
            refine ⟨k, rfl, ⟨hk, hT.out, fun hc => ?_⟩, hbr⟩
            rw [HIX.out]
            have := beq_eq_false_iff_ne.1 HR.out
            intro e
            exact this (by rw [e]; omega)
        · go_wp2
          go_meet
          exact ⟨k, rfl, ⟨hk, hT.out, fun hc => absurd hc hlt⟩, hbr⟩
    obtain ⟨tq, rfl, hF, hbc⟩ := hcut
    have htq := far_le HC.out hF
    have HFAR := Lib.hid hF
    have HRI := Lib.hid (replay_is HM.out h40 HC.out hF HIT.out HST.out)
    have B6 := tr_bl hbc B6
    have hsp := hsp.below hbc
    have hwc := hw6.trans (hbc.mono hw6.size)
    refine hK _ _ ?_
    clear hK hbc hw6 hF hCR HIT HST HP HEACH HOKI HL2 HLS HOK
    refine wp_seq_k (fun K hK => ?_)
    have HK := Lib.hid hK
    clear hK
    go_wp2
    refine HK.out _ _ ?_
    clear HK
    change Code.wp _ _ _ _ (wc.alloc (Obj.cells (imA 0 (.slice none 0 0) zeroT) 57))
    have hP69 : P6 < wc.heap.size := lt_blk B6
    have B9 := heap_alloc_new wc (Obj.cells (imA 0 (.slice none 0 0) zeroT) 57)
    have B6 := tr_al (Obj.cells (imA 0 (.slice none 0 0) zeroT) 57) B6
    have HSP := Lib.hid (show ∀ w', Below wc.heap.size (wc.alloc (Obj.cells (imA 0 (.slice none 0 0) zeroT) 57)) w' → SlP w' ra rc rm.st from fun w' hb => hsp.below ((blw wc (Obj.cells (imA 0 (.slice none 0 0) zeroT) 57)).trans hb))
    have hw7 : Below w.heap.size w (wc.alloc (Obj.cells (imA 0 (.slice none 0 0) zeroT) 57)) := hwc.trans ((blw wc (Obj.cells (imA 0 (.slice none 0 0) zeroT) 57)).mono hwc.size)
    obtain ⟨P9, hP9⟩ : ∃ g, wc.heap.size = g := ⟨_, rfl⟩
    have hw9s := hwc.size
    simp only [hP9] at B9 hP69 hw9s HSP ⊢
    generalize wc.alloc (Obj.cells (imA 0 (.slice none 0 0) zeroT) 57) = w7 at *
    have hs7 : P9 < w7.heap.size := lt_blk B9
    clear hP9 hwc hsp
    go_wp2
    go_loopw [10] (fun i wr => ∃ (k : Nat) (m : Im) (a' : Option Addr) (c' : Nat), k ≤ tq ∧ i = .int .i64 k ∧ Hid (ownJ h k = some m) ∧ wr.heap[P9]? = some (.cells (imA m.idx (.slice a' m.st.length c') m.tb) 57 (0, 0)) ∧ wr.ownsRow P9 81 2 (.slice a' m.st.length c') m.st.length (prs m.st) ∧ Below P9 w7 wr) (fun i _ => tq - (Go.RowKit.intOf i).toNat)
    case atStart => exact ⟨0, zeroI, none, 0, by omega, rfl, Lib.hid rfl, B9, World.ownsRow_nil _ _ _ _, Below.refl _ _⟩
    case round =>
      obtain ⟨k, mk, ak, ck, hk, rfl, hown, C9, hor, hbr⟩ := hrel
      by_cases hlt : k < tq
      case neg =>
        obtain rfl : k = tq := by omega
        obtain ⟨r1, r2⟩ := HRI.out
        have hme : rm = mk := by
          have h9 := hown.out
          rw [r2] at h9
          injection h9
        have hsm : sameI rm mk = true := sameI_iff.2 hme
        have HSM := Lib.hid hsm
        have hri : (rm.idx == (k : Int)) = true := beq_iff_eq.2 r1
        have B6w := (hbr.block P6 hP69).trans B6
        have c6 := imA_c0 B6w
        have hra := (HSP.out wr hbr).row
        obtain ⟨_, _, hv, hRk, _⟩ := Row.of_owns hor
        cases hv
        have hml : mk.st.length ≤ 1000 := by rw [← hme]; have := HRL.out; omega
        have hml2 : rm.st.length ≤ 1000 := by have := HRL.out; omega
        clear r1 r2 hme hsm HRI hown HFAR
        go_wp2_with (first
          | ((with_reducible refine wpList_ldB 57 _ ?_); refine ⟨rfl, _, ⟨_, _, _, _, _, Try.isAgg57, Try.sizeOf57, rfl, ‹_›, imA_all _ _ _⟩, ?_⟩)
          | (go_at_call 26; refine (isame_any rm mk _ _ _ _ _ hra hRk hml2 hml _ HSM.out).mono ?_; rintro en w9 ⟨rfl, hb9⟩))
        go_ret
        have hwr : Below w.heap.size w wr := hw7.trans (hbr.mono hw9s)
        exact ⟨rfl, hwr.trans (hb9.mono hwr.size)⟩
      case pos =>
        have hkl : k < h.length := by omega
        obtain ⟨hidx, hmay, o1, o2, hap, hnx⟩ := own_step HM.out h40 hkl hown.out
        have HNX := Lib.hid hnx
        have hml : mk.st.length ≤ 1000 := by have := (may_spec (mayI_parts hmay).2.2.1).1; omega
        have hwr : Below w.heap.size w wr := hw7.trans (hbr.mono hw9s)
        have hrw : Row wr a (ensJ h) := hhr.below0 hwr
        have hsk : SlP wr ak ck mk.st := SlP.of_own1 hor
        have hzr : P9 < wr.heap.size := lt_blk C9
        obtain ⟨le, lo, rfl, hlb, hl0, hcs⟩ := hrw.flat0 enC_len (by decide) (List.getElem?_eq_getElem hkl)
        obtain ⟨e, he⟩ : ∃ e, h[k]'hkl = e := ⟨_, rfl⟩
        rw [he] at hap hl0 hcs
        have HAP := Lib.hid hap
        have hA := fun w' hs => apply_any mk ak ck ((k : Int) + 1) e w' hs hml
        rw [hap] at hA
        clear hidx hmay hap hnx he
        go_wp2_with fail
        go_cut [11, 12, 13] from 47 to 58 (fun v9 v10 v11 wx => ∃ p q a2 c2, v9 = .pointer (some ⟨p, 0, none⟩) ∧ v10 = .pointer (some ⟨q, 0, none⟩) ∧ v11 = .int .i64 0 ∧ wx.heap[p]? = some (.cells (imA o1.idx (.slice a2 o1.st.length c2) o1.tb) 57 (0, 0)) ∧ wx.heap[q]? = some (.cells (rpA o2) 51 (0, 0)) ∧ wx.ownsRow wr.heap.size 81 2 (.slice a2 o1.st.length c2) o1.st.length (prs o1.st) ∧ wr.heap.size ≤ p ∧ wr.heap.size ≤ q ∧ Below wr.heap.size wr wx)
        case first =>
          obtain ⟨B, hB⟩ : ∃ B, wr.heap.size = B := ⟨_, rfl⟩
          have HB1 : ∀ w', Below B wr w' → w'.heap[P9]? = some (.cells (imA mk.idx (.slice ak mk.st.length ck) mk.tb) 57 (0, 0)) := fun w' h => tr_bl (by rw [hB]; exact h) C9
          have HB2 : ∀ w', Below B wr w' → SlP w' ak ck mk.st := fun w' h => hsk.below (by rw [hB]; exact h)
          have HB3 : ∀ w', Below B wr w' → ∀ j u, (enC e)[j]? = some u → w'.cell? ⟨le, lo + k * 7 + j, none⟩ = some u := fun w' h j u hu => (h.cell (by rw [← hB]; exact hlb)).trans (hcs j u hu)
          have hb := (Below.refl wr.heap.size wr).drew
          have hz : wr.heap.size ≤ wr.drew.heap.size := Nat.le_refl _
          rw [hB] at hb hz
          have HBB := Lib.hid hB
          clear hB C9 hsk hcs hl0 hbr hrw hor hown B6 B9 hw7 hwr
          refine wp_region_held_drew (S := fun w' => Below B wr w') (by kernel_rfl) hb (fun hS0 => ?_)
          generalize wr.drew = x0 at *
          refine wpAnyH_take (i := 0) (oi := ⟨_, _, _, _, _, _⟩) (v := .agg (imA mk.idx (.slice ak mk.st.length ck) mk.tb)) rfl (by kernel_rfl) (by kernel_rfl) (by kernel_rfl) (fun _ _ _ h => h) (Or.inl ⟨by rfl, fun wS hSw => ?_⟩) (by assumption) ?_
          · exact exec_ldB 57 _ ⟨_, _, _, _, _, Try.isAgg57, Try.sizeOf57, rfl, HB1 _ hSw, imA_all _ _ _⟩
          (try simp only [Act.put])
          (try simp only [List.setIfInBounds_toArray])
          (try simp only [List.set_cons_succ])
          (try simp only [List.set_cons_zero])
          refine wpAnyH_take (i := 1) (oi := ⟨_, _, _, _, _, _⟩) (v := ?_) rfl (by kernel_rfl) (by kernel_rfl) (by kernel_rfl) (fun _ _ _ h => h) (Or.inl ⟨by rfl, ?_⟩) (by assumption) ?_
          rotate_left
          · intro wS hSw
            go_simp; (try with_reducible rfl)
          (try simp only [Act.put])
          (try simp only [List.setIfInBounds_toArray])
          (try simp only [List.set_cons_succ])
          (try simp only [List.set_cons_zero])
          refine wpAnyH_take (i := 2) (oi := ⟨_, _, _, _, _, _⟩) (v := .int .i64 ((k : Int) + 1)) rfl (by kernel_rfl) (by kernel_rfl) (by kernel_rfl) (fun _ _ _ h => h) (Or.inl ⟨by rfl, fun wS hSw => ?_⟩) (by assumption) ?_
          · have e3 := IntWalk.i64_in ((k : Int) + 1) (by omega); go_simp; (first | done | rw [e3] | simp only [e3])
          (try simp only [Act.put])
          (try simp only [List.setIfInBounds_toArray])
          (try simp only [List.set_cons_succ])
          (try simp only [List.set_cons_zero])
          refine wpAnyH_take (i := 3) (oi := ⟨_, _, _, _, _, _⟩) (v := ?_) rfl (by kernel_rfl) (by kernel_rfl) (by kernel_rfl) (fun _ _ _ h => h) (Or.inl ⟨by rfl, ?_⟩) (by assumption) ?_
          rotate_left
          · intro wS hSw
            go_simp; (try with_reducible rfl)
          (try simp only [Act.put])
          (try simp only [List.setIfInBounds_toArray])
          (try simp only [List.set_cons_succ])
          (try simp only [List.set_cons_zero])
          refine wpAnyH_take (i := 4) (oi := ⟨_, _, _, _, _, _⟩) (v := ?_) rfl (by kernel_rfl) (by kernel_rfl) (by kernel_rfl) (fun _ _ _ h => h) (Or.inl ⟨by rfl, ?_⟩) (by assumption) ?_
          rotate_left
          · intro wS hSw
            go_simp; (try with_reducible rfl)
          (try simp only [Act.put])
          (try simp only [List.setIfInBounds_toArray])
          (try simp only [List.set_cons_succ])
          (try simp only [List.set_cons_zero])
          refine wpAnyH_take (i := 5) (oi := ⟨_, _, _, _, _, _⟩) (v := ?_) rfl (by kernel_rfl) (by kernel_rfl) (by kernel_rfl) (fun _ _ _ h => h) (Or.inl ⟨by rfl, ?_⟩) (by assumption) ?_
          rotate_left
          · intro wS hSw
            go_simp; (try with_reducible rfl)
          (try simp only [Act.put])
          (try simp only [List.setIfInBounds_toArray])
          (try simp only [List.set_cons_succ])
          (try simp only [List.set_cons_zero])
          refine wpAnyH_take (i := 6) (oi := ⟨_, _, _, _, _, _⟩) (v := .agg (enA e)) rfl (by kernel_rfl) (by kernel_rfl) (by kernel_rfl) (fun _ _ _ h => h) (Or.inl ⟨by rfl, fun wS hSw => ?_⟩) (by assumption) ?_
          · exact exec_ldC 34 _ ⟨_, _, _, Try.isAgg34, Try.sizeOf34, rfl, rfl, fun j u hu => HB3 _ hSw j u (by rw [enC, Array.getElem?_toList]; exact hu)⟩
          (try simp only [Act.put])
          (try simp only [List.setIfInBounds_toArray])
          (try simp only [List.set_cons_succ])
          (try simp only [List.set_cons_zero])
          refine wpAnyH_ready (rs := [7, 12, 13]) (by kernel_rfl) (by simp) ?_
          refine AllReadyH.cons (o := ⟨_, _, _, _, _, _⟩) rfl (fun K' hK' => ?_) (AllReadyH.cons (o := ⟨_, _, _, _, _, _⟩) rfl (fun K' hK' => ?_) (AllReadyH.cons (o := ⟨_, _, _, _, _, _⟩) rfl (fun K' hK' => ?_) (AllReadyH.nil)))
          · refine (if_pos (by rfl)).mpr ?_
            go_simp
            refine (hA x0 (HB2 _ hb)).mono ?_
            rintro en x1 ⟨⟨a2, c2, rfl, ho⟩, hbk⟩
            have ho := owns_mono ho hz
            have hb := hb.trans (hbk.mono hz)
            have hz := Nat.le_trans hz hbk.size
            clear hbk
            refine hK'.out _ _ hb (fun _ => ?_)
            refine wpAnyH_take (i := 8) (oi := ⟨_, _, _, _, _, _⟩) (v := ?_) rfl (by kernel_rfl) (by kernel_rfl) (by kernel_rfl) (fun _ _ _ h => h) (Or.inl ⟨by rfl, ?_⟩) (by assumption) ?_
            rotate_left
            · intro wS hSw
              go_simp; (try with_reducible rfl)
            (try simp only [Act.put])
            (try simp only [List.setIfInBounds_toArray])
            (try simp only [List.set_cons_succ])
            (try simp only [List.set_cons_zero])
            refine wpAnyH_take (i := 9) (oi := ⟨_, _, _, _, _, _⟩) (v := ?_) rfl (by kernel_rfl) (by kernel_rfl) (by kernel_rfl) (fun _ _ _ h => h) (Or.inl ⟨by rfl, ?_⟩) (by assumption) ?_
            rotate_left
            · intro wS hSw
              go_simp; (try with_reducible rfl)
            (try simp only [Act.put])
            (try simp only [List.setIfInBounds_toArray])
            (try simp only [List.set_cons_succ])
            (try simp only [List.set_cons_zero])
            refine wpAnyH_take (i := 10) (oi := ⟨_, _, _, _, _, _⟩) (v := ?_) rfl (by kernel_rfl) (by kernel_rfl) (by kernel_rfl) (fun _ _ _ h => h) (Or.inl ⟨by rfl, ?_⟩) (by assumption) ?_
            rotate_left
            · intro wS hSw
              go_simp; (try with_reducible rfl)
            (try simp only [Act.put])
            (try simp only [List.setIfInBounds_toArray])
            (try simp only [List.set_cons_succ])
            (try simp only [List.set_cons_zero])
            refine wpAnyH_take (i := 11) (oi := ⟨_, _, _, _, _, _⟩) (v := ?_) rfl (by kernel_rfl) (by kernel_rfl) (by kernel_rfl) (fun _ _ _ h => h) (Or.inl ⟨by rfl, ?_⟩) (by assumption) ?_
            rotate_left
            · intro wS hSw
              go_simp; (try with_reducible rfl)
            (try simp only [Act.put])
            (try simp only [List.setIfInBounds_toArray])
            (try simp only [List.set_cons_succ])
            (try simp only [List.set_cons_zero])
            refine wpAnyH_ready (rs := [12, 13]) (by kernel_rfl) (by simp) ?_
            refine AllReadyH.cons (o := ⟨_, _, _, _, _, _⟩) rfl (fun K' hK' => ?_) (AllReadyH.cons (o := ⟨_, _, _, _, _, _⟩) rfl (fun K' hK' => ?_) (AllReadyH.nil))
            · refine (if_pos (by rfl)).mpr ?_
              go_simp
              change K' _ (World.alloc _ (Obj.cells (imA 0 (.slice none 0 0) zeroT) 57))
              have D := heap_alloc_new x1 (Obj.cells (imA 0 (.slice none 0 0) zeroT) 57)
              have ho := owns_bl ho (blw _ (Obj.cells (imA 0 (.slice none 0 0) zeroT) 57))
              have hb := hb.trans ((blw _ (Obj.cells (imA 0 (.slice none 0 0) zeroT) 57)).mono hz)
              have hp : B ≤ x1.heap.size := hz
              have hz := Nat.le_trans hz (blw x1 (Obj.cells (imA 0 (.slice none 0 0) zeroT) 57)).size
              refine hK'.out _ _ hb (fun _ => ?_)
              generalize x1.alloc (Obj.cells (imA 0 (.slice none 0 0) zeroT) 57) = x2 at *
              obtain ⟨p, hpn⟩ : ∃ g, x1.heap.size = g := ⟨_, rfl⟩
              simp only [hpn] at D hp ⊢
              clear hpn
              refine wpAnyH_ready (rs := [13]) (by kernel_rfl) (by simp) ?_
              refine AllReadyH.cons (o := ⟨_, _, _, _, _, _⟩) rfl (fun K' hK' => ?_) (AllReadyH.nil)
              · refine (if_pos (by rfl)).mpr ?_
                go_simp
                change K' _ (World.alloc _ (Obj.cells (rpA zeroR) 51))
                have E := heap_alloc_new x2 (Obj.cells (rpA zeroR) 51)
                have hpq := lt_blk D
                have D := tr_al (Obj.cells (rpA zeroR) 51) D
                have ho := owns_bl ho (blw _ (Obj.cells (rpA zeroR) 51))
                have hb := hb.trans ((blw _ (Obj.cells (rpA zeroR) 51)).mono hz)
                have hq : B ≤ x2.heap.size := hz
                have hz := Nat.le_trans hz (blw x2 (Obj.cells (rpA zeroR) 51)).size
                refine hK'.out _ _ hb (fun _ => ?_)
                generalize x2.alloc (Obj.cells (rpA zeroR) 51) = x3 at *
                obtain ⟨q, hqn⟩ : ∃ g, x2.heap.size = g := ⟨_, rfl⟩
                simp only [hqn] at E hq hpq ⊢
                clear hqn
                refine wpAnyH_ready (rs := [14]) (by kernel_rfl) (by simp) ?_
                refine AllReadyH.cons (o := ⟨_, _, _, _, _, _⟩) rfl (fun K' hK' => ?_) (AllReadyH.nil)
                refine (if_pos (by rfl)).mpr ?_
                refine wp_stB 57 _ _ ?_
                have D0 := D
                refine ⟨_, _, _, ⟨_, _, _, Try.sizeOf57, rfl, D, imA_over _ _ _ _ _ 0 (.slice none 0 0) zeroT⟩, ?_⟩
                intro y1 D1 g1
                have E1 := tr_st g1 E (by omega)
                have ho1 := owns_ne ho g1 D0 (by decide)
                have hb1 := bl_st hb g1 hz hp
                have hz1 := Nat.le_trans hz g1.size
                refine hK'.out _ _ hb1 (fun _ => ?_)
                refine wpAnyH_ready (rs := [15]) (by kernel_rfl) (by simp) ?_
                refine AllReadyH.cons (o := ⟨_, _, _, _, _, _⟩) rfl (fun K' hK' => ?_) (AllReadyH.nil)
                refine (if_pos (by rfl)).mpr ?_
                refine wp_stB 51 _ _ ?_
                have E2 := E1
                refine ⟨_, _, _, ⟨_, _, _, Try.sizeOf51, rfl, E1, rpA_over _ zeroR⟩, ?_⟩
                intro y2 F g2
                have D2 := tr_st g2 D1 (by omega)
                have ho2 := owns_ne ho1 g2 E2 (by decide)
                have hb2 := bl_st hb1 g2 hz1 hq
                refine hK'.out _ _ hb2 (fun _ => ?_)
                refine wpAnyH_take (i := 16) (oi := ⟨_, _, _, _, _, _⟩) (v := ?_) rfl (by kernel_rfl) (by kernel_rfl) (by kernel_rfl) (fun _ _ _ h => h) (Or.inl ⟨by rfl, ?_⟩) (by assumption) ?_
                rotate_left
                · intro wS hSw
                  go_simp; (try with_reducible rfl)
                (try simp only [Act.put])
                (try simp only [List.setIfInBounds_toArray])
                (try simp only [List.set_cons_succ])
                (try simp only [List.set_cons_zero])
                refine wpAnyH_done (by kernel_rfl) ?_ _
                go_wp2
                go_meet
                rw [HBB.out]
                exact ⟨p, q, a2, c2, rfl, rfl, rfl, D2, F, ho2, hp, hq, hb2⟩
            · refine (if_pos (by rfl)).mpr ?_
              go_simp
              change K' _ (World.alloc _ (Obj.cells (rpA zeroR) 51))
              have E := heap_alloc_new x1 (Obj.cells (rpA zeroR) 51)
              have ho := owns_bl ho (blw _ (Obj.cells (rpA zeroR) 51))
              have hb := hb.trans ((blw _ (Obj.cells (rpA zeroR) 51)).mono hz)
              have hq : B ≤ x1.heap.size := hz
              have hz := Nat.le_trans hz (blw x1 (Obj.cells (rpA zeroR) 51)).size
              refine hK'.out _ _ hb (fun _ => ?_)
              generalize x1.alloc (Obj.cells (rpA zeroR) 51) = x4 at *
              obtain ⟨q, hqn⟩ : ∃ g, x1.heap.size = g := ⟨_, rfl⟩
              simp only [hqn] at E hq ⊢
              clear hqn
              refine wpAnyH_ready (rs := [12]) (by kernel_rfl) (by simp) ?_
              refine AllReadyH.cons (o := ⟨_, _, _, _, _, _⟩) rfl (fun K' hK' => ?_) (AllReadyH.nil)
              · refine (if_pos (by rfl)).mpr ?_
                go_simp
                change K' _ (World.alloc _ (Obj.cells (imA 0 (.slice none 0 0) zeroT) 57))
                have D := heap_alloc_new x4 (Obj.cells (imA 0 (.slice none 0 0) zeroT) 57)
                have hpq := lt_blk E
                have E := tr_al (Obj.cells (imA 0 (.slice none 0 0) zeroT) 57) E
                have ho := owns_bl ho (blw _ (Obj.cells (imA 0 (.slice none 0 0) zeroT) 57))
                have hb := hb.trans ((blw _ (Obj.cells (imA 0 (.slice none 0 0) zeroT) 57)).mono hz)
                have hp : B ≤ x4.heap.size := hz
                have hz := Nat.le_trans hz (blw x4 (Obj.cells (imA 0 (.slice none 0 0) zeroT) 57)).size
                refine hK'.out _ _ hb (fun _ => ?_)
                generalize x4.alloc (Obj.cells (imA 0 (.slice none 0 0) zeroT) 57) = x5 at *
                obtain ⟨p, hpn⟩ : ∃ g, x4.heap.size = g := ⟨_, rfl⟩
                simp only [hpn] at D hp hpq ⊢
                clear hpn
                refine wpAnyH_ready (rs := [14]) (by kernel_rfl) (by simp) ?_
                refine AllReadyH.cons (o := ⟨_, _, _, _, _, _⟩) rfl (fun K' hK' => ?_) (AllReadyH.nil)
                refine (if_pos (by rfl)).mpr ?_
                refine wp_stB 57 _ _ ?_
                have D0 := D
                refine ⟨_, _, _, ⟨_, _, _, Try.sizeOf57, rfl, D, imA_over _ _ _ _ _ 0 (.slice none 0 0) zeroT⟩, ?_⟩
                intro y1 D1 g1
                have E1 := tr_st g1 E (by omega)
                have ho1 := owns_ne ho g1 D0 (by decide)
                have hb1 := bl_st hb g1 hz hp
                have hz1 := Nat.le_trans hz g1.size
                refine hK'.out _ _ hb1 (fun _ => ?_)
                refine wpAnyH_ready (rs := [15]) (by kernel_rfl) (by simp) ?_
                refine AllReadyH.cons (o := ⟨_, _, _, _, _, _⟩) rfl (fun K' hK' => ?_) (AllReadyH.nil)
                refine (if_pos (by rfl)).mpr ?_
                refine wp_stB 51 _ _ ?_
                have E2 := E1
                refine ⟨_, _, _, ⟨_, _, _, Try.sizeOf51, rfl, E1, rpA_over _ zeroR⟩, ?_⟩
                intro y2 F g2
                have D2 := tr_st g2 D1 (by omega)
                have ho2 := owns_ne ho1 g2 E2 (by decide)
                have hb2 := bl_st hb1 g2 hz1 hq
                refine hK'.out _ _ hb2 (fun _ => ?_)
                refine wpAnyH_take (i := 16) (oi := ⟨_, _, _, _, _, _⟩) (v := ?_) rfl (by kernel_rfl) (by kernel_rfl) (by kernel_rfl) (fun _ _ _ h => h) (Or.inl ⟨by rfl, ?_⟩) (by assumption) ?_
                rotate_left
                · intro wS hSw
                  go_simp; (try with_reducible rfl)
                (try simp only [Act.put])
                (try simp only [List.setIfInBounds_toArray])
                (try simp only [List.set_cons_succ])
                (try simp only [List.set_cons_zero])
                refine wpAnyH_done (by kernel_rfl) ?_ _
                go_wp2
                go_meet
                rw [HBB.out]
                exact ⟨p, q, a2, c2, rfl, rfl, rfl, D2, F, ho2, hp, hq, hb2⟩
          · refine (if_pos (by rfl)).mpr ?_
            go_simp
            change K' _ (World.alloc _ (Obj.cells (imA 0 (.slice none 0 0) zeroT) 57))
            have D := heap_alloc_new x0 (Obj.cells (imA 0 (.slice none 0 0) zeroT) 57)
            have hb := hb.trans ((blw _ (Obj.cells (imA 0 (.slice none 0 0) zeroT) 57)).mono hz)
            have hp : B ≤ x0.heap.size := hz
            have hz := Nat.le_trans hz (blw x0 (Obj.cells (imA 0 (.slice none 0 0) zeroT) 57)).size
            refine hK'.out _ _ hb (fun _ => ?_)
            generalize x0.alloc (Obj.cells (imA 0 (.slice none 0 0) zeroT) 57) = x6 at *
            obtain ⟨p, hpn⟩ : ∃ g, x0.heap.size = g := ⟨_, rfl⟩
            simp only [hpn] at D hp ⊢
            clear hpn
            refine wpAnyH_ready (rs := [7, 13]) (by kernel_rfl) (by simp) ?_
            refine AllReadyH.cons (o := ⟨_, _, _, _, _, _⟩) rfl (fun K' hK' => ?_) (AllReadyH.cons (o := ⟨_, _, _, _, _, _⟩) rfl (fun K' hK' => ?_) (AllReadyH.nil))
            · refine (if_pos (by rfl)).mpr ?_
              go_simp
              refine (hA x6 (HB2 _ hb)).mono ?_
              rintro en x7 ⟨⟨a2, c2, rfl, ho⟩, hbk⟩
              have ho := owns_mono ho hz
              have hb := hb.trans (hbk.mono hz)
              have hz := Nat.le_trans hz hbk.size
              have D := tr_bl hbk D
              clear hbk
              refine hK'.out _ _ hb (fun _ => ?_)
              refine wpAnyH_take (i := 8) (oi := ⟨_, _, _, _, _, _⟩) (v := ?_) rfl (by kernel_rfl) (by kernel_rfl) (by kernel_rfl) (fun _ _ _ h => h) (Or.inl ⟨by rfl, ?_⟩) (by assumption) ?_
              rotate_left
              · intro wS hSw
                go_simp; (try with_reducible rfl)
              (try simp only [Act.put])
              (try simp only [List.setIfInBounds_toArray])
              (try simp only [List.set_cons_succ])
              (try simp only [List.set_cons_zero])
              refine wpAnyH_take (i := 9) (oi := ⟨_, _, _, _, _, _⟩) (v := ?_) rfl (by kernel_rfl) (by kernel_rfl) (by kernel_rfl) (fun _ _ _ h => h) (Or.inl ⟨by rfl, ?_⟩) (by assumption) ?_
              rotate_left
              · intro wS hSw
                go_simp; (try with_reducible rfl)
              (try simp only [Act.put])
              (try simp only [List.setIfInBounds_toArray])
              (try simp only [List.set_cons_succ])
              (try simp only [List.set_cons_zero])
              refine wpAnyH_take (i := 10) (oi := ⟨_, _, _, _, _, _⟩) (v := ?_) rfl (by kernel_rfl) (by kernel_rfl) (by kernel_rfl) (fun _ _ _ h => h) (Or.inl ⟨by rfl, ?_⟩) (by assumption) ?_
              rotate_left
              · intro wS hSw
                go_simp; (try with_reducible rfl)
              (try simp only [Act.put])
              (try simp only [List.setIfInBounds_toArray])
              (try simp only [List.set_cons_succ])
              (try simp only [List.set_cons_zero])
              refine wpAnyH_take (i := 11) (oi := ⟨_, _, _, _, _, _⟩) (v := ?_) rfl (by kernel_rfl) (by kernel_rfl) (by kernel_rfl) (fun _ _ _ h => h) (Or.inl ⟨by rfl, ?_⟩) (by assumption) ?_
              rotate_left
              · intro wS hSw
                go_simp; (try with_reducible rfl)
              (try simp only [Act.put])
              (try simp only [List.setIfInBounds_toArray])
              (try simp only [List.set_cons_succ])
              (try simp only [List.set_cons_zero])
              refine wpAnyH_ready (rs := [13]) (by kernel_rfl) (by simp) ?_
              refine AllReadyH.cons (o := ⟨_, _, _, _, _, _⟩) rfl (fun K' hK' => ?_) (AllReadyH.nil)
              · refine (if_pos (by rfl)).mpr ?_
                go_simp
                change K' _ (World.alloc _ (Obj.cells (rpA zeroR) 51))
                have E := heap_alloc_new x7 (Obj.cells (rpA zeroR) 51)
                have hpq := lt_blk D
                have D := tr_al (Obj.cells (rpA zeroR) 51) D
                have ho := owns_bl ho (blw _ (Obj.cells (rpA zeroR) 51))
                have hb := hb.trans ((blw _ (Obj.cells (rpA zeroR) 51)).mono hz)
                have hq : B ≤ x7.heap.size := hz
                have hz := Nat.le_trans hz (blw x7 (Obj.cells (rpA zeroR) 51)).size
                refine hK'.out _ _ hb (fun _ => ?_)
                generalize x7.alloc (Obj.cells (rpA zeroR) 51) = x8 at *
                obtain ⟨q, hqn⟩ : ∃ g, x7.heap.size = g := ⟨_, rfl⟩
                simp only [hqn] at E hq hpq ⊢
                clear hqn
                refine wpAnyH_ready (rs := [14]) (by kernel_rfl) (by simp) ?_
                refine AllReadyH.cons (o := ⟨_, _, _, _, _, _⟩) rfl (fun K' hK' => ?_) (AllReadyH.nil)
                refine (if_pos (by rfl)).mpr ?_
                refine wp_stB 57 _ _ ?_
                have D0 := D
                refine ⟨_, _, _, ⟨_, _, _, Try.sizeOf57, rfl, D, imA_over _ _ _ _ _ 0 (.slice none 0 0) zeroT⟩, ?_⟩
                intro y1 D1 g1
                have E1 := tr_st g1 E (by omega)
                have ho1 := owns_ne ho g1 D0 (by decide)
                have hb1 := bl_st hb g1 hz hp
                have hz1 := Nat.le_trans hz g1.size
                refine hK'.out _ _ hb1 (fun _ => ?_)
                refine wpAnyH_ready (rs := [15]) (by kernel_rfl) (by simp) ?_
                refine AllReadyH.cons (o := ⟨_, _, _, _, _, _⟩) rfl (fun K' hK' => ?_) (AllReadyH.nil)
                refine (if_pos (by rfl)).mpr ?_
                refine wp_stB 51 _ _ ?_
                have E2 := E1
                refine ⟨_, _, _, ⟨_, _, _, Try.sizeOf51, rfl, E1, rpA_over _ zeroR⟩, ?_⟩
                intro y2 F g2
                have D2 := tr_st g2 D1 (by omega)
                have ho2 := owns_ne ho1 g2 E2 (by decide)
                have hb2 := bl_st hb1 g2 hz1 hq
                refine hK'.out _ _ hb2 (fun _ => ?_)
                refine wpAnyH_take (i := 16) (oi := ⟨_, _, _, _, _, _⟩) (v := ?_) rfl (by kernel_rfl) (by kernel_rfl) (by kernel_rfl) (fun _ _ _ h => h) (Or.inl ⟨by rfl, ?_⟩) (by assumption) ?_
                rotate_left
                · intro wS hSw
                  go_simp; (try with_reducible rfl)
                (try simp only [Act.put])
                (try simp only [List.setIfInBounds_toArray])
                (try simp only [List.set_cons_succ])
                (try simp only [List.set_cons_zero])
                refine wpAnyH_done (by kernel_rfl) ?_ _
                go_wp2
                go_meet
                rw [HBB.out]
                exact ⟨p, q, a2, c2, rfl, rfl, rfl, D2, F, ho2, hp, hq, hb2⟩
            · refine (if_pos (by rfl)).mpr ?_
              go_simp
              change K' _ (World.alloc _ (Obj.cells (rpA zeroR) 51))
              have E := heap_alloc_new x6 (Obj.cells (rpA zeroR) 51)
              have hpq := lt_blk D
              have D := tr_al (Obj.cells (rpA zeroR) 51) D
              have hb := hb.trans ((blw _ (Obj.cells (rpA zeroR) 51)).mono hz)
              have hq : B ≤ x6.heap.size := hz
              have hz := Nat.le_trans hz (blw x6 (Obj.cells (rpA zeroR) 51)).size
              refine hK'.out _ _ hb (fun _ => ?_)
              generalize x6.alloc (Obj.cells (rpA zeroR) 51) = x9 at *
              obtain ⟨q, hqn⟩ : ∃ g, x6.heap.size = g := ⟨_, rfl⟩
              simp only [hqn] at E hq hpq ⊢
              clear hqn
              refine wpAnyH_ready (rs := [7]) (by kernel_rfl) (by simp) ?_
              refine AllReadyH.cons (o := ⟨_, _, _, _, _, _⟩) rfl (fun K' hK' => ?_) (AllReadyH.nil)
              · refine (if_pos (by rfl)).mpr ?_
                go_simp
                refine (hA x9 (HB2 _ hb)).mono ?_
                rintro en x10 ⟨⟨a2, c2, rfl, ho⟩, hbk⟩
                have ho := owns_mono ho hz
                have hb := hb.trans (hbk.mono hz)
                have hz := Nat.le_trans hz hbk.size
                have D := tr_bl hbk D
                have E := tr_bl hbk E
                clear hbk
                refine hK'.out _ _ hb (fun _ => ?_)
                refine wpAnyH_take (i := 8) (oi := ⟨_, _, _, _, _, _⟩) (v := ?_) rfl (by kernel_rfl) (by kernel_rfl) (by kernel_rfl) (fun _ _ _ h => h) (Or.inl ⟨by rfl, ?_⟩) (by assumption) ?_
                rotate_left
                · intro wS hSw
                  go_simp; (try with_reducible rfl)
                (try simp only [Act.put])
                (try simp only [List.setIfInBounds_toArray])
                (try simp only [List.set_cons_succ])
                (try simp only [List.set_cons_zero])
                refine wpAnyH_take (i := 9) (oi := ⟨_, _, _, _, _, _⟩) (v := ?_) rfl (by kernel_rfl) (by kernel_rfl) (by kernel_rfl) (fun _ _ _ h => h) (Or.inl ⟨by rfl, ?_⟩) (by assumption) ?_
                rotate_left
                · intro wS hSw
                  go_simp; (try with_reducible rfl)
                (try simp only [Act.put])
                (try simp only [List.setIfInBounds_toArray])
                (try simp only [List.set_cons_succ])
                (try simp only [List.set_cons_zero])
                refine wpAnyH_take (i := 10) (oi := ⟨_, _, _, _, _, _⟩) (v := ?_) rfl (by kernel_rfl) (by kernel_rfl) (by kernel_rfl) (fun _ _ _ h => h) (Or.inl ⟨by rfl, ?_⟩) (by assumption) ?_
                rotate_left
                · intro wS hSw
                  go_simp; (try with_reducible rfl)
                (try simp only [Act.put])
                (try simp only [List.setIfInBounds_toArray])
                (try simp only [List.set_cons_succ])
                (try simp only [List.set_cons_zero])
                refine wpAnyH_take (i := 11) (oi := ⟨_, _, _, _, _, _⟩) (v := ?_) rfl (by kernel_rfl) (by kernel_rfl) (by kernel_rfl) (fun _ _ _ h => h) (Or.inl ⟨by rfl, ?_⟩) (by assumption) ?_
                rotate_left
                · intro wS hSw
                  go_simp; (try with_reducible rfl)
                (try simp only [Act.put])
                (try simp only [List.setIfInBounds_toArray])
                (try simp only [List.set_cons_succ])
                (try simp only [List.set_cons_zero])
                refine wpAnyH_ready (rs := [14]) (by kernel_rfl) (by simp) ?_
                refine AllReadyH.cons (o := ⟨_, _, _, _, _, _⟩) rfl (fun K' hK' => ?_) (AllReadyH.nil)
                refine (if_pos (by rfl)).mpr ?_
                refine wp_stB 57 _ _ ?_
                have D0 := D
                refine ⟨_, _, _, ⟨_, _, _, Try.sizeOf57, rfl, D, imA_over _ _ _ _ _ 0 (.slice none 0 0) zeroT⟩, ?_⟩
                intro y1 D1 g1
                have E1 := tr_st g1 E (by omega)
                have ho1 := owns_ne ho g1 D0 (by decide)
                have hb1 := bl_st hb g1 hz hp
                have hz1 := Nat.le_trans hz g1.size
                refine hK'.out _ _ hb1 (fun _ => ?_)
                refine wpAnyH_ready (rs := [15]) (by kernel_rfl) (by simp) ?_
                refine AllReadyH.cons (o := ⟨_, _, _, _, _, _⟩) rfl (fun K' hK' => ?_) (AllReadyH.nil)
                refine (if_pos (by rfl)).mpr ?_
                refine wp_stB 51 _ _ ?_
                have E2 := E1
                refine ⟨_, _, _, ⟨_, _, _, Try.sizeOf51, rfl, E1, rpA_over _ zeroR⟩, ?_⟩
                intro y2 F g2
                have D2 := tr_st g2 D1 (by omega)
                have ho2 := owns_ne ho1 g2 E2 (by decide)
                have hb2 := bl_st hb1 g2 hz1 hq
                refine hK'.out _ _ hb2 (fun _ => ?_)
                refine wpAnyH_take (i := 16) (oi := ⟨_, _, _, _, _, _⟩) (v := ?_) rfl (by kernel_rfl) (by kernel_rfl) (by kernel_rfl) (fun _ _ _ h => h) (Or.inl ⟨by rfl, ?_⟩) (by assumption) ?_
                rotate_left
                · intro wS hSw
                  go_simp; (try with_reducible rfl)
                (try simp only [Act.put])
                (try simp only [List.setIfInBounds_toArray])
                (try simp only [List.set_cons_succ])
                (try simp only [List.set_cons_zero])
                refine wpAnyH_done (by kernel_rfl) ?_ _
                go_wp2
                go_meet
                rw [HBB.out]
                exact ⟨p, q, a2, c2, rfl, rfl, rfl, D2, F, ho2, hp, hq, hb2⟩
          · refine (if_pos (by rfl)).mpr ?_
            go_simp
            change K' _ (World.alloc _ (Obj.cells (rpA zeroR) 51))
            have E := heap_alloc_new x0 (Obj.cells (rpA zeroR) 51)
            have hb := hb.trans ((blw _ (Obj.cells (rpA zeroR) 51)).mono hz)
            have hq : B ≤ x0.heap.size := hz
            have hz := Nat.le_trans hz (blw x0 (Obj.cells (rpA zeroR) 51)).size
            refine hK'.out _ _ hb (fun _ => ?_)
            generalize x0.alloc (Obj.cells (rpA zeroR) 51) = x11 at *
            obtain ⟨q, hqn⟩ : ∃ g, x0.heap.size = g := ⟨_, rfl⟩
            simp only [hqn] at E hq ⊢
            clear hqn
            refine wpAnyH_ready (rs := [7, 12]) (by kernel_rfl) (by simp) ?_
            refine AllReadyH.cons (o := ⟨_, _, _, _, _, _⟩) rfl (fun K' hK' => ?_) (AllReadyH.cons (o := ⟨_, _, _, _, _, _⟩) rfl (fun K' hK' => ?_) (AllReadyH.nil))
            · refine (if_pos (by rfl)).mpr ?_
              go_simp
              refine (hA x11 (HB2 _ hb)).mono ?_
              rintro en x12 ⟨⟨a2, c2, rfl, ho⟩, hbk⟩
              have ho := owns_mono ho hz
              have hb := hb.trans (hbk.mono hz)
              have hz := Nat.le_trans hz hbk.size
              have E := tr_bl hbk E
              clear hbk
              refine hK'.out _ _ hb (fun _ => ?_)
              refine wpAnyH_take (i := 8) (oi := ⟨_, _, _, _, _, _⟩) (v := ?_) rfl (by kernel_rfl) (by kernel_rfl) (by kernel_rfl) (fun _ _ _ h => h) (Or.inl ⟨by rfl, ?_⟩) (by assumption) ?_
              rotate_left
              · intro wS hSw
                go_simp; (try with_reducible rfl)
              (try simp only [Act.put])
              (try simp only [List.setIfInBounds_toArray])
              (try simp only [List.set_cons_succ])
              (try simp only [List.set_cons_zero])
              refine wpAnyH_take (i := 9) (oi := ⟨_, _, _, _, _, _⟩) (v := ?_) rfl (by kernel_rfl) (by kernel_rfl) (by kernel_rfl) (fun _ _ _ h => h) (Or.inl ⟨by rfl, ?_⟩) (by assumption) ?_
              rotate_left
              · intro wS hSw
                go_simp; (try with_reducible rfl)
              (try simp only [Act.put])
              (try simp only [List.setIfInBounds_toArray])
              (try simp only [List.set_cons_succ])
              (try simp only [List.set_cons_zero])
              refine wpAnyH_take (i := 10) (oi := ⟨_, _, _, _, _, _⟩) (v := ?_) rfl (by kernel_rfl) (by kernel_rfl) (by kernel_rfl) (fun _ _ _ h => h) (Or.inl ⟨by rfl, ?_⟩) (by assumption) ?_
              rotate_left
              · intro wS hSw
                go_simp; (try with_reducible rfl)
              (try simp only [Act.put])
              (try simp only [List.setIfInBounds_toArray])
              (try simp only [List.set_cons_succ])
              (try simp only [List.set_cons_zero])
              refine wpAnyH_take (i := 11) (oi := ⟨_, _, _, _, _, _⟩) (v := ?_) rfl (by kernel_rfl) (by kernel_rfl) (by kernel_rfl) (fun _ _ _ h => h) (Or.inl ⟨by rfl, ?_⟩) (by assumption) ?_
              rotate_left
              · intro wS hSw
                go_simp; (try with_reducible rfl)
              (try simp only [Act.put])
              (try simp only [List.setIfInBounds_toArray])
              (try simp only [List.set_cons_succ])
              (try simp only [List.set_cons_zero])
              refine wpAnyH_ready (rs := [12]) (by kernel_rfl) (by simp) ?_
              refine AllReadyH.cons (o := ⟨_, _, _, _, _, _⟩) rfl (fun K' hK' => ?_) (AllReadyH.nil)
              · refine (if_pos (by rfl)).mpr ?_
                go_simp
                change K' _ (World.alloc _ (Obj.cells (imA 0 (.slice none 0 0) zeroT) 57))
                have D := heap_alloc_new x12 (Obj.cells (imA 0 (.slice none 0 0) zeroT) 57)
                have hpq := lt_blk E
                have E := tr_al (Obj.cells (imA 0 (.slice none 0 0) zeroT) 57) E
                have ho := owns_bl ho (blw _ (Obj.cells (imA 0 (.slice none 0 0) zeroT) 57))
                have hb := hb.trans ((blw _ (Obj.cells (imA 0 (.slice none 0 0) zeroT) 57)).mono hz)
                have hp : B ≤ x12.heap.size := hz
                have hz := Nat.le_trans hz (blw x12 (Obj.cells (imA 0 (.slice none 0 0) zeroT) 57)).size
                refine hK'.out _ _ hb (fun _ => ?_)
                generalize x12.alloc (Obj.cells (imA 0 (.slice none 0 0) zeroT) 57) = x13 at *
                obtain ⟨p, hpn⟩ : ∃ g, x12.heap.size = g := ⟨_, rfl⟩
                simp only [hpn] at D hp hpq ⊢
                clear hpn
                refine wpAnyH_ready (rs := [14]) (by kernel_rfl) (by simp) ?_
                refine AllReadyH.cons (o := ⟨_, _, _, _, _, _⟩) rfl (fun K' hK' => ?_) (AllReadyH.nil)
                refine (if_pos (by rfl)).mpr ?_
                refine wp_stB 57 _ _ ?_
                have D0 := D
                refine ⟨_, _, _, ⟨_, _, _, Try.sizeOf57, rfl, D, imA_over _ _ _ _ _ 0 (.slice none 0 0) zeroT⟩, ?_⟩
                intro y1 D1 g1
                have E1 := tr_st g1 E (by omega)
                have ho1 := owns_ne ho g1 D0 (by decide)
                have hb1 := bl_st hb g1 hz hp
                have hz1 := Nat.le_trans hz g1.size
                refine hK'.out _ _ hb1 (fun _ => ?_)
                refine wpAnyH_ready (rs := [15]) (by kernel_rfl) (by simp) ?_
                refine AllReadyH.cons (o := ⟨_, _, _, _, _, _⟩) rfl (fun K' hK' => ?_) (AllReadyH.nil)
                refine (if_pos (by rfl)).mpr ?_
                refine wp_stB 51 _ _ ?_
                have E2 := E1
                refine ⟨_, _, _, ⟨_, _, _, Try.sizeOf51, rfl, E1, rpA_over _ zeroR⟩, ?_⟩
                intro y2 F g2
                have D2 := tr_st g2 D1 (by omega)
                have ho2 := owns_ne ho1 g2 E2 (by decide)
                have hb2 := bl_st hb1 g2 hz1 hq
                refine hK'.out _ _ hb2 (fun _ => ?_)
                refine wpAnyH_take (i := 16) (oi := ⟨_, _, _, _, _, _⟩) (v := ?_) rfl (by kernel_rfl) (by kernel_rfl) (by kernel_rfl) (fun _ _ _ h => h) (Or.inl ⟨by rfl, ?_⟩) (by assumption) ?_
                rotate_left
                · intro wS hSw
                  go_simp; (try with_reducible rfl)
                (try simp only [Act.put])
                (try simp only [List.setIfInBounds_toArray])
                (try simp only [List.set_cons_succ])
                (try simp only [List.set_cons_zero])
                refine wpAnyH_done (by kernel_rfl) ?_ _
                go_wp2
                go_meet
                rw [HBB.out]
                exact ⟨p, q, a2, c2, rfl, rfl, rfl, D2, F, ho2, hp, hq, hb2⟩
            · refine (if_pos (by rfl)).mpr ?_
              go_simp
              change K' _ (World.alloc _ (Obj.cells (imA 0 (.slice none 0 0) zeroT) 57))
              have D := heap_alloc_new x11 (Obj.cells (imA 0 (.slice none 0 0) zeroT) 57)
              have hpq := lt_blk E
              have E := tr_al (Obj.cells (imA 0 (.slice none 0 0) zeroT) 57) E
              have hb := hb.trans ((blw _ (Obj.cells (imA 0 (.slice none 0 0) zeroT) 57)).mono hz)
              have hp : B ≤ x11.heap.size := hz
              have hz := Nat.le_trans hz (blw x11 (Obj.cells (imA 0 (.slice none 0 0) zeroT) 57)).size
              refine hK'.out _ _ hb (fun _ => ?_)
              generalize x11.alloc (Obj.cells (imA 0 (.slice none 0 0) zeroT) 57) = x14 at *
              obtain ⟨p, hpn⟩ : ∃ g, x11.heap.size = g := ⟨_, rfl⟩
              simp only [hpn] at D hp hpq ⊢
              clear hpn
              refine wpAnyH_ready (rs := [7]) (by kernel_rfl) (by simp) ?_
              refine AllReadyH.cons (o := ⟨_, _, _, _, _, _⟩) rfl (fun K' hK' => ?_) (AllReadyH.nil)
              · refine (if_pos (by rfl)).mpr ?_
                go_simp
                refine (hA x14 (HB2 _ hb)).mono ?_
                rintro en x15 ⟨⟨a2, c2, rfl, ho⟩, hbk⟩
                have ho := owns_mono ho hz
                have hb := hb.trans (hbk.mono hz)
                have hz := Nat.le_trans hz hbk.size
                have D := tr_bl hbk D
                have E := tr_bl hbk E
                clear hbk
                refine hK'.out _ _ hb (fun _ => ?_)
                refine wpAnyH_take (i := 8) (oi := ⟨_, _, _, _, _, _⟩) (v := ?_) rfl (by kernel_rfl) (by kernel_rfl) (by kernel_rfl) (fun _ _ _ h => h) (Or.inl ⟨by rfl, ?_⟩) (by assumption) ?_
                rotate_left
                · intro wS hSw
                  go_simp; (try with_reducible rfl)
                (try simp only [Act.put])
                (try simp only [List.setIfInBounds_toArray])
                (try simp only [List.set_cons_succ])
                (try simp only [List.set_cons_zero])
                refine wpAnyH_take (i := 9) (oi := ⟨_, _, _, _, _, _⟩) (v := ?_) rfl (by kernel_rfl) (by kernel_rfl) (by kernel_rfl) (fun _ _ _ h => h) (Or.inl ⟨by rfl, ?_⟩) (by assumption) ?_
                rotate_left
                · intro wS hSw
                  go_simp; (try with_reducible rfl)
                (try simp only [Act.put])
                (try simp only [List.setIfInBounds_toArray])
                (try simp only [List.set_cons_succ])
                (try simp only [List.set_cons_zero])
                refine wpAnyH_take (i := 10) (oi := ⟨_, _, _, _, _, _⟩) (v := ?_) rfl (by kernel_rfl) (by kernel_rfl) (by kernel_rfl) (fun _ _ _ h => h) (Or.inl ⟨by rfl, ?_⟩) (by assumption) ?_
                rotate_left
                · intro wS hSw
                  go_simp; (try with_reducible rfl)
                (try simp only [Act.put])
                (try simp only [List.setIfInBounds_toArray])
                (try simp only [List.set_cons_succ])
                (try simp only [List.set_cons_zero])
                refine wpAnyH_take (i := 11) (oi := ⟨_, _, _, _, _, _⟩) (v := ?_) rfl (by kernel_rfl) (by kernel_rfl) (by kernel_rfl) (fun _ _ _ h => h) (Or.inl ⟨by rfl, ?_⟩) (by assumption) ?_
                rotate_left
                · intro wS hSw
                  go_simp; (try with_reducible rfl)
                (try simp only [Act.put])
                (try simp only [List.setIfInBounds_toArray])
                (try simp only [List.set_cons_succ])
                (try simp only [List.set_cons_zero])
                refine wpAnyH_ready (rs := [14]) (by kernel_rfl) (by simp) ?_
                refine AllReadyH.cons (o := ⟨_, _, _, _, _, _⟩) rfl (fun K' hK' => ?_) (AllReadyH.nil)
                refine (if_pos (by rfl)).mpr ?_
                refine wp_stB 57 _ _ ?_
                have D0 := D
                refine ⟨_, _, _, ⟨_, _, _, Try.sizeOf57, rfl, D, imA_over _ _ _ _ _ 0 (.slice none 0 0) zeroT⟩, ?_⟩
                intro y1 D1 g1
                have E1 := tr_st g1 E (by omega)
                have ho1 := owns_ne ho g1 D0 (by decide)
                have hb1 := bl_st hb g1 hz hp
                have hz1 := Nat.le_trans hz g1.size
                refine hK'.out _ _ hb1 (fun _ => ?_)
                refine wpAnyH_ready (rs := [15]) (by kernel_rfl) (by simp) ?_
                refine AllReadyH.cons (o := ⟨_, _, _, _, _, _⟩) rfl (fun K' hK' => ?_) (AllReadyH.nil)
                refine (if_pos (by rfl)).mpr ?_
                refine wp_stB 51 _ _ ?_
                have E2 := E1
                refine ⟨_, _, _, ⟨_, _, _, Try.sizeOf51, rfl, E1, rpA_over _ zeroR⟩, ?_⟩
                intro y2 F g2
                have D2 := tr_st g2 D1 (by omega)
                have ho2 := owns_ne ho1 g2 E2 (by decide)
                have hb2 := bl_st hb1 g2 hz1 hq
                refine hK'.out _ _ hb2 (fun _ => ?_)
                refine wpAnyH_take (i := 16) (oi := ⟨_, _, _, _, _, _⟩) (v := ?_) rfl (by kernel_rfl) (by kernel_rfl) (by kernel_rfl) (fun _ _ _ h => h) (Or.inl ⟨by rfl, ?_⟩) (by assumption) ?_
                rotate_left
                · intro wS hSw
                  go_simp; (try with_reducible rfl)
                (try simp only [Act.put])
                (try simp only [List.setIfInBounds_toArray])
                (try simp only [List.set_cons_succ])
                (try simp only [List.set_cons_zero])
                refine wpAnyH_done (by kernel_rfl) ?_ _
                go_wp2
                go_meet
                rw [HBB.out]
                exact ⟨p, q, a2, c2, rfl, rfl, rfl, D2, F, ho2, hp, hq, hb2⟩
        obtain ⟨p, q, a2, c2, rfl, rfl, rfl, D9, D10, ho2, hp, hq, hbc⟩ := hcut
        have E9 := tr_bl hbc C9
        have hbx := hbr.trans (hbc.mono (by omega))
        have hzx : P9 < wc.heap.size := by have := hbc.size; omega
        clear hbc hbr C9 hor hsk hrw hcs hl0 hown
        go_wp2_with (first
          | ((with_reducible refine wpList_ldB 57 _ ?_); refine ⟨rfl, _, ⟨_, _, _, _, _, Try.isAgg57, Try.sizeOf57, rfl, ‹_›, imA_all _ _ _⟩, ?_⟩)
          | ((first | (with_reducible refine wpList_stB 57 _ _ ?_) | (with_reducible refine wp_stB 57 _ _ ?_)); refine ⟨_, _, _, ⟨_, _, _, Try.sizeOf57, rfl, ‹_›, imA_over _ _ _ _ _ mk.idx (.slice ak mk.st.length ck) mk.tb⟩, ?_⟩; intro wS F2 gS))
        have ho9 := owns_mono (owns_ne ho2 gS E9 (by decide)) (show P9 ≤ wr.heap.size by omega)
        have hb9 := bl_st hbx gS (by omega) (Nat.le_refl _)
        go_roundw
        case rel => exact ⟨k + 1, o1, a2, c2, by omega, by go_num, HNX, F2, ho9, hb9⟩
        case measure => simp [Go.RowKit.intOf]; omega
end Go.Proofs.Ytkkoookmnnmiiaa

