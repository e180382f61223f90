/- Texts that the claim leans on, part 14: R4. -/
import Derived.Test.YtmnjmjbmnhppfaaZ1
import Derived.Test.YtmnjmjbmnhppfaaZ2
import Derived.Test.YtmnjmjbmnhppfaaZ3
import Derived.Test.YtmnjmjbmnhppfaaZ4
import Derived.Test.YtmnjmjbmnhppfaaZ5
import Derived.Test.YtmnjmjbmnhppfaaZ6
import Derived.Test.YtmnjmjbmnhppfaaZ7
import Derived.Test.YtmnjmjbmnhppfaaZ8
import Derived.Test.YtmnjmjbmnhppfaaZ9
import Derived.Test.YtmnjmjbmnhppfaaZ10
import Derived.Test.YtmnjmjbmnhppfaaZ11
import Derived.Test.YtmnjmjbmnhppfaaZ12
import Derived.Test.YtmnjmjbmnhppfaaZ13
import Derived.Test.YtmnjmjbmnhppfaaRows
import Derived.WalkKit
import Derived.WalkSpells
import Derived.WalkLawsBesides
import Derived.Handy
import Derived.Deep.QuietTactic
import Derived.BigQuiet
import Derived.Deep.DeepCutAuto
import Derived.Lib.Hide
import Derived.RegionTactic
import Derived.ChangeAlike
import Derived.Laws.ResultCell
import Derived.Outline
import Derived.Deep.Slices
import Derived.Deep.Strs
import Derived.OpenShut
import Derived.Lib.SmallJoins
import Derived.ProofKit
import Derived.Lib.AppendStr
import Derived.Laws.IdiomStrings
import Derived.Laws.BytesArg
import Derived.Recover
import Derived.Defers
import Derived.Deep.RegionHeld3
import Derived.Deep.Quiet
import Derived.ChangeKeysEq
import Derived.ChangeSlices
import Derived.Laws.EntriesVeiled
import Derived.StillTailTactics
import Derived.Laws.Rows
import Derived.Lib.Overlaps
import Derived.Deep.RegionWith
import Derived.Laws.Strings
import Derived.Laws.CopyOwn
import Derived.Laws.CopyRow
import Derived.Laws.NewBlocks
import Derived.Deep.RegionLaw
namespace Go.Proofs.Ytmnjmjbmnhppfaa
open Go.RowKit

def pieceN (a : Option Addr) (cap at_ : Nat) : Option Addr := if cap = at_ then a else a.map (fun x => x.add (at_ * 7))
theorem row_drop {w : World} {a : Option Addr} {cap : Nat} {l : List En} (h : SlE w a cap l) (s : Nat) (hs : s ≤ l.length) : Row w (pieceN a cap s) (ens (l.drop s)) := by
  rw [ens_drop]
  have hle := h.le
  unfold pieceN
  split
  · rename_i e
    left
    rw [List.drop_of_length_le (by rw [ens_len]; omega)]
  · rcases h.row with h1 | ⟨b, off, rfl, hc⟩
    · left
      rw [h1]
      simp
    · refine .inr ⟨b, off + s * 7, by simp [addr_add], fun i u hu => ?_⟩
      rw [List.getElem?_drop] at hu
      have := hc _ u hu
      rw [Nat.add_assoc]
      exact this

theorem alike_plain {m all : Im} {l : List En} {told : List Rp} {s : Nat} (h : runP m l = some (all, told)) (hm : mayI m = true) (hs : s ≤ l.length) :
    ∃ fi one two, runP m (l.take s) = some (fi, one) ∧ runP fi (l.drop s) = some (all, two) ∧ told = one ++ two ∧ mayI fi = true ∧ one.length = s ∧ two.length = l.length - s := by
  have h0 := run_app (l.take s) m (l.drop s)
  rw [List.take_append_drop, h] at h0
  cases h1 : runP m (l.take s) with
  | none => rw [h1] at h0; cases h0
  | some x =>
    obtain ⟨fi, one⟩ := x
    rw [h1] at h0
    simp only at h0
    cases h2 : runP fi (l.drop s) with
    | none => rw [h2] at h0; cases h0
    | some y =>
      obtain ⟨al, two⟩ := y
      rw [h2] at h0
      simp only at h0
      injection h0 with h0
      injection h0 with e1 e2
      subst e1 e2
      have a := run_spec h1 hm
      have b := run_spec h2 a.1
      refine ⟨fi, one, two, rfl, h2, rfl, a.1, ?_, ?_⟩
      · rw [a.2.2.1, List.length_take]; omega
      · rw [b.2.2.1, List.length_drop]

set_option maxRecDepth 100000 in
set_option maxHeartbeats 8000000 in
theorem alike_law (m : Im) (a : Option Addr) (cap : Nat) (l : List En) (la : Option Addr) (lc : Nat) (cut : Int) (w : World) (hs : SlP w a cap m.st) (he : SlE w la lc l) :
    Calls Try.prog 14 #[.agg (imA m.idx (.slice a m.st.length cap) m.tb), .slice la l.length lc, .int .i64 cut] w fun en w' => en = .returned (.bool true) ∧ Below w.heap.size w w' := by
  have hb0 := blw w (Obj.cells (imA m.idx (.slice a m.st.length cap) m.tb) 49)
  have B3 := heap_alloc_new w (Obj.cells (imA m.idx (.slice a m.st.length cap) m.tb) 49)
  have hs0 := hs.below hb0
  have he0 := he.below hb0
  have hmx := he.max
  have hlc := he.le
  unfold maxLen at hmx
  go_enter Try.func14, Try.ntmps14
  refine wp_seq_k (fun K hK => ?_)
  have HK := Lib.hid hK
  clear hK
  go_wp2
  refine HK.out _ _ ?_
  clear HK
  change Code.wp _ _ _ _ (w.alloc (Obj.cells (imA m.idx (.slice a m.st.length cap) m.tb) 49))
  generalize w.alloc (Obj.cells (imA m.idx (.slice a m.st.length cap) m.tb) 49) = w0 at *
  refine wp_seq_k (fun K hK => ?_)
  have HK := Lib.hid hK
  clear hK
  go_wp2_with (go_at_call 51; refine (awake_any _).mono ?_; rintro en wa ⟨rfl, hba⟩)
  refine HK.out _ _ ?_
  clear HK
  have B3 := tr_bl hba B3
  have hs1 := hs0.below hba
  have he1 := he0.below hba
  have hb1 := step_b hb0 hba
  clear hs hs0 he he0 hb0 hba
  cases hg : greatI m
  case true =>
    have HG := Lib.hid hg
    clear hg
    go_wp2_with (first
      | ((with_reducible refine wpList_ldB 49 _ ?_); refine ⟨rfl, _, ⟨_, _, _, _, _, Try.isAgg49, Try.sizeOf49, rfl, ‹_›, imA_all _ _ _⟩, ?_⟩)
      | (go_at_call 23; refine (greatI_any _ _ _ _ hs1 _ HG.out).mono ?_; rintro en w1 ⟨rfl, hb2⟩; have B3 := tr_bl hb2 B3; have hs2 := hs1.below hb2; have he2 := he1.below hb2))
    go_ret
    exact ⟨rfl, step_b hb1 hb2⟩
  case false =>
    have HG := Lib.hid hg
    have hgs : greatB m.st = false := by
      unfold greatI at hg
      rw [Bool.or_eq_false_iff] at hg
      exact hg.2
    have hl40 := (great_no hgs).1
    clear hg hgs
    cases hgl : greatL l
    case true =>
      have HL := Lib.hid hgl
      clear hgl
      go_wp2_with (first
        | ((with_reducible refine wpList_ldB 49 _ ?_); refine ⟨rfl, _, ⟨_, _, _, _, _, Try.isAgg49, Try.sizeOf49, rfl, ‹_›, imA_all _ _ _⟩, ?_⟩)
        | (go_at_call 23; refine (greatI_any _ _ _ _ hs1 _ HG.out).mono ?_; rintro en w1 ⟨rfl, hb2⟩; have B3 := tr_bl hb2 B3; have hs2 := hs1.below hb2; have he2 := he1.below hb2) | (go_at_call 52; refine (greatL_any _ _ _ _ he2 _ HL.out).mono ?_; rintro en w2 ⟨rfl, hb3⟩; have B3 := tr_bl hb3 B3; have hs3 := hs2.below hb3; have he3 := he2.below hb3))
      go_ret
      exact ⟨rfl, step_b (step_b hb1 hb2) hb3⟩
    case false =>
      have HL := Lib.hid hgl
      have h60 := greatL_no hgl
      clear hgl
      cases hm : mayI m
      case false =>
        have HM := Lib.hid hm
        clear hm
        go_wp2_with (first
          | ((with_reducible refine wpList_ldB 49 _ ?_); refine ⟨rfl, _, ⟨_, _, _, _, _, Try.isAgg49, Try.sizeOf49, rfl, ‹_›, imA_all _ _ _⟩, ?_⟩)
          | (go_at_call 23; refine (greatI_any _ _ _ _ hs1 _ HG.out).mono ?_; rintro en w1 ⟨rfl, hb2⟩; have B3 := tr_bl hb2 B3; have hs2 := hs1.below hb2; have he2 := he1.below hb2) | (go_at_call 52; refine (greatL_any _ _ _ _ he2 _ HL.out).mono ?_; rintro en w2 ⟨rfl, hb3⟩; have B3 := tr_bl hb3 B3; have hs3 := hs2.below hb3; have he3 := he2.below hb3) | (go_at_call 49; refine (imay_any _ _ _ _ _ _ hs3.row (by omega) _ HM.out).mono ?_; rintro en w3 ⟨rfl, hb4⟩; have B3 := tr_bl hb4 B3; have hs4 := hs3.below hb4; have he4 := he3.below hb4; have q3 := imA_c0 B3))
        go_ret
        exact ⟨rfl, step_b (step_b (step_b hb1 hb2) hb3) hb4⟩
      case true =>
        have HM := Lib.hid hm
        obtain ⟨hi0, hi1⟩ := may_ix hm
        clear hm
        by_cases h30 : 1073741824 < m.idx
        · go_wp2_with (first
            | ((with_reducible refine wpList_ldB 49 _ ?_); refine ⟨rfl, _, ⟨_, _, _, _, _, Try.isAgg49, Try.sizeOf49, rfl, ‹_›, imA_all _ _ _⟩, ?_⟩)
            | (go_at_call 23; refine (greatI_any _ _ _ _ hs1 _ HG.out).mono ?_; rintro en w1 ⟨rfl, hb2⟩; have B3 := tr_bl hb2 B3; have hs2 := hs1.below hb2; have he2 := he1.below hb2) | (go_at_call 52; refine (greatL_any _ _ _ _ he2 _ HL.out).mono ?_; rintro en w2 ⟨rfl, hb3⟩; have B3 := tr_bl hb3 B3; have hs3 := hs2.below hb3; have he3 := he2.below hb3) | (go_at_call 49; refine (imay_any _ _ _ _ _ _ hs3.row (by omega) _ HM.out).mono ?_; rintro en w3 ⟨rfl, hb4⟩; have B3 := tr_bl hb4 B3; have hs4 := hs3.below hb4; have he4 := he3.below hb4; have q3 := imA_c0 B3))
          go_ret
          exact ⟨rfl, step_b (step_b (step_b hb1 hb2) hb3) hb4⟩
        refine wp_seq_k (fun K hK => ?_)
        have HK := Lib.hid hK
        clear hK
        go_wp2_with (first
                  | ((with_reducible refine wpList_ldB 49 _ ?_); refine ⟨rfl, _, ⟨_, _, _, _, _, Try.isAgg49, Try.sizeOf49, rfl, ‹_›, imA_all _ _ _⟩, ?_⟩)
                  | (go_at_call 23; refine (greatI_any _ _ _ _ hs1 _ HG.out).mono ?_; rintro en w1 ⟨rfl, hb2⟩; have B3 := tr_bl hb2 B3; have hs2 := hs1.below hb2; have he2 := he1.below hb2) | (go_at_call 52; refine (greatL_any _ _ _ _ he2 _ HL.out).mono ?_; rintro en w2 ⟨rfl, hb3⟩; have B3 := tr_bl hb3 B3; have hs3 := hs2.below hb3; have he3 := he2.below hb3) | (go_at_call 49; refine (imay_any _ _ _ _ _ _ hs3.row (by omega) _ HM.out).mono ?_; rintro en w3 ⟨rfl, hb4⟩; have B3 := tr_bl hb4 B3; have hs4 := hs3.below hb4; have he4 := he3.below hb4; have q3 := imA_c0 B3))
        refine HK.out _ _ ?_
        clear HK
        have hb4 := step_b (step_b (step_b hb1 hb2) hb3) hb4
        clear hb1 hs1 he1 hb2 hs2 he2 hb3 hs3 he3 HG HL q3
        refine wp_seq_k (fun K hK => ?_)
        have HK := Lib.hid hK
        clear hK
        go_wp2
        refine HK.out _ _ ?_
        clear HK
        obtain ⟨s, hsl, hse⟩ := once_n cut (l.length + 1) (by omega) (by omega)
        rw [show ((l.length + 1 : Nat) : Int) = (l.length : Int) + 1 by omega] at hse
        have HSE := Lib.hid hse
        clear hse
        simp only [HSE.out]
        cases hrun : runP m l
        case none =>
          have HRUN := Lib.hid hrun
          clear hrun
          go_wp2_with (first
            | ((with_reducible refine wpList_ldB 49 _ ?_); refine ⟨rfl, _, ⟨_, _, _, _, _, Try.isAgg49, Try.sizeOf49, rfl, ‹_›, imA_all _ _ _⟩, ?_⟩)
            | (go_at_call 53; refine (run_no m a cap l la lc _ hs4 HM.out he4.row (by omega) HRUN.out).mono ?_; rintro en w5 ⟨rfl, hb5⟩)
            | ((first | (with_reducible refine wpList_stNew 49 _ _ ?_) | (with_reducible refine wp_stNew 49 _ _ ?_)); refine ⟨_, _, ⟨Try.sizeOf49, rfl, imA_new _ _ _ _ _⟩, rfl, ?_⟩))
          go_ret
          exact ⟨rfl, step_b (step_b hb4 hb5) (blw _ _)⟩
        case some x =>
          obtain ⟨out, told⟩ := x
          have hsp := run_spec hrun HM.out
          have hmo := hsp.1
          obtain ⟨ho0, _⟩ := may_ix hmo
          have ho1 : out.idx ≤ 1073741884 := by have := hsp.2.1; omega
          have HTL := Lib.hid hsp.2.2.1
          have HOI := Lib.hid hsp.2.1
          have HMO := Lib.hid hmo
          have HRUN := Lib.hid hrun
          have ho8 := may_st hmo
          clear hsp hmo hrun
          refine wp_seq_k (fun K hK => ?_)
          have HK := Lib.hid hK
          clear hK
          go_wp2_with (first
                      | ((with_reducible refine wpList_ldB 49 _ ?_); refine ⟨rfl, _, ⟨_, _, _, _, _, Try.isAgg49, Try.sizeOf49, rfl, ‹_›, imA_all _ _ _⟩, ?_⟩)
                      | (go_at_call 53; refine (run_ok m out told a cap l.length l la lc _ hs4 HM.out he4.row (by omega) rfl HRUN.out).mono ?_; rintro en w5 ⟨⟨a7, c7, ta, tc, rfl, so, _, ro⟩, hb5⟩; have rt := row_own ro; clear ro)
                      | ((first | (with_reducible refine wpList_stNew 49 _ _ ?_) | (with_reducible refine wp_stNew 49 _ _ ?_)); refine ⟨_, _, ⟨Try.sizeOf49, rfl, imA_new _ _ _ _ _⟩, rfl, ?_⟩))
          refine HK.out _ _ ?_
          clear HK
          have hbn := hb5.trans ((blw w5 (Obj.cells (imA out.idx (.slice a7 out.st.length c7) out.tb) 49)).mono hb5.size)
          have B7 := heap_alloc_new w5 (Obj.cells (imA out.idx (.slice a7 out.st.length c7) out.tb) 49)
          have so := so.below (blw w5 (Obj.cells (imA out.idx (.slice a7 out.st.length c7) out.tb) 49))
          have rt := rt.below0 (blw w5 (Obj.cells (imA out.idx (.slice a7 out.st.length c7) out.tb) 49))
          have he5 := he4.below hbn
          have hb6 := step_b hb4 hbn
          generalize w5.alloc (Obj.cells (imA out.idx (.slice a7 out.st.length c7) out.tb) 49) = w6 at *
          obtain ⟨g7, hg7⟩ : ∃ g, w5.heap.size = g := ⟨_, rfl⟩
          simp only [hg7] at B7 ⊢
          have B3 := tr_bl hbn B3
          have hs6 := hs4.below hbn
          clear hg7 hb5 hbn he4 hs4 hb4
          obtain ⟨fi, one, two, hr1, hr2, htl, hmf, hl1, hl2⟩ := alike_plain HRUN.out HM.out (show s ≤ l.length by omega)
          have HR1 := Lib.hid hr1
          have HR2 := Lib.hid hr2
          have HTT := Lib.hid htl
          have HMF := Lib.hid hmf
          have HL1 := Lib.hid hl1
          have HL2 := Lib.hid hl2
          have hf8 := may_st hmf
          obtain ⟨hf0, hf1⟩ := may_ix hmf
          have HTK : Hid ((l.take s).length = s) := Lib.hid (by rw [List.length_take]; omega)
          have HDK : Hid ((l.drop s).length = l.length - s) := Lib.hid (by rw [List.length_drop])
          clear hr1 hr2 htl hmf hl1 hl2
          refine wp_seq_k (fun K hK => ?_)
          have HK := Lib.hid hK
          clear hK
          go_wp2
          refine HK.out _ _ ?_
          clear HK
          have hsI : (s : Int) ≤ l.length := by omega
          have hsl' : s ≤ l.length := by omega
          refine wp_seq_k (fun K hK => ?_)
          go_cut [10, 11, 12] (fun v10 v11 v12 wx => ∃ p a1 c1 ta1 tc1, v10 = .pointer (some ⟨p, 0, none⟩) ∧ v11 = .slice ta1 s tc1 ∧ v12 = .bool true ∧ wx.heap[p]? = some (.cells (imA fi.idx (.slice a1 fi.st.length c1) fi.tb) 49 (0, 0)) ∧ SlP wx a1 c1 fi.st ∧ Row wx ta1 (rps one) ∧ Below w6.heap.size w6 wx)
          case first =>
            obtain ⟨B, hB⟩ : ∃ B, w6.heap.size = B := ⟨_, rfl⟩
            have HB1 : ∀ w', Below B w6 w' → w'.heap[w.heap.size]? = some (.cells (imA m.idx (.slice a m.st.length cap) m.tb) 49 (0, 0)) := fun w' h => tr_bl (by rw [hB]; exact h) B3
            have HB2 : ∀ w', Below B w6 w' → SlP w' a cap m.st := fun w' h => hs6.below (by rw [hB]; exact h)
            have HB3 : ∀ w', Below B w6 w' → SlE w' la lc l := fun w' h => he5.below (by rw [hB]; exact h)
            have hb := (Below.refl w6.heap.size w6).drew
            have hz : w6.heap.size ≤ w6.drew.heap.size := Nat.le_refl _
            rw [hB] at hb hz
            have HBB := Lib.hid hB
            clear hB B3 B7 hs6 so rt he5 hb6
            go_wp2_with fail
            refine wp_region_held_drew (S := fun w' => Below B w6 w') (by kernel_rfl) hb (fun hS0 => ?_)
            generalize w6.drew = x0 at *
            refine wpAnyH_take (i := 0) (oi := ⟨_, _, _, _, _, _⟩) (v := .agg (imA m.idx (.slice a m.st.length cap) m.tb)) rfl (by kernel_rfl) (by kernel_rfl) (by kernel_rfl) (fun _ _ _ h => h) (Or.inl ⟨by rfl, fun wS hSw => ?_⟩) (by assumption) ?_
            · exact exec_ldB 49 _ ⟨_, _, _, _, _, Try.isAgg49, Try.sizeOf49, rfl, HB1 _ hSw, imA_all _ _ _⟩
            (try simp only [Act.put])
            (try simp only [List.setIfInBounds_toArray])
            (try simp only [List.set_cons_succ])
            (try simp only [List.set_cons_zero])
            refine wpAnyH_take (i := 1) (oi := ⟨_, _, _, _, _, _⟩) (v := ?_) rfl (by kernel_rfl) (by kernel_rfl) (by kernel_rfl) (fun _ _ _ h => h) (Or.inl ⟨by rfl, ?_⟩) (by assumption) ?_
            rotate_left
            · intro wS hSw
              go_simp; (try with_reducible rfl)
            (try simp only [Act.put])
            (try simp only [List.setIfInBounds_toArray])
            (try simp only [List.set_cons_succ])
            (try simp only [List.set_cons_zero])
            refine wpAnyH_take (i := 2) (oi := ⟨_, _, _, _, _, _⟩) (v := ?_) rfl (by kernel_rfl) (by kernel_rfl) (by kernel_rfl) (fun _ _ _ h => h) (Or.inl ⟨by rfl, ?_⟩) (by assumption) ?_
            rotate_left
            · intro wS hSw
              go_simp; (try with_reducible rfl)
            (try simp only [Act.put])
            (try simp only [List.setIfInBounds_toArray])
            (try simp only [List.set_cons_succ])
            (try simp only [List.set_cons_zero])
            refine wpAnyH_take (i := 3) (oi := ⟨_, _, _, _, _, _⟩) (v := .slice la s lc) rfl (by kernel_rfl) (by kernel_rfl) (by kernel_rfl) (fun _ _ _ h => h) (Or.inl ⟨by rfl, fun wS hSw => ?_⟩) (by assumption) ?_
            · go_simp; intro h; exact absurd h (by omega)
            (try simp only [Act.put])
            (try simp only [List.setIfInBounds_toArray])
            (try simp only [List.set_cons_succ])
            (try simp only [List.set_cons_zero])
            refine wpAnyH_ready (rs := [4, 9]) (by kernel_rfl) (by simp) ?_
            refine AllReadyH.cons (o := ⟨_, _, _, _, _, _⟩) rfl (fun K' hK' => ?_) (AllReadyH.cons (o := ⟨_, _, _, _, _, _⟩) rfl (fun K' hK' => ?_) (AllReadyH.nil))
            · refine (if_pos (by rfl)).mpr ?_
              go_simp
              refine (run_ok m fi one a cap s (l.take s) la lc x0 (HB2 _ hb) HM.out (row_take (HB3 _ hb).row s) (by rw [HTK.out]; omega) HTK.out HR1.out).mono ?_
              rintro en x1 ⟨⟨b1, e1, tb1, te1, rfl, sf, of, rf⟩, hbk⟩
              have hb := hb.trans (hbk.mono hz)
              have hz := Nat.le_trans hz hbk.size
              refine hK'.out _ _ hb (fun _ => ?_)
              refine wpAnyH_take (i := 5) (oi := ⟨_, _, _, _, _, _⟩) (v := ?_) rfl (by kernel_rfl) (by kernel_rfl) (by kernel_rfl) (fun _ _ _ h => h) (Or.inl ⟨by rfl, ?_⟩) (by assumption) ?_
              rotate_left
              · intro wS hSw
                go_simp; (try with_reducible rfl)
              (try simp only [Act.put])
              (try simp only [List.setIfInBounds_toArray])
              (try simp only [List.set_cons_succ])
              (try simp only [List.set_cons_zero])
              refine wpAnyH_take (i := 6) (oi := ⟨_, _, _, _, _, _⟩) (v := ?_) rfl (by kernel_rfl) (by kernel_rfl) (by kernel_rfl) (fun _ _ _ h => h) (Or.inl ⟨by rfl, ?_⟩) (by assumption) ?_
              rotate_left
              · intro wS hSw
                go_simp; (try with_reducible rfl)
              (try simp only [Act.put])
              (try simp only [List.setIfInBounds_toArray])
              (try simp only [List.set_cons_succ])
              (try simp only [List.set_cons_zero])
              refine wpAnyH_take (i := 7) (oi := ⟨_, _, _, _, _, _⟩) (v := ?_) rfl (by kernel_rfl) (by kernel_rfl) (by kernel_rfl) (fun _ _ _ h => h) (Or.inl ⟨by rfl, ?_⟩) (by assumption) ?_
              rotate_left
              · intro wS hSw
                go_simp; (try with_reducible rfl)
              (try simp only [Act.put])
              (try simp only [List.setIfInBounds_toArray])
              (try simp only [List.set_cons_succ])
              (try simp only [List.set_cons_zero])
              refine wpAnyH_take (i := 8) (oi := ⟨_, _, _, _, _, _⟩) (v := ?_) rfl (by kernel_rfl) (by kernel_rfl) (by kernel_rfl) (fun _ _ _ h => h) (Or.inl ⟨by rfl, ?_⟩) (by assumption) ?_
              rotate_left
              · intro wS hSw
                go_simp; (try with_reducible rfl)
              (try simp only [Act.put])
              (try simp only [List.setIfInBounds_toArray])
              (try simp only [List.set_cons_succ])
              (try simp only [List.set_cons_zero])
              refine wpAnyH_ready (rs := [9]) (by kernel_rfl) (by simp) ?_
              refine AllReadyH.cons (o := ⟨_, _, _, _, _, _⟩) rfl (fun K' hK' => ?_) (AllReadyH.nil)
              refine (if_pos (by rfl)).mpr ?_
              go_simp
              change K' _ (World.alloc _ (Obj.cells (imA 0 (.slice none 0 0) zeroT) 49))
              have hb2 := hb.trans ((blw _ (Obj.cells (imA 0 (.slice none 0 0) zeroT) 49)).mono hz)
              refine hK'.out _ _ hb2 (fun _ => ?_)
              refine wpAnyH_ready (rs := [10]) (by kernel_rfl) (by simp) ?_
              refine AllReadyH.cons (o := ⟨_, _, _, _, _, _⟩) rfl (fun K' hK' => ?_) (AllReadyH.nil)
              refine (if_pos (by rfl)).mpr ?_
              refine wp_stB 49 _ _ ?_
              refine ⟨_, _, _, ⟨_, _, _, Try.sizeOf49, rfl, heap_alloc_new x1 (Obj.cells (imA 0 (.slice none 0 0) zeroT) 49), imA_over _ _ _ _ _ 0 (.slice none 0 0) zeroT⟩, ?_⟩
              intro x2 D g
              have hbs : Below x1.heap.size x1 x2 := bl_st (blw x1 (Obj.cells (imA 0 (.slice none 0 0) zeroT) 49)) g (blw x1 (Obj.cells (imA 0 (.slice none 0 0) zeroT) 49)).size (Nat.le_refl _)
              have sf := sf.below hbs
              have rf := (row_own rf).below0 hbs
              have hb := hb.trans (hbs.mono hz)
              obtain ⟨p, hp⟩ : ∃ p, x1.heap.size = p := ⟨_, rfl⟩
              simp only [hp] at D ⊢
              clear g hbs hp hb2
              refine hK'.out _ _ hb (fun _ => ?_)
              refine wpAnyH_take (i := 11) (oi := ⟨_, _, _, _, _, _⟩) (v := ?_) rfl (by kernel_rfl) (by kernel_rfl) (by kernel_rfl) (fun _ _ _ h => h) (Or.inl ⟨by rfl, ?_⟩) (by assumption) ?_
              rotate_left
              · intro wS hSw
                go_simp; (try with_reducible rfl)
              (try simp only [Act.put])
              (try simp only [List.setIfInBounds_toArray])
              (try simp only [List.set_cons_succ])
              (try simp only [List.set_cons_zero])
              refine wpAnyH_take (i := 12) (oi := ⟨_, _, _, _, _, _⟩) (v := ?_) rfl (by kernel_rfl) (by kernel_rfl) (by kernel_rfl) (fun _ _ _ h => h) (Or.inl ⟨by rfl, ?_⟩) (by assumption) ?_
              rotate_left
              · intro wS hSw
                go_simp; (try with_reducible rfl)
              (try simp only [Act.put])
              (try simp only [List.setIfInBounds_toArray])
              (try simp only [List.set_cons_succ])
              (try simp only [List.set_cons_zero])
              refine wpAnyH_done (by kernel_rfl) ?_ _
              go_wp2
              go_meet
              rw [HBB.out]
              exact ⟨p, b1, e1, tb1, te1, rfl, rfl, rfl, D, sf, rf, hb⟩
            · refine (if_pos (by rfl)).mpr ?_
              go_simp
              change K' _ (World.alloc _ (Obj.cells (imA 0 (.slice none 0 0) zeroT) 49))
              have D := heap_alloc_new x0 (Obj.cells (imA 0 (.slice none 0 0) zeroT) 49)
              have hp0 : B ≤ x0.heap.size := hz
              have s00 := HB2 _ hb
              have hpn := lt_blk D
              have hb := hb.trans ((blw _ (Obj.cells (imA 0 (.slice none 0 0) zeroT) 49)).mono hz)
              have hz := Nat.le_trans hz (blw x0 (Obj.cells (imA 0 (.slice none 0 0) zeroT) 49)).size
              refine hK'.out _ _ hb (fun _ => ?_)
              generalize x0.alloc (Obj.cells (imA 0 (.slice none 0 0) zeroT) 49) = x1 at *
              obtain ⟨p, hp⟩ : ∃ p, x0.heap.size = p := ⟨_, rfl⟩
              have hpx := Lib.hid hp
              simp only [hp] at D hp0 hpn ⊢
              clear hp
              refine wpAnyH_ready (rs := [4]) (by kernel_rfl) (by simp) ?_
              refine AllReadyH.cons (o := ⟨_, _, _, _, _, _⟩) rfl (fun K' hK' => ?_) (AllReadyH.nil)
              refine (if_pos (by rfl)).mpr ?_
              go_simp
              refine (run_ok m fi one a cap s (l.take s) la lc x1 (HB2 _ hb) HM.out (row_take (HB3 _ hb).row s) (by rw [HTK.out]; omega) HTK.out HR1.out).mono ?_
              rintro en x2 ⟨⟨b1, e1, tb1, te1, rfl, sf, of, rf⟩, hbk⟩
              have D := tr_bl hbk D
              have hb := hb.trans (hbk.mono hz)
              have hz := Nat.le_trans hz hbk.size
              refine hK'.out _ _ hb (fun _ => ?_)
              refine wpAnyH_take (i := 5) (oi := ⟨_, _, _, _, _, _⟩) (v := ?_) rfl (by kernel_rfl) (by kernel_rfl) (by kernel_rfl) (fun _ _ _ h => h) (Or.inl ⟨by rfl, ?_⟩) (by assumption) ?_
              rotate_left
              · intro wS hSw
                go_simp; (try with_reducible rfl)
              (try simp only [Act.put])
              (try simp only [List.setIfInBounds_toArray])
              (try simp only [List.set_cons_succ])
              (try simp only [List.set_cons_zero])
              refine wpAnyH_take (i := 6) (oi := ⟨_, _, _, _, _, _⟩) (v := ?_) rfl (by kernel_rfl) (by kernel_rfl) (by kernel_rfl) (fun _ _ _ h => h) (Or.inl ⟨by rfl, ?_⟩) (by assumption) ?_
              rotate_left
              · intro wS hSw
                go_simp; (try with_reducible rfl)
              (try simp only [Act.put])
              (try simp only [List.setIfInBounds_toArray])
              (try simp only [List.set_cons_succ])
              (try simp only [List.set_cons_zero])
              refine wpAnyH_take (i := 7) (oi := ⟨_, _, _, _, _, _⟩) (v := ?_) rfl (by kernel_rfl) (by kernel_rfl) (by kernel_rfl) (fun _ _ _ h => h) (Or.inl ⟨by rfl, ?_⟩) (by assumption) ?_
              rotate_left
              · intro wS hSw
                go_simp; (try with_reducible rfl)
              (try simp only [Act.put])
              (try simp only [List.setIfInBounds_toArray])
              (try simp only [List.set_cons_succ])
              (try simp only [List.set_cons_zero])
              refine wpAnyH_take (i := 8) (oi := ⟨_, _, _, _, _, _⟩) (v := ?_) rfl (by kernel_rfl) (by kernel_rfl) (by kernel_rfl) (fun _ _ _ h => h) (Or.inl ⟨by rfl, ?_⟩) (by assumption) ?_
              rotate_left
              · intro wS hSw
                go_simp; (try with_reducible rfl)
              (try simp only [Act.put])
              (try simp only [List.setIfInBounds_toArray])
              (try simp only [List.set_cons_succ])
              (try simp only [List.set_cons_zero])
              refine wpAnyH_ready (rs := [10]) (by kernel_rfl) (by simp) ?_
              refine AllReadyH.cons (o := ⟨_, _, _, _, _, _⟩) rfl (fun K' hK' => ?_) (AllReadyH.nil)
              refine (if_pos (by rfl)).mpr ?_
              refine wp_stB 49 _ _ ?_
              refine ⟨_, _, _, ⟨_, _, _, Try.sizeOf49, rfl, D, imA_over _ _ _ _ _ 0 (.slice none 0 0) zeroT⟩, ?_⟩
              intro x3 D3 g
              have sf := off_st sf of s00 hpx.out hpn g
              have rf := row_own (owns_ne rf g D (by decide))
              have hb := bl_st hb g hz hp0
              refine hK'.out _ _ hb (fun _ => ?_)
              have D := D3
              refine wpAnyH_take (i := 11) (oi := ⟨_, _, _, _, _, _⟩) (v := ?_) rfl (by kernel_rfl) (by kernel_rfl) (by kernel_rfl) (fun _ _ _ h => h) (Or.inl ⟨by rfl, ?_⟩) (by assumption) ?_
              rotate_left
              · intro wS hSw
                go_simp; (try with_reducible rfl)
              (try simp only [Act.put])
              (try simp only [List.setIfInBounds_toArray])
              (try simp only [List.set_cons_succ])
              (try simp only [List.set_cons_zero])
              refine wpAnyH_take (i := 12) (oi := ⟨_, _, _, _, _, _⟩) (v := ?_) rfl (by kernel_rfl) (by kernel_rfl) (by kernel_rfl) (fun _ _ _ h => h) (Or.inl ⟨by rfl, ?_⟩) (by assumption) ?_
              rotate_left
              · intro wS hSw
                go_simp; (try with_reducible rfl)
              (try simp only [Act.put])
              (try simp only [List.setIfInBounds_toArray])
              (try simp only [List.set_cons_succ])
              (try simp only [List.set_cons_zero])
              refine wpAnyH_done (by kernel_rfl) ?_ _
              go_wp2
              go_meet
              rw [HBB.out]
              exact ⟨p, b1, e1, tb1, te1, rfl, rfl, rfl, D, sf, rf, hb⟩
          obtain ⟨g10, a1, c1, t1, tc1, rfl, rfl, rfl, B10, s1, r1, hbc⟩ := hcut
          refine hK _ _ ?_; clear hK
          have B3 := tr_bl hbc B3
          have B7 := tr_bl hbc B7
          have so := so.below hbc
          have rt := rt.below0 hbc
          have he6 := he5.below hbc
          have hb7 := step_b hb6 hbc
          clear hs6 he5 hb6 hbc
          obtain ⟨hL1, hL2⟩ := imB_len HMF.out
          obtain ⟨lx, hlx⟩ : ∃ l, imB fi = l := ⟨_, rfl⟩
          rw [hlx] at hL1 hL2
          have HL := Lib.hid hlx
          have HP := Lib.hid (show parseI lx = some fi by rw [← hlx]; exact print_parse HMF.out)
          clear hlx
          refine wp_seq_k (fun K hK => ?_)
          have HK := Lib.hid hK
          clear hK
          go_wp2_with (first
                      | ((with_reducible refine wpList_ldB 49 _ ?_); refine ⟨rfl, _, ⟨_, _, _, _, _, Try.isAgg49, Try.sizeOf49, rfl, ‹_›, imA_all _ _ _⟩, ?_⟩)
                      | (go_at_call 24; refine (print_may fi _ _ lx HMF.out HL.out _ s1).mono ?_; rintro en w8 ⟨⟨ax, cx, rfl, sx⟩, hb8⟩))
          refine HK.out _ _ ?_
          clear HK
          refine wp_seq_k (fun K hK => ?_)
          have HK := Lib.hid hK
          clear hK
          go_wp2_with (first
                      | ((with_reducible refine wpList_ldB 49 _ ?_); refine ⟨rfl, _, ⟨_, _, _, _, _, Try.isAgg49, Try.sizeOf49, rfl, ‹_›, imA_all _ _ _⟩, ?_⟩)
                      | (go_at_call 26; refine (parse_yes _ _ _ lx fi rfl HP.out (by omega) _ sx).mono ?_; rintro en w9 ⟨⟨ap, cp, rfl, op⟩, hb9⟩)
                      | ((first | (with_reducible refine wpList_stNew 49 _ _ ?_) | (with_reducible refine wp_stNew 49 _ _ ?_)); refine ⟨_, _, ⟨Try.sizeOf49, rfl, imA_new _ _ _ _ _⟩, rfl, ?_⟩))
          refine HK.out _ _ ?_
          clear HK
          have B15 := heap_alloc_new w9 (Obj.cells (imA fi.idx (.slice ap fi.st.length cp) fi.tb) 49)
          have sp := (SlP.of_own1 op).below (blw w9 (Obj.cells (imA fi.idx (.slice ap fi.st.length cp) fi.tb) 49))
          have hbn := step_b hb8 (hb9.trans ((blw w9 (Obj.cells (imA fi.idx (.slice ap fi.st.length cp) fi.tb) 49)).mono hb9.size))
          have B3 := tr_bl hbn B3
          have B7 := tr_bl hbn B7
          have so := so.below hbn
          have rt := rt.below0 hbn
          have r1 := r1.below0 hbn
          have he7 := he6.below hbn
          have hb9 := step_b hb7 hbn
          clear he6 hb7 hbn hb8 s1 B10 sx op
          generalize w9.alloc (Obj.cells (imA fi.idx (.slice ap fi.st.length cp) fi.tb) 49) = w10 at *
          obtain ⟨g15, hg15⟩ : ∃ g, w9.heap.size = g := ⟨_, rfl⟩
          simp only [hg15] at B15 ⊢
          clear hg15
          refine wp_seq_k (fun K hK => ?_)
          go_cut [17, 18, 19] (fun v17 v18 v19 wx => ∃ p a1 c1 ta1 tc1, v17 = .pointer (some ⟨p, 0, none⟩) ∧ v18 = .slice ta1 (l.length - s) tc1 ∧ v19 = .bool true ∧ wx.heap[p]? = some (.cells (imA out.idx (.slice a1 out.st.length c1) out.tb) 49 (0, 0)) ∧ SlP wx a1 c1 out.st ∧ Row wx ta1 (rps two) ∧ Below w10.heap.size w10 wx)
          case first =>
            obtain ⟨B, hB⟩ : ∃ B, w10.heap.size = B := ⟨_, rfl⟩
            have HB1 : ∀ w', Below B w10 w' → w'.heap[g15]? = some (.cells (imA fi.idx (.slice ap fi.st.length cp) fi.tb) 49 (0, 0)) := fun w' h => tr_bl (by rw [hB]; exact h) B15
            have HB2 : ∀ w', Below B w10 w' → SlP w' ap cp fi.st := fun w' h => sp.below (by rw [hB]; exact h)
            have HB3 : ∀ w', Below B w10 w' → SlE w' la lc l := fun w' h => he7.below (by rw [hB]; exact h)
            have hb := (Below.refl w10.heap.size w10).drew
            have hz : w10.heap.size ≤ w10.drew.heap.size := Nat.le_refl _
            rw [hB] at hb hz
            have HBB := Lib.hid hB
            clear hB B3 B7 B15 sp so rt r1 he7 hb9
            go_wp2_with fail
            refine wp_region_held_drew (S := fun w' => Below B w10 w') (by kernel_rfl) hb (fun hS0 => ?_)
            generalize w10.drew = x0 at *
            refine wpAnyH_take (i := 0) (oi := ⟨_, _, _, _, _, _⟩) (v := .agg (imA fi.idx (.slice ap fi.st.length cp) fi.tb)) rfl (by kernel_rfl) (by kernel_rfl) (by kernel_rfl) (fun _ _ _ h => h) (Or.inl ⟨by rfl, fun wS hSw => ?_⟩) (by assumption) ?_
            · exact exec_ldB 49 _ ⟨_, _, _, _, _, Try.isAgg49, Try.sizeOf49, rfl, HB1 _ hSw, imA_all _ _ _⟩
            (try simp only [Act.put])
            (try simp only [List.setIfInBounds_toArray])
            (try simp only [List.set_cons_succ])
            (try simp only [List.set_cons_zero])
            refine wpAnyH_take (i := 1) (oi := ⟨_, _, _, _, _, _⟩) (v := ?_) rfl (by kernel_rfl) (by kernel_rfl) (by kernel_rfl) (fun _ _ _ h => h) (Or.inl ⟨by rfl, ?_⟩) (by assumption) ?_
            rotate_left
            · intro wS hSw
              go_simp; (try with_reducible rfl)
            (try simp only [Act.put])
            (try simp only [List.setIfInBounds_toArray])
            (try simp only [List.set_cons_succ])
            (try simp only [List.set_cons_zero])
            refine wpAnyH_take (i := 2) (oi := ⟨_, _, _, _, _, _⟩) (v := ?_) rfl (by kernel_rfl) (by kernel_rfl) (by kernel_rfl) (fun _ _ _ h => h) (Or.inl ⟨by rfl, ?_⟩) (by assumption) ?_
            rotate_left
            · intro wS hSw
              go_simp; (try with_reducible rfl)
            (try simp only [Act.put])
            (try simp only [List.setIfInBounds_toArray])
            (try simp only [List.set_cons_succ])
            (try simp only [List.set_cons_zero])
            refine wpAnyH_take (i := 3) (oi := ⟨_, _, _, _, _, _⟩) (v := .slice (pieceN la lc s) (l.length - s) (lc - s)) rfl (by kernel_rfl) (by kernel_rfl) (by kernel_rfl) (fun _ _ _ h => h) (Or.inl ⟨by rfl, fun wS hSw => ?_⟩) (by assumption) ?_
            · go_simp; rfl
            (try simp only [Act.put])
            (try simp only [List.setIfInBounds_toArray])
            (try simp only [List.set_cons_succ])
            (try simp only [List.set_cons_zero])
            refine wpAnyH_ready (rs := [4, 9]) (by kernel_rfl) (by simp) ?_
            refine AllReadyH.cons (o := ⟨_, _, _, _, _, _⟩) rfl (fun K' hK' => ?_) (AllReadyH.cons (o := ⟨_, _, _, _, _, _⟩) rfl (fun K' hK' => ?_) (AllReadyH.nil))
            · refine (if_pos (by rfl)).mpr ?_
              go_simp
              refine (run_ok fi out two ap cp (l.length - s) (l.drop s) (pieceN la lc s) (lc - s) x0 (HB2 _ hb) HMF.out (row_drop (HB3 _ hb) s hsl') (by rw [HDK.out]; omega) HDK.out HR2.out).mono ?_
              rintro en x1 ⟨⟨b1, e1, tb1, te1, rfl, sf, of, rf⟩, hbk⟩
              have hb := hb.trans (hbk.mono hz)
              have hz := Nat.le_trans hz hbk.size
              refine hK'.out _ _ hb (fun _ => ?_)
              refine wpAnyH_take (i := 5) (oi := ⟨_, _, _, _, _, _⟩) (v := ?_) rfl (by kernel_rfl) (by kernel_rfl) (by kernel_rfl) (fun _ _ _ h => h) (Or.inl ⟨by rfl, ?_⟩) (by assumption) ?_
              rotate_left
              · intro wS hSw
                go_simp; (try with_reducible rfl)
              (try simp only [Act.put])
              (try simp only [List.setIfInBounds_toArray])
              (try simp only [List.set_cons_succ])
              (try simp only [List.set_cons_zero])
              refine wpAnyH_take (i := 6) (oi := ⟨_, _, _, _, _, _⟩) (v := ?_) rfl (by kernel_rfl) (by kernel_rfl) (by kernel_rfl) (fun _ _ _ h => h) (Or.inl ⟨by rfl, ?_⟩) (by assumption) ?_
              rotate_left
              · intro wS hSw
                go_simp; (try with_reducible rfl)
              (try simp only [Act.put])
              (try simp only [List.setIfInBounds_toArray])
              (try simp only [List.set_cons_succ])
              (try simp only [List.set_cons_zero])
              refine wpAnyH_take (i := 7) (oi := ⟨_, _, _, _, _, _⟩) (v := ?_) rfl (by kernel_rfl) (by kernel_rfl) (by kernel_rfl) (fun _ _ _ h => h) (Or.inl ⟨by rfl, ?_⟩) (by assumption) ?_
              rotate_left
              · intro wS hSw
                go_simp; (try with_reducible rfl)
              (try simp only [Act.put])
              (try simp only [List.setIfInBounds_toArray])
              (try simp only [List.set_cons_succ])
              (try simp only [List.set_cons_zero])
              refine wpAnyH_take (i := 8) (oi := ⟨_, _, _, _, _, _⟩) (v := ?_) rfl (by kernel_rfl) (by kernel_rfl) (by kernel_rfl) (fun _ _ _ h => h) (Or.inl ⟨by rfl, ?_⟩) (by assumption) ?_
              rotate_left
              · intro wS hSw
                go_simp; (try with_reducible rfl)
              (try simp only [Act.put])
              (try simp only [List.setIfInBounds_toArray])
              (try simp only [List.set_cons_succ])
              (try simp only [List.set_cons_zero])
              refine wpAnyH_ready (rs := [9]) (by kernel_rfl) (by simp) ?_
              refine AllReadyH.cons (o := ⟨_, _, _, _, _, _⟩) rfl (fun K' hK' => ?_) (AllReadyH.nil)
              refine (if_pos (by rfl)).mpr ?_
              go_simp
              change K' _ (World.alloc _ (Obj.cells (imA 0 (.slice none 0 0) zeroT) 49))
              have hb2 := hb.trans ((blw _ (Obj.cells (imA 0 (.slice none 0 0) zeroT) 49)).mono hz)
              refine hK'.out _ _ hb2 (fun _ => ?_)
              refine wpAnyH_ready (rs := [10]) (by kernel_rfl) (by simp) ?_
              refine AllReadyH.cons (o := ⟨_, _, _, _, _, _⟩) rfl (fun K' hK' => ?_) (AllReadyH.nil)
              refine (if_pos (by rfl)).mpr ?_
              refine wp_stB 49 _ _ ?_
              refine ⟨_, _, _, ⟨_, _, _, Try.sizeOf49, rfl, heap_alloc_new x1 (Obj.cells (imA 0 (.slice none 0 0) zeroT) 49), imA_over _ _ _ _ _ 0 (.slice none 0 0) zeroT⟩, ?_⟩
              intro x2 D g
              have hbs : Below x1.heap.size x1 x2 := bl_st (blw x1 (Obj.cells (imA 0 (.slice none 0 0) zeroT) 49)) g (blw x1 (Obj.cells (imA 0 (.slice none 0 0) zeroT) 49)).size (Nat.le_refl _)
              have sf := sf.below hbs
              have rf := (row_own rf).below0 hbs
              have hb := hb.trans (hbs.mono hz)
              obtain ⟨p, hp⟩ : ∃ p, x1.heap.size = p := ⟨_, rfl⟩
              simp only [hp] at D ⊢
              clear g hbs hp hb2
              refine hK'.out _ _ hb (fun _ => ?_)
              refine wpAnyH_take (i := 11) (oi := ⟨_, _, _, _, _, _⟩) (v := ?_) rfl (by kernel_rfl) (by kernel_rfl) (by kernel_rfl) (fun _ _ _ h => h) (Or.inl ⟨by rfl, ?_⟩) (by assumption) ?_
              rotate_left
              · intro wS hSw
                go_simp; (try with_reducible rfl)
              (try simp only [Act.put])
              (try simp only [List.setIfInBounds_toArray])
              (try simp only [List.set_cons_succ])
              (try simp only [List.set_cons_zero])
              refine wpAnyH_take (i := 12) (oi := ⟨_, _, _, _, _, _⟩) (v := ?_) rfl (by kernel_rfl) (by kernel_rfl) (by kernel_rfl) (fun _ _ _ h => h) (Or.inl ⟨by rfl, ?_⟩) (by assumption) ?_
              rotate_left
              · intro wS hSw
                go_simp; (try with_reducible rfl)
              (try simp only [Act.put])
              (try simp only [List.setIfInBounds_toArray])
              (try simp only [List.set_cons_succ])
              (try simp only [List.set_cons_zero])
              refine wpAnyH_done (by kernel_rfl) ?_ _
              go_wp2
              go_meet
              rw [HBB.out]
              exact ⟨p, b1, e1, tb1, te1, rfl, rfl, rfl, D, sf, rf, hb⟩
            · refine (if_pos (by rfl)).mpr ?_
              go_simp
              change K' _ (World.alloc _ (Obj.cells (imA 0 (.slice none 0 0) zeroT) 49))
              have D := heap_alloc_new x0 (Obj.cells (imA 0 (.slice none 0 0) zeroT) 49)
              have hp0 : B ≤ x0.heap.size := hz
              have s00 := HB2 _ hb
              have hpn := lt_blk D
              have hb := hb.trans ((blw _ (Obj.cells (imA 0 (.slice none 0 0) zeroT) 49)).mono hz)
              have hz := Nat.le_trans hz (blw x0 (Obj.cells (imA 0 (.slice none 0 0) zeroT) 49)).size
              refine hK'.out _ _ hb (fun _ => ?_)
              generalize x0.alloc (Obj.cells (imA 0 (.slice none 0 0) zeroT) 49) = x1 at *
              obtain ⟨p, hp⟩ : ∃ p, x0.heap.size = p := ⟨_, rfl⟩
              have hpx := Lib.hid hp
              simp only [hp] at D hp0 hpn ⊢
              clear hp
              refine wpAnyH_ready (rs := [4]) (by kernel_rfl) (by simp) ?_
              refine AllReadyH.cons (o := ⟨_, _, _, _, _, _⟩) rfl (fun K' hK' => ?_) (AllReadyH.nil)
              refine (if_pos (by rfl)).mpr ?_
              go_simp
              refine (run_ok fi out two ap cp (l.length - s) (l.drop s) (pieceN la lc s) (lc - s) x1 (HB2 _ hb) HMF.out (row_drop (HB3 _ hb) s hsl') (by rw [HDK.out]; omega) HDK.out HR2.out).mono ?_
              rintro en x2 ⟨⟨b1, e1, tb1, te1, rfl, sf, of, rf⟩, hbk⟩
              have D := tr_bl hbk D
              have hb := hb.trans (hbk.mono hz)
              have hz := Nat.le_trans hz hbk.size
              refine hK'.out _ _ hb (fun _ => ?_)
              refine wpAnyH_take (i := 5) (oi := ⟨_, _, _, _, _, _⟩) (v := ?_) rfl (by kernel_rfl) (by kernel_rfl) (by kernel_rfl) (fun _ _ _ h => h) (Or.inl ⟨by rfl, ?_⟩) (by assumption) ?_
              rotate_left
              · intro wS hSw
                go_simp; (try with_reducible rfl)
              (try simp only [Act.put])
              (try simp only [List.setIfInBounds_toArray])
              (try simp only [List.set_cons_succ])
              (try simp only [List.set_cons_zero])
              refine wpAnyH_take (i := 6) (oi := ⟨_, _, _, _, _, _⟩) (v := ?_) rfl (by kernel_rfl) (by kernel_rfl) (by kernel_rfl) (fun _ _ _ h => h) (Or.inl ⟨by rfl, ?_⟩) (by assumption) ?_
              rotate_left
              · intro wS hSw
                go_simp; (try with_reducible rfl)
              (try simp only [Act.put])
              (try simp only [List.setIfInBounds_toArray])
              (try simp only [List.set_cons_succ])
              (try simp only [List.set_cons_zero])
              refine wpAnyH_take (i := 7) (oi := ⟨_, _, _, _, _, _⟩) (v := ?_) rfl (by kernel_rfl) (by kernel_rfl) (by kernel_rfl) (fun _ _ _ h => h) (Or.inl ⟨by rfl, ?_⟩) (by assumption) ?_
              rotate_left
              · intro wS hSw
                go_simp; (try with_reducible rfl)
              (try simp only [Act.put])
              (try simp only [List.setIfInBounds_toArray])
              (try simp only [List.set_cons_succ])
              (try simp only [List.set_cons_zero])
              refine wpAnyH_take (i := 8) (oi := ⟨_, _, _, _, _, _⟩) (v := ?_) rfl (by kernel_rfl) (by kernel_rfl) (by kernel_rfl) (fun _ _ _ h => h) (Or.inl ⟨by rfl, ?_⟩) (by assumption) ?_
              rotate_left
              · intro wS hSw
                go_simp; (try with_reducible rfl)
              (try simp only [Act.put])
              (try simp only [List.setIfInBounds_toArray])
              (try simp only [List.set_cons_succ])
              (try simp only [List.set_cons_zero])
              refine wpAnyH_ready (rs := [10]) (by kernel_rfl) (by simp) ?_
              refine AllReadyH.cons (o := ⟨_, _, _, _, _, _⟩) rfl (fun K' hK' => ?_) (AllReadyH.nil)
              refine (if_pos (by rfl)).mpr ?_
              refine wp_stB 49 _ _ ?_
              refine ⟨_, _, _, ⟨_, _, _, Try.sizeOf49, rfl, D, imA_over _ _ _ _ _ 0 (.slice none 0 0) zeroT⟩, ?_⟩
              intro x3 D3 g
              have sf := off_st sf of s00 hpx.out hpn g
              have rf := row_own (owns_ne rf g D (by decide))
              have hb := bl_st hb g hz hp0
              refine hK'.out _ _ hb (fun _ => ?_)
              have D := D3
              refine wpAnyH_take (i := 11) (oi := ⟨_, _, _, _, _, _⟩) (v := ?_) rfl (by kernel_rfl) (by kernel_rfl) (by kernel_rfl) (fun _ _ _ h => h) (Or.inl ⟨by rfl, ?_⟩) (by assumption) ?_
              rotate_left
              · intro wS hSw
                go_simp; (try with_reducible rfl)
              (try simp only [Act.put])
              (try simp only [List.setIfInBounds_toArray])
              (try simp only [List.set_cons_succ])
              (try simp only [List.set_cons_zero])
              refine wpAnyH_take (i := 12) (oi := ⟨_, _, _, _, _, _⟩) (v := ?_) rfl (by kernel_rfl) (by kernel_rfl) (by kernel_rfl) (fun _ _ _ h => h) (Or.inl ⟨by rfl, ?_⟩) (by assumption) ?_
              rotate_left
              · intro wS hSw
                go_simp; (try with_reducible rfl)
              (try simp only [Act.put])
              (try simp only [List.setIfInBounds_toArray])
              (try simp only [List.set_cons_succ])
              (try simp only [List.set_cons_zero])
              refine wpAnyH_done (by kernel_rfl) ?_ _
              go_wp2
              go_meet
              rw [HBB.out]
              exact ⟨p, b1, e1, tb1, te1, rfl, rfl, rfl, D, sf, rf, hb⟩
          obtain ⟨g17, a2, c2, t2, tc2, rfl, rfl, rfl, B17, s2, r2, hbc⟩ := hcut
          refine hK _ _ ?_; clear hK
          have B3 := tr_bl hbc B3
          have B7 := tr_bl hbc B7
          have so := so.below hbc
          have rt := rt.below0 hbc
          have r1 := r1.below0 hbc
          have hb10 := step_b hb9 hbc
          clear he7 sp B15 hb9 hbc
          have q3 := imA_c0 B3
          have q7 := imA_c0 B7
          rw [HOI.out] at q7
          have hsum : (((s : Int) + ((l.length - s : Nat) : Int)) != (l.length : Int)) = false := by simp; omega
          refine wp_seq_k (fun K hK => ?_)
          have HK := Lib.hid hK
          clear hK
          go_wp2_with (first
                      | ((with_reducible refine wpList_ldB 49 _ ?_); refine ⟨rfl, _, ⟨_, _, _, _, _, Try.isAgg49, Try.sizeOf49, rfl, ‹_›, imA_all _ _ _⟩, ?_⟩)
                      | (go_at_call 29; refine (isame_any out out _ _ _ _ _ s2.row so.row (by omega) (by omega) true (sameI_refl out)).mono ?_; rintro en w18 ⟨rfl, hb18⟩; have q3 := imA_c0 (tr_bl hb18 B3); have q7 := imA_c0 (tr_bl hb18 B7); rw [HOI.out] at q7))
          refine HK.out _ _ ?_
          clear HK
          have B7 := tr_bl hb18 B7
          have so := so.below hb18
          have rt := Lib.hid (rt.below0 hb18)
          have r1 := Lib.hid (r1.below0 hb18)
          have r2 := Lib.hid (r2.below0 hb18)
          have hb18 := step_b hb10 hb18
          clear q3 q7 hsum B3 B17 s2 hb10
          go_wp2_with fail
          go_loopw [20] (fun i wr => ∃ k : Nat, k ≤ l.length ∧ i = .int .i64 (k : Nat) ∧ Below w18.heap.size w18 wr) (fun i _ => l.length - (intOf i).toNat)
          case atStart => exact ⟨0, by omega, rfl, Below.refl _ _⟩
          case round =>
            obtain ⟨k, hk, rfl, hbr⟩ := hrel
            by_cases hlt : k < l.length
            case neg =>
              have B7 := tr_bl hbr B7
              have so := so.below hbr
              go_wp2_with (first
                | ((with_reducible refine wpList_ldB 49 _ ?_); refine ⟨rfl, _, ⟨_, _, _, _, _, Try.isAgg49, Try.sizeOf49, rfl, ‹_›, imA_all _ _ _⟩, ?_⟩)
                | (go_at_call 49; refine (imay_any _ _ _ _ _ _ so.row (by omega) _ HMO.out).mono ?_; rintro en w19 ⟨rfl, hb19⟩))
              go_ret
              exact ⟨rfl, step_b (step_b hb18 hbr) hb19⟩
            case pos =>
              obtain ⟨x, hx⟩ : ∃ x, told[k]? = some x := ⟨told[k]'(by have := HTL.out; omega), List.getElem?_eq_getElem _⟩
              have HX := Lib.hid hx
              clear hx
              obtain ⟨lt, lu, rfl, xb, _, xc⟩ := (rt.out.below0 hbr).flat0 rplC_len (by decide) HX.out
              by_cases hks : k < s
              case pos =>
                have hx1 : one[k]? = some x := by have h := HX.out; rw [HTT.out, List.getElem?_append_left (by rw [HL1.out]; exact hks)] at h; exact h
                obtain ⟨lv, lx2, rfl, yb, _, yc⟩ := (r1.out.below0 hbr).flat0 rplC_len (by decide) hx1
                clear hx1
                have hkI : (k : Int) < s := by omega
                have hkL : (k : Int) < l.length := by omega
                go_wp2_with fail
                refine wp_region_cls (C := fun w' => Below wr.heap.size wr w') (by kernel_rfl) (by kernel_rfl) (Below.refl _ _).drew ?_
                refine wpQuiet_val (by rfl) ?_ ?_ ?_
                rotate_left
                · intro wS hSw
                  go_simp
                  (try with_reducible rfl)
                (try simp only [Act.put])
                (try simp only [List.setIfInBounds_toArray])
                (try simp only [List.set_cons_succ])
                (try simp only [List.set_cons_zero])
                refine wpQuiet_val (by rfl) ?_ ?_ ?_
                rotate_left
                · intro wS hSw
                  go_simp
                  (try with_reducible rfl)
                (try simp only [Act.put])
                (try simp only [List.setIfInBounds_toArray])
                (try simp only [List.set_cons_succ])
                (try simp only [List.set_cons_zero])
                refine wpQuiet_val (by rfl) (.bool true) (fun wS hSw => ?_) ?_
                · go_simp; (first | done | omega | (simp; omega))
                (try simp only [Act.put])
                (try simp only [List.setIfInBounds_toArray])
                (try simp only [List.set_cons_succ])
                (try simp only [List.set_cons_zero])
                refine wpQuiet_val (by rfl) ?_ ?_ ?_
                rotate_left
                · intro wS hSw
                  go_simp
                  (try with_reducible rfl)
                (try simp only [Act.put])
                (try simp only [List.setIfInBounds_toArray])
                (try simp only [List.set_cons_succ])
                (try simp only [List.set_cons_zero])
                refine wpQuiet_val (by rfl) ?_ ?_ ?_
                rotate_left
                · intro wS hSw
                  go_simp
                  (try with_reducible rfl)
                (try simp only [Act.put])
                (try simp only [List.setIfInBounds_toArray])
                (try simp only [List.set_cons_succ])
                (try simp only [List.set_cons_zero])
                refine wpQuiet_val (by rfl) ?_ ?_ ?_
                rotate_left
                · intro wS hSw
                  go_simp
                  (try with_reducible rfl)
                (try simp only [Act.put])
                (try simp only [List.setIfInBounds_toArray])
                (try simp only [List.set_cons_succ])
                (try simp only [List.set_cons_zero])
                refine wpQuiet_val (by rfl) ?_ ?_ ?_
                rotate_left
                · intro wS hSw
                  go_simp
                  (try with_reducible rfl)
                (try simp only [Act.put])
                (try simp only [List.setIfInBounds_toArray])
                (try simp only [List.set_cons_succ])
                (try simp only [List.set_cons_zero])
                refine wpQuiet_val (by rfl) (.agg #[.int .i64 x.err, .bool x.found, .string x.val]) (fun wS hSw => ?_) ?_
                · exact exec_ldC 43 _ ⟨_, _, _, Try.isAgg43, Try.sizeOf43, rfl, rfl, fun j u hu => (hSw.cell yb).trans (yc j u (by rw [rplC, Array.getElem?_toList]; exact hu))⟩
                (try simp only [Act.put])
                (try simp only [List.setIfInBounds_toArray])
                (try simp only [List.set_cons_succ])
                (try simp only [List.set_cons_zero])
                refine wpQuiet_val (by rfl) ?_ ?_ ?_
                rotate_left
                · intro wS hSw
                  go_simp
                  (try with_reducible rfl)
                (try simp only [Act.put])
                (try simp only [List.setIfInBounds_toArray])
                (try simp only [List.set_cons_succ])
                (try simp only [List.set_cons_zero])
                refine wpQuiet_val (by rfl) ?_ ?_ ?_
                rotate_left
                · intro wS hSw
                  go_simp
                  (try with_reducible rfl)
                (try simp only [Act.put])
                (try simp only [List.setIfInBounds_toArray])
                (try simp only [List.set_cons_succ])
                (try simp only [List.set_cons_zero])
                refine wpQuiet_val (by rfl) ?_ ?_ ?_
                rotate_left
                · intro wS hSw
                  go_simp
                  (try with_reducible rfl)
                (try simp only [Act.put])
                (try simp only [List.setIfInBounds_toArray])
                (try simp only [List.set_cons_succ])
                (try simp only [List.set_cons_zero])
                refine wpQuiet_val (by rfl) (.agg #[.int .i64 x.err, .bool x.found, .string x.val]) (fun wS hSw => ?_) ?_
                · exact exec_ldC 43 _ ⟨_, _, _, Try.isAgg43, Try.sizeOf43, rfl, rfl, fun j u hu => (hSw.cell xb).trans (xc j u (by rw [rplC, Array.getElem?_toList]; exact hu))⟩
                (try simp only [Act.put])
                (try simp only [List.setIfInBounds_toArray])
                (try simp only [List.set_cons_succ])
                (try simp only [List.set_cons_zero])
                refine wpQuiet_val (by rfl) (.bool false) (fun wS hSw => ?_) ?_
                · go_simp
                (try simp only [Act.put])
                (try simp only [List.setIfInBounds_toArray])
                (try simp only [List.set_cons_succ])
                (try simp only [List.set_cons_zero])
                refine wpQuiet_val (by rfl) ?_ ?_ ?_
                rotate_left
                · intro wS hSw
                  go_simp
                  (try with_reducible rfl)
                (try simp only [Act.put])
                (try simp only [List.setIfInBounds_toArray])
                (try simp only [List.set_cons_succ])
                (try simp only [List.set_cons_zero])
                refine wpQuiet_val (by rfl) ?_ ?_ ?_
                rotate_left
                · intro wS hSw
                  go_simp
                  (try with_reducible rfl)
                (try simp only [Act.put])
                (try simp only [List.setIfInBounds_toArray])
                (try simp only [List.set_cons_succ])
                (try simp only [List.set_cons_zero])
                refine wpQuiet_val (by rfl) ?_ ?_ ?_
                rotate_left
                · intro wS hSw
                  go_simp
                  (try with_reducible rfl)
                (try simp only [Act.put])
                (try simp only [List.setIfInBounds_toArray])
                (try simp only [List.set_cons_succ])
                (try simp only [List.set_cons_zero])
                refine wpQuiet_val (by rfl) ?_ ?_ ?_
                rotate_left
                · intro wS hSw
                  go_simp
                  (try with_reducible rfl)
                (try simp only [Act.put])
                (try simp only [List.setIfInBounds_toArray])
                (try simp only [List.set_cons_succ])
                (try simp only [List.set_cons_zero])
                refine wpQuiet_val (by rfl) (.bool false) (fun wS hSw => ?_) ?_
                · go_simp; (first | done | omega | (simp; omega))
                (try simp only [Act.put])
                (try simp only [List.setIfInBounds_toArray])
                (try simp only [List.set_cons_succ])
                (try simp only [List.set_cons_zero])
                refine wpQuiet_val (by rfl) ?_ ?_ ?_
                rotate_left
                · intro wS hSw
                  go_simp
                  (try with_reducible rfl)
                (try simp only [Act.put])
                (try simp only [List.setIfInBounds_toArray])
                (try simp only [List.set_cons_succ])
                (try simp only [List.set_cons_zero])
                with_reducible refine wpQuiet_skip ?_ ?_
                · rfl
                (try simp only [Act.put])
                (try simp only [List.setIfInBounds_toArray])
                (try simp only [List.set_cons_succ])
                (try simp only [List.set_cons_zero])
                with_reducible refine wpQuiet_skip ?_ ?_
                · rfl
                (try simp only [Act.put])
                (try simp only [List.setIfInBounds_toArray])
                (try simp only [List.set_cons_succ])
                (try simp only [List.set_cons_zero])
                with_reducible refine wpQuiet_skip ?_ ?_
                · rfl
                (try simp only [Act.put])
                (try simp only [List.setIfInBounds_toArray])
                (try simp only [List.set_cons_succ])
                (try simp only [List.set_cons_zero])
                with_reducible refine wpQuiet_skip ?_ ?_
                · rfl
                (try simp only [Act.put])
                (try simp only [List.setIfInBounds_toArray])
                (try simp only [List.set_cons_succ])
                (try simp only [List.set_cons_zero])
                with_reducible refine wpQuiet_skip ?_ ?_
                · rfl
                (try simp only [Act.put])
                (try simp only [List.setIfInBounds_toArray])
                (try simp only [List.set_cons_succ])
                (try simp only [List.set_cons_zero])
                with_reducible refine wpQuiet_skip ?_ ?_
                · rfl
                (try simp only [Act.put])
                (try simp only [List.setIfInBounds_toArray])
                (try simp only [List.set_cons_succ])
                (try simp only [List.set_cons_zero])
                with_reducible refine wpQuiet_skip ?_ ?_
                · rfl
                (try simp only [Act.put])
                (try simp only [List.setIfInBounds_toArray])
                (try simp only [List.set_cons_succ])
                (try simp only [List.set_cons_zero])
                with_reducible refine wpQuiet_skip ?_ ?_
                · rfl
                (try simp only [Act.put])
                (try simp only [List.setIfInBounds_toArray])
                (try simp only [List.set_cons_succ])
                (try simp only [List.set_cons_zero])
                with_reducible refine wpQuiet_skip ?_ ?_
                · rfl
                (try simp only [Act.put])
                (try simp only [List.setIfInBounds_toArray])
                (try simp only [List.set_cons_succ])
                (try simp only [List.set_cons_zero])
                with_reducible refine wpQuiet_skip ?_ ?_
                · rfl
                (try simp only [Act.put])
                (try simp only [List.setIfInBounds_toArray])
                (try simp only [List.set_cons_succ])
                (try simp only [List.set_cons_zero])
                with_reducible refine wpQuiet_skip ?_ ?_
                · rfl
                (try simp only [Act.put])
                (try simp only [List.setIfInBounds_toArray])
                (try simp only [List.set_cons_succ])
                (try simp only [List.set_cons_zero])
                refine wpQuiet_val (by rfl) ?_ ?_ ?_
                rotate_left
                · intro wS hSw
                  go_simp
                  (try with_reducible rfl)
                (try simp only [Act.put])
                (try simp only [List.setIfInBounds_toArray])
                (try simp only [List.set_cons_succ])
                (try simp only [List.set_cons_zero])
                refine wpQuiet_val (by rfl) ?_ ?_ ?_
                rotate_left
                · intro wS hSw
                  go_simp
                  (try with_reducible rfl)
                (try simp only [Act.put])
                (try simp only [List.setIfInBounds_toArray])
                (try simp only [List.set_cons_succ])
                (try simp only [List.set_cons_zero])
                refine wpQuiet_nil ?_
                intro wE hE
                go_wp2
                go_roundw
                case rel => exact ⟨k + 1, by omega, by go_num, step_b hbr hE⟩
                case measure => simp [intOf]; omega
              case neg =>
                have hx2 : two[k - s]? = some x := by have h := HX.out; rw [HTT.out, List.getElem?_append_right (by rw [HL1.out]; omega), HL1.out] at h; exact h
                obtain ⟨lv, lx2, rfl, yb, _, yc⟩ := (r2.out.below0 hbr).flat0 rplC_len (by decide) hx2
                clear hx2
                have hkI : (s : Int) ≤ k := by omega
                have hkL : (k : Int) < l.length := by omega
                have hkD : ((k - s : Nat) : Int) < ((l.length - s : Nat) : Int) := by omega
                have hkE : k - s < l.length - s := by omega
                go_wp2_with fail
                refine wp_region_cls (C := fun w' => Below wr.heap.size wr w') (by kernel_rfl) (by kernel_rfl) (Below.refl _ _).drew ?_
                refine wpQuiet_val (by rfl) ?_ ?_ ?_
                rotate_left
                · intro wS hSw
                  go_simp
                  (try with_reducible rfl)
                (try simp only [Act.put])
                (try simp only [List.setIfInBounds_toArray])
                (try simp only [List.set_cons_succ])
                (try simp only [List.set_cons_zero])
                refine wpQuiet_val (by rfl) ?_ ?_ ?_
                rotate_left
                · intro wS hSw
                  go_simp
                  (try with_reducible rfl)
                (try simp only [Act.put])
                (try simp only [List.setIfInBounds_toArray])
                (try simp only [List.set_cons_succ])
                (try simp only [List.set_cons_zero])
                refine wpQuiet_val (by rfl) (.bool false) (fun wS hSw => ?_) ?_
                · go_simp; (first | done | omega | (simp; omega))
                (try simp only [Act.put])
                (try simp only [List.setIfInBounds_toArray])
                (try simp only [List.set_cons_succ])
                (try simp only [List.set_cons_zero])
                refine wpQuiet_val (by rfl) ?_ ?_ ?_
                rotate_left
                · intro wS hSw
                  go_simp
                  (try with_reducible rfl)
                (try simp only [Act.put])
                (try simp only [List.setIfInBounds_toArray])
                (try simp only [List.set_cons_succ])
                (try simp only [List.set_cons_zero])
                with_reducible refine wpQuiet_skip ?_ ?_
                · rfl
                (try simp only [Act.put])
                (try simp only [List.setIfInBounds_toArray])
                (try simp only [List.set_cons_succ])
                (try simp only [List.set_cons_zero])
                with_reducible refine wpQuiet_skip ?_ ?_
                · rfl
                (try simp only [Act.put])
                (try simp only [List.setIfInBounds_toArray])
                (try simp only [List.set_cons_succ])
                (try simp only [List.set_cons_zero])
                with_reducible refine wpQuiet_skip ?_ ?_
                · rfl
                (try simp only [Act.put])
                (try simp only [List.setIfInBounds_toArray])
                (try simp only [List.set_cons_succ])
                (try simp only [List.set_cons_zero])
                with_reducible refine wpQuiet_skip ?_ ?_
                · rfl
                (try simp only [Act.put])
                (try simp only [List.setIfInBounds_toArray])
                (try simp only [List.set_cons_succ])
                (try simp only [List.set_cons_zero])
                with_reducible refine wpQuiet_skip ?_ ?_
                · rfl
                (try simp only [Act.put])
                (try simp only [List.setIfInBounds_toArray])
                (try simp only [List.set_cons_succ])
                (try simp only [List.set_cons_zero])
                with_reducible refine wpQuiet_skip ?_ ?_
                · rfl
                (try simp only [Act.put])
                (try simp only [List.setIfInBounds_toArray])
                (try simp only [List.set_cons_succ])
                (try simp only [List.set_cons_zero])
                with_reducible refine wpQuiet_skip ?_ ?_
                · rfl
                (try simp only [Act.put])
                (try simp only [List.setIfInBounds_toArray])
                (try simp only [List.set_cons_succ])
                (try simp only [List.set_cons_zero])
                with_reducible refine wpQuiet_skip ?_ ?_
                · rfl
                (try simp only [Act.put])
                (try simp only [List.setIfInBounds_toArray])
                (try simp only [List.set_cons_succ])
                (try simp only [List.set_cons_zero])
                with_reducible refine wpQuiet_skip ?_ ?_
                · rfl
                (try simp only [Act.put])
                (try simp only [List.setIfInBounds_toArray])
                (try simp only [List.set_cons_succ])
                (try simp only [List.set_cons_zero])
                refine wpQuiet_val (by rfl) ?_ ?_ ?_
                rotate_left
                · intro wS hSw
                  go_simp
                  (try with_reducible rfl)
                (try simp only [Act.put])
                (try simp only [List.setIfInBounds_toArray])
                (try simp only [List.set_cons_succ])
                (try simp only [List.set_cons_zero])
                refine wpQuiet_val (by rfl) ?_ ?_ ?_
                rotate_left
                · intro wS hSw
                  go_simp
                  (try with_reducible rfl)
                (try simp only [Act.put])
                (try simp only [List.setIfInBounds_toArray])
                (try simp only [List.set_cons_succ])
                (try simp only [List.set_cons_zero])
                refine wpQuiet_val (by rfl) ?_ ?_ ?_
                rotate_left
                · intro wS hSw
                  go_simp
                  (try with_reducible rfl)
                (try simp only [Act.put])
                (try simp only [List.setIfInBounds_toArray])
                (try simp only [List.set_cons_succ])
                (try simp only [List.set_cons_zero])
                refine wpQuiet_val (by rfl) ?_ ?_ ?_
                rotate_left
                · intro wS hSw
                  go_simp
                  (try with_reducible rfl)
                (try simp only [Act.put])
                (try simp only [List.setIfInBounds_toArray])
                (try simp only [List.set_cons_succ])
                (try simp only [List.set_cons_zero])
                refine wpQuiet_val (by rfl) (.bool true) (fun wS hSw => ?_) ?_
                · go_simp; (first | done | omega | (simp; omega))
                (try simp only [Act.put])
                (try simp only [List.setIfInBounds_toArray])
                (try simp only [List.set_cons_succ])
                (try simp only [List.set_cons_zero])
                refine wpQuiet_val (by rfl) ?_ ?_ ?_
                rotate_left
                · intro wS hSw
                  go_simp
                  (try with_reducible rfl)
                (try simp only [Act.put])
                (try simp only [List.setIfInBounds_toArray])
                (try simp only [List.set_cons_succ])
                (try simp only [List.set_cons_zero])
                refine wpQuiet_val (by rfl) ?_ ?_ ?_
                rotate_left
                · intro wS hSw
                  go_simp
                  (try with_reducible rfl)
                (try simp only [Act.put])
                (try simp only [List.setIfInBounds_toArray])
                (try simp only [List.set_cons_succ])
                (try simp only [List.set_cons_zero])
                refine wpQuiet_val (by rfl) ?_ ?_ ?_
                rotate_left
                · intro wS hSw
                  go_simp
                  (try with_reducible rfl)
                (try simp only [Act.put])
                (try simp only [List.setIfInBounds_toArray])
                (try simp only [List.set_cons_succ])
                (try simp only [List.set_cons_zero])
                refine wpQuiet_val (by rfl) ?_ ?_ ?_
                rotate_left
                · intro wS hSw
                  go_simp
                  (try with_reducible rfl)
                (try simp only [Act.put])
                (try simp only [List.setIfInBounds_toArray])
                (try simp only [List.set_cons_succ])
                (try simp only [List.set_cons_zero])
                refine wpQuiet_val (by rfl) (.int .i64 ((k - s : Nat) : Int)) (fun wS hSw => ?_) ?_
                · have e3 := IntWalk.i64_in ((k : Int) - s) (by omega); go_simp; (first | done | omega | (rw [e3]; omega) | (simp only [e3]; omega))
                (try simp only [Act.put])
                (try simp only [List.setIfInBounds_toArray])
                (try simp only [List.set_cons_succ])
                (try simp only [List.set_cons_zero])
                refine wpQuiet_val (by rfl) ?_ ?_ ?_
                rotate_left
                · intro wS hSw
                  go_simp
                  (try with_reducible rfl)
                (try simp only [Act.put])
                (try simp only [List.setIfInBounds_toArray])
                (try simp only [List.set_cons_succ])
                (try simp only [List.set_cons_zero])
                refine wpQuiet_val (by rfl) (.agg #[.int .i64 x.err, .bool x.found, .string x.val]) (fun wS hSw => ?_) ?_
                · exact exec_ldC 43 _ ⟨_, _, _, Try.isAgg43, Try.sizeOf43, rfl, rfl, fun j u hu => (hSw.cell yb).trans (yc j u (by rw [rplC, Array.getElem?_toList]; exact hu))⟩
                (try simp only [Act.put])
                (try simp only [List.setIfInBounds_toArray])
                (try simp only [List.set_cons_succ])
                (try simp only [List.set_cons_zero])
                refine wpQuiet_val (by rfl) ?_ ?_ ?_
                rotate_left
                · intro wS hSw
                  go_simp
                  (try with_reducible rfl)
                (try simp only [Act.put])
                (try simp only [List.setIfInBounds_toArray])
                (try simp only [List.set_cons_succ])
                (try simp only [List.set_cons_zero])
                refine wpQuiet_val (by rfl) ?_ ?_ ?_
                rotate_left
                · intro wS hSw
                  go_simp
                  (try with_reducible rfl)
                (try simp only [Act.put])
                (try simp only [List.setIfInBounds_toArray])
                (try simp only [List.set_cons_succ])
                (try simp only [List.set_cons_zero])
                refine wpQuiet_val (by rfl) ?_ ?_ ?_
                rotate_left
                · intro wS hSw
                  go_simp
                  (try with_reducible rfl)
                (try simp only [Act.put])
                (try simp only [List.setIfInBounds_toArray])
                (try simp only [List.set_cons_succ])
                (try simp only [List.set_cons_zero])
                refine wpQuiet_val (by rfl) (.agg #[.int .i64 x.err, .bool x.found, .string x.val]) (fun wS hSw => ?_) ?_
                · exact exec_ldC 43 _ ⟨_, _, _, Try.isAgg43, Try.sizeOf43, rfl, rfl, fun j u hu => (hSw.cell xb).trans (xc j u (by rw [rplC, Array.getElem?_toList]; exact hu))⟩
                (try simp only [Act.put])
                (try simp only [List.setIfInBounds_toArray])
                (try simp only [List.set_cons_succ])
                (try simp only [List.set_cons_zero])
                refine wpQuiet_val (by rfl) (.bool false) (fun wS hSw => ?_) ?_
                · go_simp
                (try simp only [Act.put])
                (try simp only [List.setIfInBounds_toArray])
                (try simp only [List.set_cons_succ])
                (try simp only [List.set_cons_zero])
                refine wpQuiet_val (by rfl) ?_ ?_ ?_
                rotate_left
                · intro wS hSw
                  go_simp
                  (try with_reducible rfl)
                (try simp only [Act.put])
                (try simp only [List.setIfInBounds_toArray])
                (try simp only [List.set_cons_succ])
                (try simp only [List.set_cons_zero])
                refine wpQuiet_val (by rfl) ?_ ?_ ?_
                rotate_left
                · intro wS hSw
                  go_simp
                  (try with_reducible rfl)
                (try simp only [Act.put])
                (try simp only [List.setIfInBounds_toArray])
                (try simp only [List.set_cons_succ])
                (try simp only [List.set_cons_zero])
                refine wpQuiet_nil ?_
                intro wE hE
                go_wp2
                go_roundw
                case rel => exact ⟨k + 1, by omega, by go_num, step_b hbr hE⟩
                case measure => simp [intOf]; omega
end Go.Proofs.Ytmnjmjbmnhppfaa

