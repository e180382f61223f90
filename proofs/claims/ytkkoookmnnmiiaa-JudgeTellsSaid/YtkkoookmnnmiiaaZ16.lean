/- Texts that the claim leans on, part 16: J48, J49, J50. -/
import Derived.Test.YtkkoookmnnmiiaaZ1
import Derived.Test.YtkkoookmnnmiiaaZ2
import Derived.Test.YtkkoookmnnmiiaaZ3
import Derived.Test.YtkkoookmnnmiiaaZ4
import Derived.Test.YtkkoookmnnmiiaaZ5
import Derived.Test.YtkkoookmnnmiiaaZ6
import Derived.Test.YtkkoookmnnmiiaaZ7
import Derived.Test.YtkkoookmnnmiiaaZ8
import Derived.Test.YtkkoookmnnmiiaaZ9
import Derived.Test.YtkkoookmnnmiiaaZ10
import Derived.Test.YtkkoookmnnmiiaaZ11
import Derived.Test.YtkkoookmnnmiiaaZ12
import Derived.Test.YtkkoookmnnmiiaaZ13
import Derived.Test.YtkkoookmnnmiiaaZ15
import Derived.Test.YtkkoookmnnmiiaaRows
import Derived.WalkKit
import Derived.WalkSpells
import Derived.WalkLawsBesides
import Derived.Handy
import Derived.Deep.QuietTactic
import Derived.BigQuiet
import Derived.Deep.DeepCutAuto
import Derived.Lib.Hide
import Derived.RegionTactic
import Derived.ChangeAlike
import Derived.Laws.ResultCell
import Derived.Outline
import Derived.LoopN
import Derived.Deep.RegionHeld3
import Derived.ChangeKeysEq
import Derived.Laws.EntriesVeiled
import Derived.StillTailTactics
import Derived.Lib.Overlaps
import Derived.Deep.RegionWith
import Derived.Laws.Rows
import Derived.Deep.Quiet
import Derived.ProofKit
import Derived.OpenShut
import Derived.Laws.Strings
import Derived.Laws.CopyOwn
import Derived.Laws.CopyRow
import Derived.Laws.NewBlocks
import Derived.Deep.RegionLaw
import Derived.Shelf.Abstract
import Derived.Shelf.RegionOpen
import Derived.OwnWalkIn
import Derived.TacticsInMore
import Derived.LoopNIn
import Derived.LoopIn
import Derived.Maps.AppendAt
import Derived.Maps.OwnIn
import Derived.Maps.Keyed
import Derived.Maps.Views
import Derived.Shelf.SlIterI.Nil
import Derived.Shelf.SortM.Plain
import Derived.Shelf.SortM.SortNone
import Derived.RangeFuncNested
import Derived.RangeFuncBound
import Derived.RangeFuncCalls
import Derived.RangeFuncLeaves
import Derived.RangeFuncBox
import Derived.RangeFuncRecord
import Derived.Maps.OwnSet
import Derived.Lib.SlKeysI
import Derived.Deep.Slices
import Derived.Deep.Strs
import Derived.Lib.SmallJoins
namespace Go.Proofs.Ytkkoookmnnmiiaa
open Go.RowKit

/-- How far a replay has come. -/
structure RepI (f C : List Ap) (i n : Nat) (m : Im) : Prop where
  it : itJ f n = some m
  low : ∀ j (hj : j < C.length), j < i → C[j].idx ≤ m.idx
  top : m.idx = 0 ∨ ∃ j, ∃ hj : j < C.length, j < i ∧ C[j].idx = m.idx
section
variable {f C : List Ap} {i n : Nat} {m : Im}
theorem repI_zero (f C : List Ap) : RepI f C 0 0 zeroI := ⟨rfl, fun j _ h => absurd h (by omega), .inl rfl⟩
theorem key_none (hC : chosenJ f = C) {t : Int} (h : ∀ j (hj : j < C.length), C[j].idx ≠ t) : firstJ f t = none := by
  cases hf : firstJ f t with
  | none => rfl
  | some e =>
    exfalso
    have hk := first_key.1 (show (firstJ f t).isSome = true by rw [hf]; rfl)
    obtain ⟨j, hj, hje⟩ := List.getElem_of_mem hk
    have hjc : j < (chosenJ f).length := by unfold chosenJ; rw [List.length_map]; exact hj
    have h9 : (chosenJ f)[j] = atJ f (keysJ f)[j] := by
      unfold chosenJ
      exact List.getElem_map _
    subst hC
    refine h j hjc ?_
    rw [h9]
    exact hje
theorem RepI.skip (h : RepI f C i n m) (hi : i < C.length) (h1 : C[i].idx < 1) : RepI f C (i + 1) n m := by
  have h0 := (itJ_may h.it).2
  refine ⟨h.it, fun j hj hji => ?_, ?_⟩
  · by_cases hjj : j < i
    · exact h.low j hj hjj
    · have : j = i := by omega
      subst this
      omega
  · rcases h.top with h2 | ⟨j, hj, h3, h4⟩
    · exact .inl h2
    · exact .inr ⟨j, hj, by omega, h4⟩
theorem RepI.stop (h : RepI f C i n m) (hC : chosenJ f = C) (hi : i < C.length) (h1 : ¬ C[i].idx < 1) (h2 : C[i].idx ≠ m.idx + 1) : stepJ f m = none := by
  have h0 := (itJ_may h.it).2
  have hup : ∀ j k (hj : j < C.length) (hk : k < j), C[k].idx < C[j].idx := fun j k hj hk => by
    subst hC
    exact rise_le f j k hj hk
  have hgt : m.idx + 1 < C[i].idx := by
    rcases h.top with h3 | ⟨j, hj, h4, h5⟩
    · omega
    · have := hup i j hi h4
      omega
  refine stepJ_no (key_none hC fun j hj => ?_)
  rcases Nat.lt_trichotomy j i with hlt | rfl | hlt
  · have := h.low j hj hlt
    omega
  · omega
  · have := hup j i hj hlt
    omega
theorem RepI.last (h : RepI f C C.length n m) (hC : chosenJ f = C) : stepJ f m = none := by
  refine stepJ_no (key_none hC fun j hj => ?_)
  have := h.low j hj hj
  omega
theorem RepI.first (hC : chosenJ f = C) (hi : i < C.length) (h2 : C[i].idx = m.idx + 1) : firstJ f (m.idx + 1) = some C[i].e := by
  subst hC
  rw [← h2]
  exact chosen_mem (List.getElem_mem hi)
theorem RepI.go (h : RepI f C i n m) (hC : chosenJ f = C) (hi : i < C.length) (h2 : C[i].idx = m.idx + 1) {o1 : Im} {o2 : Rp} (ha : applyP m (m.idx + 1) C[i].e = (o1, o2, 0)) : RepI f C (i + 1) (n + 1) o1 := by
  have hs := stepJ_ok (RepI.first hC hi h2) (by rw [ha])
  rw [ha] at hs
  have hx : o1.idx = m.idx + 1 := (stepJ_may hs).2
  refine ⟨?_, fun j hj hji => ?_, .inr ⟨i, hi, by omega, by omega⟩⟩
  · show (itJ f n).bind (stepJ f) = some o1
    rw [h.it]
    exact hs
  · by_cases hjj : j < i
    · have := h.low j hj hjj
      omega
    · have : j = i := by omega
      subst this
      omega
theorem RepI.bad (hC : chosenJ f = C) (hi : i < C.length) (h2 : C[i].idx = m.idx + 1) {o1 : Im} {o2 : Rp} {o3 : Int} (ha : applyP m (m.idx + 1) C[i].e = (o1, o2, o3)) (h3 : o3 ≠ 0) : stepJ f m = none :=
  stepJ_bad (RepI.first hC hi h2) (by rw [ha]; exact h3)
end
end Go.Proofs.Ytkkoookmnnmiiaa

namespace Go.Proofs.Ytkkoookmnnmiiaa
open Go.RowKit

theorem ap_en {x : Ap} {j : Nat} {u : Value} (h : (enC x.e)[j]? = some u) : (apC x)[1 + j]? = some u := by
  rw [Nat.add_comm]
  exact h
set_option maxRecDepth 100000 in
set_option maxHeartbeats 8000000 in
theorem rreplay_any {a : Option Addr} {ls : List PartA} {w : World} (h : PartsA w a ls) (cap : Nat) (hlen : ls.length ≤ 1000) (hlen2 : ∀ x ∈ ls, x.2.2.length ≤ 1000) : Calls Try.prog 24 #[.slice a ls.length cap] w fun e w' => RepR (flatJ (lstA ls)) e w' ∧ Below w.heap.size w w' := by
  obtain ⟨C, hC⟩ : ∃ C, chosenJ (flatJ (lstA ls)) = C := ⟨_, rfl⟩
  have hCB : C.length ≤ 1000000000000 := by
    rw [← hC]
    exact chosen_bound (by omega) (fun x hx => by have := hlen2 x hx; omega)
  have hb0 := blw w (Obj.cells (imA 0 (.slice none 0 0) zeroT) 57)
  have B2 := heap_alloc_new w (Obj.cells (imA 0 (.slice none 0 0) zeroT) 57)
  have hb1 := blw (w.alloc (Obj.cells (imA 0 (.slice none 0 0) zeroT) 57)) (Obj.cells (imA 0 (.slice none 0 0) zeroT) 57)
  have B3 := heap_alloc_new (w.alloc (Obj.cells (imA 0 (.slice none 0 0) zeroT) 57)) (Obj.cells (imA 0 (.slice none 0 0) zeroT) 57)
  have B2 := tr_al (Obj.cells (imA 0 (.slice none 0 0) zeroT) 57) B2
  have hg := rchosen_any ((h.below hb0).below hb1) cap hlen hlen2 hC
  generalize flatJ (lstA ls) = f at *
  have HC := Lib.hid hC
  clear hC h hlen2
  go_enter Try.func24, Try.ntmps24
  refine wp_seq_k (fun K hK => ?_)
  have HK := Lib.hid hK
  clear hK
  go_wp2
  refine HK.out _ _ ?_
  clear HK
  change Code.wp _ _ _ _ (w.alloc (Obj.cells (imA 0 (.slice none 0 0) zeroT) 57))
  refine wp_seq_k (fun K hK => ?_)
  have HK := Lib.hid hK
  clear hK
  go_wp2
  refine HK.out _ _ ?_
  clear HK
  change Code.wp _ _ _ _ ((w.alloc (Obj.cells (imA 0 (.slice none 0 0) zeroT) 57)).alloc (Obj.cells (imA 0 (.slice none 0 0) zeroT) 57))
  have hbw := hb0.trans (hb1.mono hb0.size)
  have hs0 := lt_blk B2
  have hs1 := lt_blk B3
  have hN1 : w.heap.size < (w.alloc (Obj.cells (imA 0 (.slice none 0 0) zeroT) 57)).heap.size := by rw [World.size_alloc]; omega
  obtain ⟨N, hN⟩ : ∃ N, w.heap.size = N := ⟨_, rfl⟩
  obtain ⟨M, hM⟩ : ∃ M, (w.alloc (Obj.cells (imA 0 (.slice none 0 0) zeroT) 57)).heap.size = M := ⟨_, rfl⟩
  have hMN : w.heap.size + 1 = M := by rw [← hM, World.size_alloc]
  rw [hM] at B3 hs1 hN1
  rw [hN] at B2 hbw hs0 hN1 hMN
  simp only [hN, hMN]
  clear hM hMN hb0 hb1
  generalize (w.alloc (Obj.cells (imA 0 (.slice none 0 0) zeroT) 57)).alloc (Obj.cells (imA 0 (.slice none 0 0) zeroT) 57) = w2 at *
  refine wp_seq_k (fun K hK => ?_)
  have HK := Lib.hid hK
  clear hK
  go_wp2_with (go_at_call 18; refine hg.mono ?_; rintro e w3 ⟨⟨ca, cc, rfl, hCo⟩, hb3⟩)
  refine HK.out _ _ ?_
  clear HK
  obtain ⟨B0, hB0⟩ : ∃ B, w2.heap.size = B := ⟨_, rfl⟩
  rw [hB0] at hCo
  clear hB0
  have B2 := tr_bl hb3 B2
  have B3 := tr_bl hb3 B3
  have hbw3 : Below N w w3 := hbw.trans (hb3.mono (Nat.le_of_lt hs0))
  have hs3 : M < w3.heap.size := lt_blk B3
  clear hg hb3 hbw hs0 hs1
  refine wp_seq_k (fun K hK => ?_)
  go_cut [5] (fun v wx => ∃ (n : Nat) (m : Im) (a : Option Addr) (c : Nat), itJ f n = some m ∧ stepJ f m = none ∧ wx.heap[M]? = some (.cells (imA m.idx (.slice a m.st.length c) m.tb) 57 (0, 0)) ∧ wx.heap[N]? = some (.cells (imA 0 (.slice none 0 0) zeroT) 57 (0, 0)) ∧ wx.ownsRow M 81 2 (.slice a m.st.length c) m.st.length (prs m.st) ∧ Below M w3 wx)
  case first =>
    go_wp2
    go_loopw [5] (fun v wr => ∃ (i n : Nat) (m : Im) (a : Option Addr) (c : Nat), i ≤ C.length ∧ v = .int .i64 i ∧ Hid (RepI f C i n m) ∧ wr.heap[M]? = some (.cells (imA m.idx (.slice a m.st.length c) m.tb) 57 (0, 0)) ∧ wr.ownsRow M 81 2 (.slice a m.st.length c) m.st.length (prs m.st) ∧ wr.ownsRow B0 36 8 (.slice ca C.length cc) C.length (aps C) ∧ Below M w3 wr) (fun v _ => C.length - (Go.RowKit.intOf v).toNat)
    case atStart => exact ⟨0, 0, zeroI, none, 0, by omega, rfl, Lib.hid (repI_zero _ _), B3, World.ownsRow_nil _ _ _ _, hCo, Below.refl _ _⟩
    case round =>
      obtain ⟨i, n, m, ak, ck, hi, rfl, hI, C5, hor, hoC, hbr⟩ := hrel
      have hmay := (itJ_may hI.out.it).1
      obtain ⟨hi0, hi1, hms, _⟩ := mayI_parts hmay
      have hml : m.st.length ≤ 1000 := by
        have := (may_spec hms).1
        omega
      have hsm : ∀ p ∈ m.st, p.1.size ≤ 100000 := fun p hp => by
        have := ((may_spec hms).2.2 p hp).1
        unfold keyOk at this
        simp only [Bool.and_eq_true, decide_eq_true_eq] at this
        omega
      have HSM := Lib.hid hsm
      have hMr : M < wr.heap.size := lt_blk C5
      have B2r := (hbr.block N (by omega)).trans B2
      clear hmay hms hsm
      by_cases hlt : i < C.length
      · obtain ⟨_, _, hv, hCr, _⟩ := Row.of_owns hoC
        cases hv
        obtain ⟨x, hx⟩ : ∃ x, C[i]'hlt = x := ⟨_, rfl⟩
        obtain ⟨cb, co, hca, hcb, x0, _⟩ := ap_cells hCr hlt
        obtain ⟨cb2, co2, hca2, hcb2, _, hcs⟩ := hCr.flat0 apC_len (by decide) (List.getElem?_eq_getElem hlt)
        rw [hca] at hca2
        cases hca2
        rw [hx] at x0 hcs
        obtain ⟨ix, hix⟩ : ∃ ix, x.idx = ix := ⟨_, rfl⟩
        rw [hix] at x0
        have c0 := imA_c0 C5
        have HXI := Lib.hid hx
        have HIX := Lib.hid hix
        have hoC2 := hoC
        subst hca
        clear hx hix
        obtain ⟨b1, i1⟩ : ∃ b, decide (ix < 1) = b := ⟨_, rfl⟩
        cases b1
        case true =>
          have HN := Lib.hid (hI.out.skip hlt (by rw [HXI.out, HIX.out]; exact of_decide_eq_true i1))
          clear hI
          go_wp2
          go_roundw
          case rel => exact ⟨i + 1, n, m, ak, ck, by omega, by go_num, HN, C5, hor, hoC, hbr⟩
          case measure => simp [Go.RowKit.intOf]; omega
        case false =>
          have e3 : wrap64 (m.idx + 1) = m.idx + 1 := by unfold wrap64; omega
          obtain ⟨b2, i2⟩ : ∃ b, (ix != m.idx + 1) = b := ⟨_, rfl⟩
          have HI2 := Lib.hid i2
          have HI1 := Lib.hid i1
          cases b2
          case true =>
            have HN := Lib.hid (hI.out.stop HC.out hlt (by rw [HXI.out, HIX.out]; exact of_decide_eq_false i1) (by rw [HXI.out, HIX.out]; exact bne_iff_ne.1 i2))
            have HIT := Lib.hid hI.out.it
            clear hI
            go_wp2
            go_big_quiet (fail)
            go_wp2
            go_meet
            have hd := below_drewN (Below.refl wr.heap.size wr) nq
            exact ⟨n, m, ak, ck, HIT.out, HN.out, tr_bl hd C5, tr_bl hd B2r, owns_bl hor hd, below_drewN hbr _⟩
          case false =>
            have HEQ := Lib.hid (show C[i].idx = m.idx + 1 by rw [HXI.out, HIX.out]; exact bne_eq_false_iff_eq.1 i2)
            go_wp2
            go_big_quiet (fail)
            go_wp2_with fail
            have hd := below_drewN (Below.refl wr.heap.size wr) nq
            have C5 := tr_bl hd C5
            have B2r := tr_bl hd B2r
            have hor := owns_bl hor hd
            have hoC := owns_bl hoC hd
            have hbr := below_drewN hbr nq
            have hsk : SlP (wr.drewN nq) ak ck m.st := SlP.of_own1 hor
            have HRC := Lib.hid (show ∀ j u, (enC x.e)[j]? = some u → (wr.drewN nq).cell? ⟨cb, co + i * 8 + 1 + j, none⟩ = some u from fun j u hu => keepJ hd (by
              have := hcs _ u (ap_en hu)
              rw [show co + i * 8 + (1 + j) = co + i * 8 + 1 + j by omega] at this
              exact this))
            obtain ⟨⟨o1, o2, o3⟩, hap⟩ : ∃ o, applyP m (m.idx + 1) x.e = o := ⟨_, rfl⟩
            have hA := fun w' hs => rapply_any m ak ck (m.idx + 1) x.e w' hs hml HSM.out
            rw [hap] at hA
            have HAP := Lib.hid (show applyP m (m.idx + 1) C[i].e = (o1, o2, o3) by rw [HXI.out]; exact hap)
            clear hap hd x0 c0 hcs i1 i2 e3 hoC2 hCr
            generalize wr.drewN nq = w6 at *
            have hM6 : M < w6.heap.size := lt_blk C5
            go_cut [6, 7, 8] from 32 to 45 (fun v6 v7 v8 wx => ∃ p q a2 c2, v6 = .pointer (some ⟨p, 0, none⟩) ∧ v7 = .pointer (some ⟨q, 0, none⟩) ∧ v8 = .int .i64 o3 ∧ wx.heap[p]? = some (.cells (imA o1.idx (.slice a2 o1.st.length c2) o1.tb) 57 (0, 0)) ∧ wx.heap[q]? = some (.cells (rpA o2) 51 (0, 0)) ∧ wx.ownsRow w6.heap.size 81 2 (.slice a2 o1.st.length c2) o1.st.length (prs o1.st) ∧ w6.heap.size ≤ p ∧ w6.heap.size ≤ q ∧ Below w6.heap.size w6 wx)
            case first =>
              obtain ⟨B, hB⟩ : ∃ B, w6.heap.size = B := ⟨_, rfl⟩
              have HB1 : ∀ w', Below B w6 w' → w'.heap[M]? = some (.cells (imA m.idx (.slice ak m.st.length ck) m.tb) 57 (0, 0)) := fun w' h => tr_bl (by rw [hB]; exact h) C5
              have HB2 : ∀ w', Below B w6 w' → SlP w' ak ck m.st := fun w' h => hsk.below (by rw [hB]; exact h)
              have HB3 : ∀ w', Below B w6 w' → ∀ j u, (enC x.e)[j]? = some u → w'.cell? ⟨cb, co + i * 8 + 1 + j, none⟩ = some u := fun w' h j u hu => keepJ (by rw [hB]; exact h) (HRC.out j u hu)
              have hb := (Below.refl w6.heap.size w6).drew
              have hz : w6.heap.size ≤ w6.drew.heap.size := Nat.le_refl _
              rw [hB] at hb hz
              have HBB := Lib.hid hB
              clear hB C5 hsk hbr hor hoC B2r HRC B2 B3 hbw3
              refine wp_region_held_drew (S := fun w' => Below B w6 w') (by kernel_rfl) hb (fun hS0 => ?_)
              generalize w6.drew = x0 at *
              refine wpAnyH_take (i := 0) (oi := ⟨_, _, _, _, _, _⟩) (v := .agg (imA m.idx (.slice ak m.st.length ck) m.tb)) rfl (by kernel_rfl) (by kernel_rfl) (by kernel_rfl) (fun _ _ _ h => h) (Or.inl ⟨by rfl, fun wS hSw => ?_⟩) (by assumption) ?_
              · exact exec_ldB 57 _ ⟨_, _, _, _, _, Try.isAgg57, Try.sizeOf57, rfl, HB1 _ hSw, imA_all _ _ _⟩
              (try simp only [Act.put])
              (try simp only [List.setIfInBounds_toArray])
              (try simp only [List.set_cons_succ])
              (try simp only [List.set_cons_zero])
              refine wpAnyH_take (i := 1) (oi := ⟨_, _, _, _, _, _⟩) (v := ?_) rfl (by kernel_rfl) (by kernel_rfl) (by kernel_rfl) (fun _ _ _ h => h) (Or.inl ⟨by rfl, ?_⟩) (by assumption) ?_
              rotate_left
              · intro wS hSw
                go_simp; (try with_reducible rfl)
              (try simp only [Act.put])
              (try simp only [List.setIfInBounds_toArray])
              (try simp only [List.set_cons_succ])
              (try simp only [List.set_cons_zero])
              refine wpAnyH_take (i := 2) (oi := ⟨_, _, _, _, _, _⟩) (v := ?_) rfl (by kernel_rfl) (by kernel_rfl) (by kernel_rfl) (fun _ _ _ h => h) (Or.inl ⟨by rfl, ?_⟩) (by assumption) ?_
              rotate_left
              · intro wS hSw
                have c := imA_c0 (HB1 _ hSw); go_simp; (try with_reducible rfl)
              (try simp only [Act.put])
              (try simp only [List.setIfInBounds_toArray])
              (try simp only [List.set_cons_succ])
              (try simp only [List.set_cons_zero])
              refine wpAnyH_take (i := 3) (oi := ⟨_, _, _, _, _, _⟩) (v := .int .i64 (m.idx + 1)) rfl (by kernel_rfl) (by kernel_rfl) (by kernel_rfl) (fun _ _ _ h => h) (Or.inl ⟨by rfl, fun wS hSw => ?_⟩) (by assumption) ?_
              · have e3 := IntWalk.i64_in (m.idx + 1) (by omega); go_simp; (first | done | rw [e3] | simp only [e3])
              (try simp only [Act.put])
              (try simp only [List.setIfInBounds_toArray])
              (try simp only [List.set_cons_succ])
              (try simp only [List.set_cons_zero])
              refine wpAnyH_take (i := 4) (oi := ⟨_, _, _, _, _, _⟩) (v := ?_) rfl (by kernel_rfl) (by kernel_rfl) (by kernel_rfl) (fun _ _ _ h => h) (Or.inl ⟨by rfl, ?_⟩) (by assumption) ?_
              rotate_left
              · intro wS hSw
                go_simp; (try with_reducible rfl)
              (try simp only [Act.put])
              (try simp only [List.setIfInBounds_toArray])
              (try simp only [List.set_cons_succ])
              (try simp only [List.set_cons_zero])
              refine wpAnyH_take (i := 5) (oi := ⟨_, _, _, _, _, _⟩) (v := ?_) rfl (by kernel_rfl) (by kernel_rfl) (by kernel_rfl) (fun _ _ _ h => h) (Or.inl ⟨by rfl, ?_⟩) (by assumption) ?_
              rotate_left
              · intro wS hSw
                go_simp; (try with_reducible rfl)
              (try simp only [Act.put])
              (try simp only [List.setIfInBounds_toArray])
              (try simp only [List.set_cons_succ])
              (try simp only [List.set_cons_zero])
              refine wpAnyH_take (i := 6) (oi := ⟨_, _, _, _, _, _⟩) (v := ?_) rfl (by kernel_rfl) (by kernel_rfl) (by kernel_rfl) (fun _ _ _ h => h) (Or.inl ⟨by rfl, ?_⟩) (by assumption) ?_
              rotate_left
              · intro wS hSw
                go_simp; (try with_reducible rfl)
              (try simp only [Act.put])
              (try simp only [List.setIfInBounds_toArray])
              (try simp only [List.set_cons_succ])
              (try simp only [List.set_cons_zero])
              refine wpAnyH_take (i := 7) (oi := ⟨_, _, _, _, _, _⟩) (v := ?_) rfl (by kernel_rfl) (by kernel_rfl) (by kernel_rfl) (fun _ _ _ h => h) (Or.inl ⟨by rfl, ?_⟩) (by assumption) ?_
              rotate_left
              · intro wS hSw
                go_simp; (try with_reducible rfl)
              (try simp only [Act.put])
              (try simp only [List.setIfInBounds_toArray])
              (try simp only [List.set_cons_succ])
              (try simp only [List.set_cons_zero])
              refine wpAnyH_take (i := 8) (oi := ⟨_, _, _, _, _, _⟩) (v := .agg (enA x.e)) rfl (by kernel_rfl) (by kernel_rfl) (by kernel_rfl) (fun _ _ _ h => h) (Or.inl ⟨by rfl, fun wS hSw => ?_⟩) (by assumption) ?_
              · exact exec_ldC 34 _ ⟨_, _, _, Try.isAgg34, Try.sizeOf34, rfl, rfl, fun j u hu => HB3 _ hSw j u (by rw [enC, Array.getElem?_toList]; exact hu)⟩
              (try simp only [Act.put])
              (try simp only [List.setIfInBounds_toArray])
              (try simp only [List.set_cons_succ])
              (try simp only [List.set_cons_zero])
              refine wpAnyH_ready (rs := [9, 14, 15]) (by kernel_rfl) (by simp) ?_
              refine AllReadyH.cons (o := ⟨_, _, _, _, _, _⟩) rfl (fun K' hK' => ?_) (AllReadyH.cons (o := ⟨_, _, _, _, _, _⟩) rfl (fun K' hK' => ?_) (AllReadyH.cons (o := ⟨_, _, _, _, _, _⟩) rfl (fun K' hK' => ?_) (AllReadyH.nil)))
              · refine (if_pos (by rfl)).mpr ?_
                go_simp
                refine (hA x0 (HB2 _ hb)).mono ?_
                rintro en x1 ⟨⟨a2, c2, rfl, ho⟩, hbk⟩
                have ho := owns_mono ho hz
                have hb := hb.trans (hbk.mono hz)
                have hz := Nat.le_trans hz hbk.size
                clear hbk
                refine hK'.out _ _ hb (fun _ => ?_)
                refine wpAnyH_take (i := 10) (oi := ⟨_, _, _, _, _, _⟩) (v := ?_) rfl (by kernel_rfl) (by kernel_rfl) (by kernel_rfl) (fun _ _ _ h => h) (Or.inl ⟨by rfl, ?_⟩) (by assumption) ?_
                rotate_left
                · intro wS hSw
                  go_simp; (try with_reducible rfl)
                (try simp only [Act.put])
                (try simp only [List.setIfInBounds_toArray])
                (try simp only [List.set_cons_succ])
                (try simp only [List.set_cons_zero])
                refine wpAnyH_take (i := 11) (oi := ⟨_, _, _, _, _, _⟩) (v := ?_) rfl (by kernel_rfl) (by kernel_rfl) (by kernel_rfl) (fun _ _ _ h => h) (Or.inl ⟨by rfl, ?_⟩) (by assumption) ?_
                rotate_left
                · intro wS hSw
                  go_simp; (try with_reducible rfl)
                (try simp only [Act.put])
                (try simp only [List.setIfInBounds_toArray])
                (try simp only [List.set_cons_succ])
                (try simp only [List.set_cons_zero])
                refine wpAnyH_take (i := 12) (oi := ⟨_, _, _, _, _, _⟩) (v := ?_) rfl (by kernel_rfl) (by kernel_rfl) (by kernel_rfl) (fun _ _ _ h => h) (Or.inl ⟨by rfl, ?_⟩) (by assumption) ?_
                rotate_left
                · intro wS hSw
                  go_simp; (try with_reducible rfl)
                (try simp only [Act.put])
                (try simp only [List.setIfInBounds_toArray])
                (try simp only [List.set_cons_succ])
                (try simp only [List.set_cons_zero])
                refine wpAnyH_take (i := 13) (oi := ⟨_, _, _, _, _, _⟩) (v := ?_) rfl (by kernel_rfl) (by kernel_rfl) (by kernel_rfl) (fun _ _ _ h => h) (Or.inl ⟨by rfl, ?_⟩) (by assumption) ?_
                rotate_left
                · intro wS hSw
                  go_simp; (try with_reducible rfl)
                (try simp only [Act.put])
                (try simp only [List.setIfInBounds_toArray])
                (try simp only [List.set_cons_succ])
                (try simp only [List.set_cons_zero])
                refine wpAnyH_ready (rs := [14, 15]) (by kernel_rfl) (by simp) ?_
                refine AllReadyH.cons (o := ⟨_, _, _, _, _, _⟩) rfl (fun K' hK' => ?_) (AllReadyH.cons (o := ⟨_, _, _, _, _, _⟩) rfl (fun K' hK' => ?_) (AllReadyH.nil))
                · refine (if_pos (by rfl)).mpr ?_
                  go_simp
                  change K' _ (World.alloc _ (Obj.cells (imA 0 (.slice none 0 0) zeroT) 57))
                  have D := heap_alloc_new x1 (Obj.cells (imA 0 (.slice none 0 0) zeroT) 57)
                  have ho := owns_bl ho (blw _ (Obj.cells (imA 0 (.slice none 0 0) zeroT) 57))
                  have hb := hb.trans ((blw _ (Obj.cells (imA 0 (.slice none 0 0) zeroT) 57)).mono hz)
                  have hp : B ≤ x1.heap.size := hz
                  have hz := Nat.le_trans hz (blw x1 (Obj.cells (imA 0 (.slice none 0 0) zeroT) 57)).size
                  refine hK'.out _ _ hb (fun _ => ?_)
                  generalize x1.alloc (Obj.cells (imA 0 (.slice none 0 0) zeroT) 57) = x2 at *
                  obtain ⟨p, hpn⟩ : ∃ g, x1.heap.size = g := ⟨_, rfl⟩
                  simp only [hpn] at D hp ⊢
                  clear hpn
                  refine wpAnyH_ready (rs := [15]) (by kernel_rfl) (by simp) ?_
                  refine AllReadyH.cons (o := ⟨_, _, _, _, _, _⟩) rfl (fun K' hK' => ?_) (AllReadyH.nil)
                  · refine (if_pos (by rfl)).mpr ?_
                    go_simp
                    change K' _ (World.alloc _ (Obj.cells (rpA zeroR) 51))
                    have E := heap_alloc_new x2 (Obj.cells (rpA zeroR) 51)
                    have hpq := lt_blk D
                    have D := tr_al (Obj.cells (rpA zeroR) 51) D
                    have ho := owns_bl ho (blw _ (Obj.cells (rpA zeroR) 51))
                    have hb := hb.trans ((blw _ (Obj.cells (rpA zeroR) 51)).mono hz)
                    have hq : B ≤ x2.heap.size := hz
                    have hz := Nat.le_trans hz (blw x2 (Obj.cells (rpA zeroR) 51)).size
                    refine hK'.out _ _ hb (fun _ => ?_)
                    generalize x2.alloc (Obj.cells (rpA zeroR) 51) = x3 at *
                    obtain ⟨q, hqn⟩ : ∃ g, x2.heap.size = g := ⟨_, rfl⟩
                    simp only [hqn] at E hq hpq ⊢
                    clear hqn
                    refine wpAnyH_ready (rs := [16]) (by kernel_rfl) (by simp) ?_
                    refine AllReadyH.cons (o := ⟨_, _, _, _, _, _⟩) rfl (fun K' hK' => ?_) (AllReadyH.nil)
                    refine (if_pos (by rfl)).mpr ?_
                    refine wp_stB 57 _ _ ?_
                    have D0 := D
                    refine ⟨_, _, _, ⟨_, _, _, Try.sizeOf57, rfl, D, imA_over _ _ _ _ _ 0 (.slice none 0 0) zeroT⟩, ?_⟩
                    intro y1 D1 g1
                    have E1 := tr_st g1 E (by omega)
                    have ho1 := owns_ne ho g1 D0 (by decide)
                    have hb1 := bl_st hb g1 hz hp
                    have hz1 := Nat.le_trans hz g1.size
                    refine hK'.out _ _ hb1 (fun _ => ?_)
                    refine wpAnyH_ready (rs := [17]) (by kernel_rfl) (by simp) ?_
                    refine AllReadyH.cons (o := ⟨_, _, _, _, _, _⟩) rfl (fun K' hK' => ?_) (AllReadyH.nil)
                    refine (if_pos (by rfl)).mpr ?_
                    refine wp_stB 51 _ _ ?_
                    have E2 := E1
                    refine ⟨_, _, _, ⟨_, _, _, Try.sizeOf51, rfl, E1, rpA_over _ zeroR⟩, ?_⟩
                    intro y2 F g2
                    have D2 := tr_st g2 D1 (by omega)
                    have ho2 := owns_ne ho1 g2 E2 (by decide)
                    have hb2 := bl_st hb1 g2 hz1 hq
                    refine hK'.out _ _ hb2 (fun _ => ?_)
                    refine wpAnyH_take (i := 18) (oi := ⟨_, _, _, _, _, _⟩) (v := ?_) rfl (by kernel_rfl) (by kernel_rfl) (by kernel_rfl) (fun _ _ _ h => h) (Or.inl ⟨by rfl, ?_⟩) (by assumption) ?_
                    rotate_left
                    · intro wS hSw
                      go_simp; (try with_reducible rfl)
                    (try simp only [Act.put])
                    (try simp only [List.setIfInBounds_toArray])
                    (try simp only [List.set_cons_succ])
                    (try simp only [List.set_cons_zero])
                    refine wpAnyH_done (by kernel_rfl) ?_ _
                    go_wp2
                    go_meet
                    rw [HBB.out]
                    exact ⟨p, q, a2, c2, rfl, rfl, rfl, D2, F, ho2, hp, hq, hb2⟩
                · refine (if_pos (by rfl)).mpr ?_
                  go_simp
                  change K' _ (World.alloc _ (Obj.cells (rpA zeroR) 51))
                  have E := heap_alloc_new x1 (Obj.cells (rpA zeroR) 51)
                  have ho := owns_bl ho (blw _ (Obj.cells (rpA zeroR) 51))
                  have hb := hb.trans ((blw _ (Obj.cells (rpA zeroR) 51)).mono hz)
                  have hq : B ≤ x1.heap.size := hz
                  have hz := Nat.le_trans hz (blw x1 (Obj.cells (rpA zeroR) 51)).size
                  refine hK'.out _ _ hb (fun _ => ?_)
                  generalize x1.alloc (Obj.cells (rpA zeroR) 51) = x4 at *
                  obtain ⟨q, hqn⟩ : ∃ g, x1.heap.size = g := ⟨_, rfl⟩
                  simp only [hqn] at E hq ⊢
                  clear hqn
                  refine wpAnyH_ready (rs := [14]) (by kernel_rfl) (by simp) ?_
                  refine AllReadyH.cons (o := ⟨_, _, _, _, _, _⟩) rfl (fun K' hK' => ?_) (AllReadyH.nil)
                  · refine (if_pos (by rfl)).mpr ?_
                    go_simp
                    change K' _ (World.alloc _ (Obj.cells (imA 0 (.slice none 0 0) zeroT) 57))
                    have D := heap_alloc_new x4 (Obj.cells (imA 0 (.slice none 0 0) zeroT) 57)
                    have hpq := lt_blk E
                    have E := tr_al (Obj.cells (imA 0 (.slice none 0 0) zeroT) 57) E
                    have ho := owns_bl ho (blw _ (Obj.cells (imA 0 (.slice none 0 0) zeroT) 57))
                    have hb := hb.trans ((blw _ (Obj.cells (imA 0 (.slice none 0 0) zeroT) 57)).mono hz)
                    have hp : B ≤ x4.heap.size := hz
                    have hz := Nat.le_trans hz (blw x4 (Obj.cells (imA 0 (.slice none 0 0) zeroT) 57)).size
                    refine hK'.out _ _ hb (fun _ => ?_)
                    generalize x4.alloc (Obj.cells (imA 0 (.slice none 0 0) zeroT) 57) = x5 at *
                    obtain ⟨p, hpn⟩ : ∃ g, x4.heap.size = g := ⟨_, rfl⟩
                    simp only [hpn] at D hp hpq ⊢
                    clear hpn
                    refine wpAnyH_ready (rs := [16]) (by kernel_rfl) (by simp) ?_
                    refine AllReadyH.cons (o := ⟨_, _, _, _, _, _⟩) rfl (fun K' hK' => ?_) (AllReadyH.nil)
                    refine (if_pos (by rfl)).mpr ?_
                    refine wp_stB 57 _ _ ?_
                    have D0 := D
                    refine ⟨_, _, _, ⟨_, _, _, Try.sizeOf57, rfl, D, imA_over _ _ _ _ _ 0 (.slice none 0 0) zeroT⟩, ?_⟩
                    intro y1 D1 g1
                    have E1 := tr_st g1 E (by omega)
                    have ho1 := owns_ne ho g1 D0 (by decide)
                    have hb1 := bl_st hb g1 hz hp
                    have hz1 := Nat.le_trans hz g1.size
                    refine hK'.out _ _ hb1 (fun _ => ?_)
                    refine wpAnyH_ready (rs := [17]) (by kernel_rfl) (by simp) ?_
                    refine AllReadyH.cons (o := ⟨_, _, _, _, _, _⟩) rfl (fun K' hK' => ?_) (AllReadyH.nil)
                    refine (if_pos (by rfl)).mpr ?_
                    refine wp_stB 51 _ _ ?_
                    have E2 := E1
                    refine ⟨_, _, _, ⟨_, _, _, Try.sizeOf51, rfl, E1, rpA_over _ zeroR⟩, ?_⟩
                    intro y2 F g2
                    have D2 := tr_st g2 D1 (by omega)
                    have ho2 := owns_ne ho1 g2 E2 (by decide)
                    have hb2 := bl_st hb1 g2 hz1 hq
                    refine hK'.out _ _ hb2 (fun _ => ?_)
                    refine wpAnyH_take (i := 18) (oi := ⟨_, _, _, _, _, _⟩) (v := ?_) rfl (by kernel_rfl) (by kernel_rfl) (by kernel_rfl) (fun _ _ _ h => h) (Or.inl ⟨by rfl, ?_⟩) (by assumption) ?_
                    rotate_left
                    · intro wS hSw
                      go_simp; (try with_reducible rfl)
                    (try simp only [Act.put])
                    (try simp only [List.setIfInBounds_toArray])
                    (try simp only [List.set_cons_succ])
                    (try simp only [List.set_cons_zero])
                    refine wpAnyH_done (by kernel_rfl) ?_ _
                    go_wp2
                    go_meet
                    rw [HBB.out]
                    exact ⟨p, q, a2, c2, rfl, rfl, rfl, D2, F, ho2, hp, hq, hb2⟩
              · refine (if_pos (by rfl)).mpr ?_
                go_simp
                change K' _ (World.alloc _ (Obj.cells (imA 0 (.slice none 0 0) zeroT) 57))
                have D := heap_alloc_new x0 (Obj.cells (imA 0 (.slice none 0 0) zeroT) 57)
                have hb := hb.trans ((blw _ (Obj.cells (imA 0 (.slice none 0 0) zeroT) 57)).mono hz)
                have hp : B ≤ x0.heap.size := hz
                have hz := Nat.le_trans hz (blw x0 (Obj.cells (imA 0 (.slice none 0 0) zeroT) 57)).size
                refine hK'.out _ _ hb (fun _ => ?_)
                generalize x0.alloc (Obj.cells (imA 0 (.slice none 0 0) zeroT) 57) = x6 at *
                obtain ⟨p, hpn⟩ : ∃ g, x0.heap.size = g := ⟨_, rfl⟩
                simp only [hpn] at D hp ⊢
                clear hpn
                refine wpAnyH_ready (rs := [9, 15]) (by kernel_rfl) (by simp) ?_
                refine AllReadyH.cons (o := ⟨_, _, _, _, _, _⟩) rfl (fun K' hK' => ?_) (AllReadyH.cons (o := ⟨_, _, _, _, _, _⟩) rfl (fun K' hK' => ?_) (AllReadyH.nil))
                · refine (if_pos (by rfl)).mpr ?_
                  go_simp
                  refine (hA x6 (HB2 _ hb)).mono ?_
                  rintro en x7 ⟨⟨a2, c2, rfl, ho⟩, hbk⟩
                  have ho := owns_mono ho hz
                  have hb := hb.trans (hbk.mono hz)
                  have hz := Nat.le_trans hz hbk.size
                  have D := tr_bl hbk D
                  clear hbk
                  refine hK'.out _ _ hb (fun _ => ?_)
                  refine wpAnyH_take (i := 10) (oi := ⟨_, _, _, _, _, _⟩) (v := ?_) rfl (by kernel_rfl) (by kernel_rfl) (by kernel_rfl) (fun _ _ _ h => h) (Or.inl ⟨by rfl, ?_⟩) (by assumption) ?_
                  rotate_left
                  · intro wS hSw
                    go_simp; (try with_reducible rfl)
                  (try simp only [Act.put])
                  (try simp only [List.setIfInBounds_toArray])
                  (try simp only [List.set_cons_succ])
                  (try simp only [List.set_cons_zero])
                  refine wpAnyH_take (i := 11) (oi := ⟨_, _, _, _, _, _⟩) (v := ?_) rfl (by kernel_rfl) (by kernel_rfl) (by kernel_rfl) (fun _ _ _ h => h) (Or.inl ⟨by rfl, ?_⟩) (by assumption) ?_
                  rotate_left
                  · intro wS hSw
                    go_simp; (try with_reducible rfl)
                  (try simp only [Act.put])
                  (try simp only [List.setIfInBounds_toArray])
                  (try simp only [List.set_cons_succ])
                  (try simp only [List.set_cons_zero])
                  refine wpAnyH_take (i := 12) (oi := ⟨_, _, _, _, _, _⟩) (v := ?_) rfl (by kernel_rfl) (by kernel_rfl) (by kernel_rfl) (fun _ _ _ h => h) (Or.inl ⟨by rfl, ?_⟩) (by assumption) ?_
                  rotate_left
                  · intro wS hSw
                    go_simp; (try with_reducible rfl)
                  (try simp only [Act.put])
                  (try simp only [List.setIfInBounds_toArray])
                  (try simp only [List.set_cons_succ])
                  (try simp only [List.set_cons_zero])
                  refine wpAnyH_take (i := 13) (oi := ⟨_, _, _, _, _, _⟩) (v := ?_) rfl (by kernel_rfl) (by kernel_rfl) (by kernel_rfl) (fun _ _ _ h => h) (Or.inl ⟨by rfl, ?_⟩) (by assumption) ?_
                  rotate_left
                  · intro wS hSw
                    go_simp; (try with_reducible rfl)
                  (try simp only [Act.put])
                  (try simp only [List.setIfInBounds_toArray])
                  (try simp only [List.set_cons_succ])
                  (try simp only [List.set_cons_zero])
                  refine wpAnyH_ready (rs := [15]) (by kernel_rfl) (by simp) ?_
                  refine AllReadyH.cons (o := ⟨_, _, _, _, _, _⟩) rfl (fun K' hK' => ?_) (AllReadyH.nil)
                  · refine (if_pos (by rfl)).mpr ?_
                    go_simp
                    change K' _ (World.alloc _ (Obj.cells (rpA zeroR) 51))
                    have E := heap_alloc_new x7 (Obj.cells (rpA zeroR) 51)
                    have hpq := lt_blk D
                    have D := tr_al (Obj.cells (rpA zeroR) 51) D
                    have ho := owns_bl ho (blw _ (Obj.cells (rpA zeroR) 51))
                    have hb := hb.trans ((blw _ (Obj.cells (rpA zeroR) 51)).mono hz)
                    have hq : B ≤ x7.heap.size := hz
                    have hz := Nat.le_trans hz (blw x7 (Obj.cells (rpA zeroR) 51)).size
                    refine hK'.out _ _ hb (fun _ => ?_)
                    generalize x7.alloc (Obj.cells (rpA zeroR) 51) = x8 at *
                    obtain ⟨q, hqn⟩ : ∃ g, x7.heap.size = g := ⟨_, rfl⟩
                    simp only [hqn] at E hq hpq ⊢
                    clear hqn
                    refine wpAnyH_ready (rs := [16]) (by kernel_rfl) (by simp) ?_
                    refine AllReadyH.cons (o := ⟨_, _, _, _, _, _⟩) rfl (fun K' hK' => ?_) (AllReadyH.nil)
                    refine (if_pos (by rfl)).mpr ?_
                    refine wp_stB 57 _ _ ?_
                    have D0 := D
                    refine ⟨_, _, _, ⟨_, _, _, Try.sizeOf57, rfl, D, imA_over _ _ _ _ _ 0 (.slice none 0 0) zeroT⟩, ?_⟩
                    intro y1 D1 g1
                    have E1 := tr_st g1 E (by omega)
                    have ho1 := owns_ne ho g1 D0 (by decide)
                    have hb1 := bl_st hb g1 hz hp
                    have hz1 := Nat.le_trans hz g1.size
                    refine hK'.out _ _ hb1 (fun _ => ?_)
                    refine wpAnyH_ready (rs := [17]) (by kernel_rfl) (by simp) ?_
                    refine AllReadyH.cons (o := ⟨_, _, _, _, _, _⟩) rfl (fun K' hK' => ?_) (AllReadyH.nil)
                    refine (if_pos (by rfl)).mpr ?_
                    refine wp_stB 51 _ _ ?_
                    have E2 := E1
                    refine ⟨_, _, _, ⟨_, _, _, Try.sizeOf51, rfl, E1, rpA_over _ zeroR⟩, ?_⟩
                    intro y2 F g2
                    have D2 := tr_st g2 D1 (by omega)
                    have ho2 := owns_ne ho1 g2 E2 (by decide)
                    have hb2 := bl_st hb1 g2 hz1 hq
                    refine hK'.out _ _ hb2 (fun _ => ?_)
                    refine wpAnyH_take (i := 18) (oi := ⟨_, _, _, _, _, _⟩) (v := ?_) rfl (by kernel_rfl) (by kernel_rfl) (by kernel_rfl) (fun _ _ _ h => h) (Or.inl ⟨by rfl, ?_⟩) (by assumption) ?_
                    rotate_left
                    · intro wS hSw
                      go_simp; (try with_reducible rfl)
                    (try simp only [Act.put])
                    (try simp only [List.setIfInBounds_toArray])
                    (try simp only [List.set_cons_succ])
                    (try simp only [List.set_cons_zero])
                    refine wpAnyH_done (by kernel_rfl) ?_ _
                    go_wp2
                    go_meet
                    rw [HBB.out]
                    exact ⟨p, q, a2, c2, rfl, rfl, rfl, D2, F, ho2, hp, hq, hb2⟩
                · refine (if_pos (by rfl)).mpr ?_
                  go_simp
                  change K' _ (World.alloc _ (Obj.cells (rpA zeroR) 51))
                  have E := heap_alloc_new x6 (Obj.cells (rpA zeroR) 51)
                  have hpq := lt_blk D
                  have D := tr_al (Obj.cells (rpA zeroR) 51) D
                  have hb := hb.trans ((blw _ (Obj.cells (rpA zeroR) 51)).mono hz)
                  have hq : B ≤ x6.heap.size := hz
                  have hz := Nat.le_trans hz (blw x6 (Obj.cells (rpA zeroR) 51)).size
                  refine hK'.out _ _ hb (fun _ => ?_)
                  generalize x6.alloc (Obj.cells (rpA zeroR) 51) = x9 at *
                  obtain ⟨q, hqn⟩ : ∃ g, x6.heap.size = g := ⟨_, rfl⟩
                  simp only [hqn] at E hq hpq ⊢
                  clear hqn
                  refine wpAnyH_ready (rs := [9]) (by kernel_rfl) (by simp) ?_
                  refine AllReadyH.cons (o := ⟨_, _, _, _, _, _⟩) rfl (fun K' hK' => ?_) (AllReadyH.nil)
                  · refine (if_pos (by rfl)).mpr ?_
                    go_simp
                    refine (hA x9 (HB2 _ hb)).mono ?_
                    rintro en x10 ⟨⟨a2, c2, rfl, ho⟩, hbk⟩
                    have ho := owns_mono ho hz
                    have hb := hb.trans (hbk.mono hz)
                    have hz := Nat.le_trans hz hbk.size
                    have D := tr_bl hbk D
                    have E := tr_bl hbk E
                    clear hbk
                    refine hK'.out _ _ hb (fun _ => ?_)
                    refine wpAnyH_take (i := 10) (oi := ⟨_, _, _, _, _, _⟩) (v := ?_) rfl (by kernel_rfl) (by kernel_rfl) (by kernel_rfl) (fun _ _ _ h => h) (Or.inl ⟨by rfl, ?_⟩) (by assumption) ?_
                    rotate_left
                    · intro wS hSw
                      go_simp; (try with_reducible rfl)
                    (try simp only [Act.put])
                    (try simp only [List.setIfInBounds_toArray])
                    (try simp only [List.set_cons_succ])
                    (try simp only [List.set_cons_zero])
                    refine wpAnyH_take (i := 11) (oi := ⟨_, _, _, _, _, _⟩) (v := ?_) rfl (by kernel_rfl) (by kernel_rfl) (by kernel_rfl) (fun _ _ _ h => h) (Or.inl ⟨by rfl, ?_⟩) (by assumption) ?_
                    rotate_left
                    · intro wS hSw
                      go_simp; (try with_reducible rfl)
                    (try simp only [Act.put])
                    (try simp only [List.setIfInBounds_toArray])
                    (try simp only [List.set_cons_succ])
                    (try simp only [List.set_cons_zero])
                    refine wpAnyH_take (i := 12) (oi := ⟨_, _, _, _, _, _⟩) (v := ?_) rfl (by kernel_rfl) (by kernel_rfl) (by kernel_rfl) (fun _ _ _ h => h) (Or.inl ⟨by rfl, ?_⟩) (by assumption) ?_
                    rotate_left
                    · intro wS hSw
                      go_simp; (try with_reducible rfl)
                    (try simp only [Act.put])
                    (try simp only [List.setIfInBounds_toArray])
                    (try simp only [List.set_cons_succ])
                    (try simp only [List.set_cons_zero])
                    refine wpAnyH_take (i := 13) (oi := ⟨_, _, _, _, _, _⟩) (v := ?_) rfl (by kernel_rfl) (by kernel_rfl) (by kernel_rfl) (fun _ _ _ h => h) (Or.inl ⟨by rfl, ?_⟩) (by assumption) ?_
                    rotate_left
                    · intro wS hSw
                      go_simp; (try with_reducible rfl)
                    (try simp only [Act.put])
                    (try simp only [List.setIfInBounds_toArray])
                    (try simp only [List.set_cons_succ])
                    (try simp only [List.set_cons_zero])
                    refine wpAnyH_ready (rs := [16]) (by kernel_rfl) (by simp) ?_
                    refine AllReadyH.cons (o := ⟨_, _, _, _, _, _⟩) rfl (fun K' hK' => ?_) (AllReadyH.nil)
                    refine (if_pos (by rfl)).mpr ?_
                    refine wp_stB 57 _ _ ?_
                    have D0 := D
                    refine ⟨_, _, _, ⟨_, _, _, Try.sizeOf57, rfl, D, imA_over _ _ _ _ _ 0 (.slice none 0 0) zeroT⟩, ?_⟩
                    intro y1 D1 g1
                    have E1 := tr_st g1 E (by omega)
                    have ho1 := owns_ne ho g1 D0 (by decide)
                    have hb1 := bl_st hb g1 hz hp
                    have hz1 := Nat.le_trans hz g1.size
                    refine hK'.out _ _ hb1 (fun _ => ?_)
                    refine wpAnyH_ready (rs := [17]) (by kernel_rfl) (by simp) ?_
                    refine AllReadyH.cons (o := ⟨_, _, _, _, _, _⟩) rfl (fun K' hK' => ?_) (AllReadyH.nil)
                    refine (if_pos (by rfl)).mpr ?_
                    refine wp_stB 51 _ _ ?_
                    have E2 := E1
                    refine ⟨_, _, _, ⟨_, _, _, Try.sizeOf51, rfl, E1, rpA_over _ zeroR⟩, ?_⟩
                    intro y2 F g2
                    have D2 := tr_st g2 D1 (by omega)
                    have ho2 := owns_ne ho1 g2 E2 (by decide)
                    have hb2 := bl_st hb1 g2 hz1 hq
                    refine hK'.out _ _ hb2 (fun _ => ?_)
                    refine wpAnyH_take (i := 18) (oi := ⟨_, _, _, _, _, _⟩) (v := ?_) rfl (by kernel_rfl) (by kernel_rfl) (by kernel_rfl) (fun _ _ _ h => h) (Or.inl ⟨by rfl, ?_⟩) (by assumption) ?_
                    rotate_left
                    · intro wS hSw
                      go_simp; (try with_reducible rfl)
                    (try simp only [Act.put])
                    (try simp only [List.setIfInBounds_toArray])
                    (try simp only [List.set_cons_succ])
                    (try simp only [List.set_cons_zero])
                    refine wpAnyH_done (by kernel_rfl) ?_ _
                    go_wp2
                    go_meet
                    rw [HBB.out]
                    exact ⟨p, q, a2, c2, rfl, rfl, rfl, D2, F, ho2, hp, hq, hb2⟩
              · refine (if_pos (by rfl)).mpr ?_
                go_simp
                change K' _ (World.alloc _ (Obj.cells (rpA zeroR) 51))
                have E := heap_alloc_new x0 (Obj.cells (rpA zeroR) 51)
                have hb := hb.trans ((blw _ (Obj.cells (rpA zeroR) 51)).mono hz)
                have hq : B ≤ x0.heap.size := hz
                have hz := Nat.le_trans hz (blw x0 (Obj.cells (rpA zeroR) 51)).size
                refine hK'.out _ _ hb (fun _ => ?_)
                generalize x0.alloc (Obj.cells (rpA zeroR) 51) = x11 at *
                obtain ⟨q, hqn⟩ : ∃ g, x0.heap.size = g := ⟨_, rfl⟩
                simp only [hqn] at E hq ⊢
                clear hqn
                refine wpAnyH_ready (rs := [9, 14]) (by kernel_rfl) (by simp) ?_
                refine AllReadyH.cons (o := ⟨_, _, _, _, _, _⟩) rfl (fun K' hK' => ?_) (AllReadyH.cons (o := ⟨_, _, _, _, _, _⟩) rfl (fun K' hK' => ?_) (AllReadyH.nil))
                · refine (if_pos (by rfl)).mpr ?_
                  go_simp
                  refine (hA x11 (HB2 _ hb)).mono ?_
                  rintro en x12 ⟨⟨a2, c2, rfl, ho⟩, hbk⟩
                  have ho := owns_mono ho hz
                  have hb := hb.trans (hbk.mono hz)
                  have hz := Nat.le_trans hz hbk.size
                  have E := tr_bl hbk E
                  clear hbk
                  refine hK'.out _ _ hb (fun _ => ?_)
                  refine wpAnyH_take (i := 10) (oi := ⟨_, _, _, _, _, _⟩) (v := ?_) rfl (by kernel_rfl) (by kernel_rfl) (by kernel_rfl) (fun _ _ _ h => h) (Or.inl ⟨by rfl, ?_⟩) (by assumption) ?_
                  rotate_left
                  · intro wS hSw
                    go_simp; (try with_reducible rfl)
                  (try simp only [Act.put])
                  (try simp only [List.setIfInBounds_toArray])
                  (try simp only [List.set_cons_succ])
                  (try simp only [List.set_cons_zero])
                  refine wpAnyH_take (i := 11) (oi := ⟨_, _, _, _, _, _⟩) (v := ?_) rfl (by kernel_rfl) (by kernel_rfl) (by kernel_rfl) (fun _ _ _ h => h) (Or.inl ⟨by rfl, ?_⟩) (by assumption) ?_
                  rotate_left
                  · intro wS hSw
                    go_simp; (try with_reducible rfl)
                  (try simp only [Act.put])
                  (try simp only [List.setIfInBounds_toArray])
                  (try simp only [List.set_cons_succ])
                  (try simp only [List.set_cons_zero])
                  refine wpAnyH_take (i := 12) (oi := ⟨_, _, _, _, _, _⟩) (v := ?_) rfl (by kernel_rfl) (by kernel_rfl) (by kernel_rfl) (fun _ _ _ h => h) (Or.inl ⟨by rfl, ?_⟩) (by assumption) ?_
                  rotate_left
                  · intro wS hSw
                    go_simp; (try with_reducible rfl)
                  (try simp only [Act.put])
                  (try simp only [List.setIfInBounds_toArray])
                  (try simp only [List.set_cons_succ])
                  (try simp only [List.set_cons_zero])
                  refine wpAnyH_take (i := 13) (oi := ⟨_, _, _, _, _, _⟩) (v := ?_) rfl (by kernel_rfl) (by kernel_rfl) (by kernel_rfl) (fun _ _ _ h => h) (Or.inl ⟨by rfl, ?_⟩) (by assumption) ?_
                  rotate_left
                  · intro wS hSw
                    go_simp; (try with_reducible rfl)
                  (try simp only [Act.put])
                  (try simp only [List.setIfInBounds_toArray])
                  (try simp only [List.set_cons_succ])
                  (try simp only [List.set_cons_zero])
                  refine wpAnyH_ready (rs := [14]) (by kernel_rfl) (by simp) ?_
                  refine AllReadyH.cons (o := ⟨_, _, _, _, _, _⟩) rfl (fun K' hK' => ?_) (AllReadyH.nil)
                  · refine (if_pos (by rfl)).mpr ?_
                    go_simp
                    change K' _ (World.alloc _ (Obj.cells (imA 0 (.slice none 0 0) zeroT) 57))
                    have D := heap_alloc_new x12 (Obj.cells (imA 0 (.slice none 0 0) zeroT) 57)
                    have hpq := lt_blk E
                    have E := tr_al (Obj.cells (imA 0 (.slice none 0 0) zeroT) 57) E
                    have ho := owns_bl ho (blw _ (Obj.cells (imA 0 (.slice none 0 0) zeroT) 57))
                    have hb := hb.trans ((blw _ (Obj.cells (imA 0 (.slice none 0 0) zeroT) 57)).mono hz)
                    have hp : B ≤ x12.heap.size := hz
                    have hz := Nat.le_trans hz (blw x12 (Obj.cells (imA 0 (.slice none 0 0) zeroT) 57)).size
                    refine hK'.out _ _ hb (fun _ => ?_)
                    generalize x12.alloc (Obj.cells (imA 0 (.slice none 0 0) zeroT) 57) = x13 at *
                    obtain ⟨p, hpn⟩ : ∃ g, x12.heap.size = g := ⟨_, rfl⟩
                    simp only [hpn] at D hp hpq ⊢
                    clear hpn
                    refine wpAnyH_ready (rs := [16]) (by kernel_rfl) (by simp) ?_
                    refine AllReadyH.cons (o := ⟨_, _, _, _, _, _⟩) rfl (fun K' hK' => ?_) (AllReadyH.nil)
                    refine (if_pos (by rfl)).mpr ?_
                    refine wp_stB 57 _ _ ?_
                    have D0 := D
                    refine ⟨_, _, _, ⟨_, _, _, Try.sizeOf57, rfl, D, imA_over _ _ _ _ _ 0 (.slice none 0 0) zeroT⟩, ?_⟩
                    intro y1 D1 g1
                    have E1 := tr_st g1 E (by omega)
                    have ho1 := owns_ne ho g1 D0 (by decide)
                    have hb1 := bl_st hb g1 hz hp
                    have hz1 := Nat.le_trans hz g1.size
                    refine hK'.out _ _ hb1 (fun _ => ?_)
                    refine wpAnyH_ready (rs := [17]) (by kernel_rfl) (by simp) ?_
                    refine AllReadyH.cons (o := ⟨_, _, _, _, _, _⟩) rfl (fun K' hK' => ?_) (AllReadyH.nil)
                    refine (if_pos (by rfl)).mpr ?_
                    refine wp_stB 51 _ _ ?_
                    have E2 := E1
                    refine ⟨_, _, _, ⟨_, _, _, Try.sizeOf51, rfl, E1, rpA_over _ zeroR⟩, ?_⟩
                    intro y2 F g2
                    have D2 := tr_st g2 D1 (by omega)
                    have ho2 := owns_ne ho1 g2 E2 (by decide)
                    have hb2 := bl_st hb1 g2 hz1 hq
                    refine hK'.out _ _ hb2 (fun _ => ?_)
                    refine wpAnyH_take (i := 18) (oi := ⟨_, _, _, _, _, _⟩) (v := ?_) rfl (by kernel_rfl) (by kernel_rfl) (by kernel_rfl) (fun _ _ _ h => h) (Or.inl ⟨by rfl, ?_⟩) (by assumption) ?_
                    rotate_left
                    · intro wS hSw
                      go_simp; (try with_reducible rfl)
                    (try simp only [Act.put])
                    (try simp only [List.setIfInBounds_toArray])
                    (try simp only [List.set_cons_succ])
                    (try simp only [List.set_cons_zero])
                    refine wpAnyH_done (by kernel_rfl) ?_ _
                    go_wp2
                    go_meet
                    rw [HBB.out]
                    exact ⟨p, q, a2, c2, rfl, rfl, rfl, D2, F, ho2, hp, hq, hb2⟩
                · refine (if_pos (by rfl)).mpr ?_
                  go_simp
                  change K' _ (World.alloc _ (Obj.cells (imA 0 (.slice none 0 0) zeroT) 57))
                  have D := heap_alloc_new x11 (Obj.cells (imA 0 (.slice none 0 0) zeroT) 57)
                  have hpq := lt_blk E
                  have E := tr_al (Obj.cells (imA 0 (.slice none 0 0) zeroT) 57) E
                  have hb := hb.trans ((blw _ (Obj.cells (imA 0 (.slice none 0 0) zeroT) 57)).mono hz)
                  have hp : B ≤ x11.heap.size := hz
                  have hz := Nat.le_trans hz (blw x11 (Obj.cells (imA 0 (.slice none 0 0) zeroT) 57)).size
                  refine hK'.out _ _ hb (fun _ => ?_)
                  generalize x11.alloc (Obj.cells (imA 0 (.slice none 0 0) zeroT) 57) = x14 at *
                  obtain ⟨p, hpn⟩ : ∃ g, x11.heap.size = g := ⟨_, rfl⟩
                  simp only [hpn] at D hp hpq ⊢
                  clear hpn
                  refine wpAnyH_ready (rs := [9]) (by kernel_rfl) (by simp) ?_
                  refine AllReadyH.cons (o := ⟨_, _, _, _, _, _⟩) rfl (fun K' hK' => ?_) (AllReadyH.nil)
                  · refine (if_pos (by rfl)).mpr ?_
                    go_simp
                    refine (hA x14 (HB2 _ hb)).mono ?_
                    rintro en x15 ⟨⟨a2, c2, rfl, ho⟩, hbk⟩
                    have ho := owns_mono ho hz
                    have hb := hb.trans (hbk.mono hz)
                    have hz := Nat.le_trans hz hbk.size
                    have D := tr_bl hbk D
                    have E := tr_bl hbk E
                    clear hbk
                    refine hK'.out _ _ hb (fun _ => ?_)
                    refine wpAnyH_take (i := 10) (oi := ⟨_, _, _, _, _, _⟩) (v := ?_) rfl (by kernel_rfl) (by kernel_rfl) (by kernel_rfl) (fun _ _ _ h => h) (Or.inl ⟨by rfl, ?_⟩) (by assumption) ?_
                    rotate_left
                    · intro wS hSw
                      go_simp; (try with_reducible rfl)
                    (try simp only [Act.put])
                    (try simp only [List.setIfInBounds_toArray])
                    (try simp only [List.set_cons_succ])
                    (try simp only [List.set_cons_zero])
                    refine wpAnyH_take (i := 11) (oi := ⟨_, _, _, _, _, _⟩) (v := ?_) rfl (by kernel_rfl) (by kernel_rfl) (by kernel_rfl) (fun _ _ _ h => h) (Or.inl ⟨by rfl, ?_⟩) (by assumption) ?_
                    rotate_left
                    · intro wS hSw
                      go_simp; (try with_reducible rfl)
                    (try simp only [Act.put])
                    (try simp only [List.setIfInBounds_toArray])
                    (try simp only [List.set_cons_succ])
                    (try simp only [List.set_cons_zero])
                    refine wpAnyH_take (i := 12) (oi := ⟨_, _, _, _, _, _⟩) (v := ?_) rfl (by kernel_rfl) (by kernel_rfl) (by kernel_rfl) (fun _ _ _ h => h) (Or.inl ⟨by rfl, ?_⟩) (by assumption) ?_
                    rotate_left
                    · intro wS hSw
                      go_simp; (try with_reducible rfl)
                    (try simp only [Act.put])
                    (try simp only [List.setIfInBounds_toArray])
                    (try simp only [List.set_cons_succ])
                    (try simp only [List.set_cons_zero])
                    refine wpAnyH_take (i := 13) (oi := ⟨_, _, _, _, _, _⟩) (v := ?_) rfl (by kernel_rfl) (by kernel_rfl) (by kernel_rfl) (fun _ _ _ h => h) (Or.inl ⟨by rfl, ?_⟩) (by assumption) ?_
                    rotate_left
                    · intro wS hSw
                      go_simp; (try with_reducible rfl)
                    (try simp only [Act.put])
                    (try simp only [List.setIfInBounds_toArray])
                    (try simp only [List.set_cons_succ])
                    (try simp only [List.set_cons_zero])
                    refine wpAnyH_ready (rs := [16]) (by kernel_rfl) (by simp) ?_
                    refine AllReadyH.cons (o := ⟨_, _, _, _, _, _⟩) rfl (fun K' hK' => ?_) (AllReadyH.nil)
                    refine (if_pos (by rfl)).mpr ?_
                    refine wp_stB 57 _ _ ?_
                    have D0 := D
                    refine ⟨_, _, _, ⟨_, _, _, Try.sizeOf57, rfl, D, imA_over _ _ _ _ _ 0 (.slice none 0 0) zeroT⟩, ?_⟩
                    intro y1 D1 g1
                    have E1 := tr_st g1 E (by omega)
                    have ho1 := owns_ne ho g1 D0 (by decide)
                    have hb1 := bl_st hb g1 hz hp
                    have hz1 := Nat.le_trans hz g1.size
                    refine hK'.out _ _ hb1 (fun _ => ?_)
                    refine wpAnyH_ready (rs := [17]) (by kernel_rfl) (by simp) ?_
                    refine AllReadyH.cons (o := ⟨_, _, _, _, _, _⟩) rfl (fun K' hK' => ?_) (AllReadyH.nil)
                    refine (if_pos (by rfl)).mpr ?_
                    refine wp_stB 51 _ _ ?_
                    have E2 := E1
                    refine ⟨_, _, _, ⟨_, _, _, Try.sizeOf51, rfl, E1, rpA_over _ zeroR⟩, ?_⟩
                    intro y2 F g2
                    have D2 := tr_st g2 D1 (by omega)
                    have ho2 := owns_ne ho1 g2 E2 (by decide)
                    have hb2 := bl_st hb1 g2 hz1 hq
                    refine hK'.out _ _ hb2 (fun _ => ?_)
                    refine wpAnyH_take (i := 18) (oi := ⟨_, _, _, _, _, _⟩) (v := ?_) rfl (by kernel_rfl) (by kernel_rfl) (by kernel_rfl) (fun _ _ _ h => h) (Or.inl ⟨by rfl, ?_⟩) (by assumption) ?_
                    rotate_left
                    · intro wS hSw
                      go_simp; (try with_reducible rfl)
                    (try simp only [Act.put])
                    (try simp only [List.setIfInBounds_toArray])
                    (try simp only [List.set_cons_succ])
                    (try simp only [List.set_cons_zero])
                    refine wpAnyH_done (by kernel_rfl) ?_ _
                    go_wp2
                    go_meet
                    rw [HBB.out]
                    exact ⟨p, q, a2, c2, rfl, rfl, rfl, D2, F, ho2, hp, hq, hb2⟩
            obtain ⟨p, q, a2, c2, rfl, rfl, rfl, D9, D10, ho2, hp, hq, hbc⟩ := hcut
            have E5 := tr_bl hbc C5
            have E2 := tr_bl hbc B2r
            have hor2 := owns_bl hor hbc
            have hoC2 := owns_bl hoC hbc
            have hbx : Below M w3 wc := hbr.trans (hbc.mono (Nat.le_of_lt hM6))
            have hMc : M < wc.heap.size := by have := hbc.size; omega
            clear hbc C5 hsk HRC hor hoC B2r hbr
            by_cases h3 : o3 = 0
            · subst h3
              have HN := Lib.hid (hI.out.go HC.out hlt HEQ.out HAP.out)
              clear hI
              go_wp2_with (first
                | ((with_reducible refine wpList_ldB 57 _ ?_); refine ⟨rfl, _, ⟨_, _, _, _, _, Try.isAgg57, Try.sizeOf57, rfl, ‹_›, imA_all _ _ _⟩, ?_⟩)
                | ((first | (with_reducible refine wpList_stB 57 _ _ ?_) | (with_reducible refine wp_stB 57 _ _ ?_)); refine ⟨_, _, _, ⟨_, _, _, Try.sizeOf57, rfl, ‹_›, imA_over _ _ _ _ _ m.idx (.slice ak m.st.length ck) m.tb⟩, ?_⟩; intro wS F2 gS))
              have ho9 := owns_mono (owns_ne ho2 gS E5 (by decide)) (show M ≤ w6.heap.size by omega)
              have hoC9 := owns_ne hoC2 gS E5 (by decide)
              have hb9 := bl_st hbx gS (by omega) (Nat.le_refl _)
              go_roundw
              case rel => exact ⟨i + 1, n + 1, o1, a2, c2, by omega, by go_num, HN, F2, ho9, hoC9, hb9⟩
              case measure => simp [Go.RowKit.intOf]; omega
            · have h3b : (o3 != 0) = true := bne_iff_ne.2 h3
              have HN := Lib.hid (RepI.bad HC.out hlt HEQ.out HAP.out h3)
              have HIT := Lib.hid hI.out.it
              clear hI
              go_wp2
              go_meet
              exact ⟨n, m, ak, ck, HIT.out, HN.out, E5, E2, hor2, hbx⟩
      · obtain rfl : i = C.length := by omega
        go_wp2
        go_meet
        exact ⟨n, m, ak, ck, hI.out.it, hI.out.last HC.out, C5, B2r, hor, hbr⟩
  obtain ⟨n, m, ak, ck, hit, hst, C5, C2, hor, hbc⟩ := hcut
  have HIT := Lib.hid hit
  have HST := Lib.hid hst
  have hbwc : Below N w wc := hbw3.trans (hbc.mono (Nat.le_of_lt hN1))
  refine hK _ _ ?_
  clear hK hit hst hbc
  go_wp2_with (first
    | ((with_reducible refine wpList_ldB 57 _ ?_); refine ⟨rfl, _, ⟨_, _, _, _, _, Try.isAgg57, Try.sizeOf57, rfl, ‹_›, imA_all _ _ _⟩, ?_⟩)
    | ((first | (with_reducible refine wpList_stB 57 _ _ ?_) | (with_reducible refine wp_stB 57 _ _ ?_)); refine ⟨_, _, _, ⟨_, _, _, Try.sizeOf57, rfl, ‹_›, imA_over _ _ _ _ _ 0 (.slice none 0 0) zeroT⟩, ?_⟩; intro wz D4 gz))
  have ho2 := owns_ne hor gz C2 (by decide)
  have hbz := bl_st hbwc gz (by have := lt_blk C2; omega) (Nat.le_refl _)
  refine bodyPost_ret (results_c1 rfl rfl (run_loadVar_all Try.isAgg57 Try.sizeOf57 D4 rfl)) rfl ⟨⟨n, m, ak, ck, rfl, HIT.out, HST.out, SlP.of_own1 ho2⟩, hbz⟩
end Go.Proofs.Ytkkoookmnnmiiaa

namespace Go.Proofs.Ytkkoookmnnmiiaa
open Go.RowKit

theorem sameG {a b : Option Addr} {l m : List Ap} {c d : Nat} {w : World} (ha : Row w a (aps l)) (hb : Row w b (aps m)) (hl : l.length ≤ 1000000000000) (e : l = m) : Calls Try.prog 19 #[.slice a l.length c, .slice b m.length d] w fun e w' => e = .returned (.bool true) ∧ Below w.heap.size w w' := by
  refine (rsame31_any ha hb hl).mono ?_
  rintro e' w' ⟨⟨r, rfl, hr⟩, hbw⟩
  rw [hr.2 e]
  exact ⟨rfl, hbw⟩
theorem rrightG {a : Option Addr} {l : List Ap} {c : Nat} {w : World} (ha : Row w a (aps l)) (hl : l.length ≤ 1000000000000) {g : Bool} (hg : rightJ l = g) : Calls Try.prog 17 #[.slice a l.length c] w fun e w' => e = .returned (.bool g) ∧ Below w.heap.size w w' := by
  subst hg
  exact rright_any ha hl
theorem ragreeG {a : Option Addr} {ls : List PartA} {w : World} (h : PartsA w a ls) (cap : Nat) (hlen : ls.length ≤ 1000000) (hlen2 : ∀ x ∈ ls, x.2.2.length ≤ 1000000) {g : Bool} (hg : agreeJ (flatJ (lstA ls)) = g) : Calls Try.prog 20 #[.slice a ls.length cap] w fun e w' => e = .returned (.bool g) ∧ Below w.heap.size w w' := by
  subst hg
  exact ragree_any h cap hlen hlen2
theorem rfirstG {a : Option Addr} {ls : List PartA} {w : World} (h : PartsA w a ls) (cap : Nat) (hlen : ls.length ≤ 1000) (hlen2 : ∀ x ∈ ls, x.2.2.length ≤ 1000) {g : Int} (hg : firstOdd (flatJ (lstA ls)) = g) : Calls Try.prog 21 #[.slice a ls.length cap] w fun e w' => e = .returned (.int .i64 g) ∧ Below w.heap.size w w' := by
  subst hg
  exact rfirst_any h cap hlen hlen2
theorem setcell_blk {w : World} {g : Nat} {cur : Array Value} {T : TypeId} (h : w.heap[g]? = some (.cells cur T (0, 0))) (o : Nat) (v : Value) : (w.setCell ⟨g, o, none⟩ v).heap[g]? = some (.cells (cur.setIfInBounds o v) T (0, 0)) := by
  obtain ⟨hlt, he⟩ := Array.getElem?_eq_some_iff.1 h
  simp [World.setCell, hlt, Array.getElem_modify, he]
theorem repR_one {f : List Ap} {e1 e2 : Ending} {w1 w2 : World} (h1 : RepR f e1 w1) (h2 : RepR f e2 w2) : ∃ (m : Im) (a : Option Addr) (c : Nat) (a' : Option Addr) (c' : Nat), e1 = .returned (.agg (imA m.idx (.slice a m.st.length c) m.tb)) ∧ e2 = .returned (.agg (imA m.idx (.slice a' m.st.length c') m.tb)) ∧ SlP w1 a c m.st ∧ SlP w2 a' c' m.st ∧ m.st.length ≤ 1000 := by
  obtain ⟨n, m, a, c, e, hi, hs, hp⟩ := h1
  obtain ⟨n', m', a', c', e', hi', hs', hp'⟩ := h2
  obtain ⟨_, rfl⟩ := itJ_one hi hs hi' hs'
  have h8 := (may_spec (mayI_parts (itJ_may hi).1).2.2.1).1
  exact ⟨m, a, c, a', c', e, e', hp, hp', by omega⟩
set_option maxRecDepth 100000 in
set_option maxHeartbeats 8000000 in
theorem tells_law (a : Option Addr) (cap : Nat) (ls : List PartA) (w : World) (hs : PartsA w a ls) (hlen : ls.length ≤ 9223372036854775807) (hok : ∀ x ∈ ls, ∀ y ∈ x.2.2, okI y) :
    Calls Try.prog 6 #[.slice a ls.length cap] w fun e w' => e = .returned (.bool true) ∧ Below w.heap.size w w' := by
  have HOK := Lib.hid hok
  have HS := Lib.hid hs
  have HGR := greatJ_any hs cap hlen (fun x hx => by
    have := (hs.each x hx).le; have := (hs.each x hx).mx; unfold maxLen at *; omega)
  clear hs hok
  go_enter Try.func6, Try.ntmps6
  refine wp_seq_k (fun K hK => ?_)
  have HK := Lib.hid hK
  clear hK
  go_wp2
  refine HK.out _ _ ?_
  clear HK
  refine wp_seq_k (fun K hK => ?_)
  have HK := Lib.hid hK
  clear hK
  go_wp2_with fail
  go_at_call 15
  refine HGR.mono ?_
  rintro e w1 ⟨⟨r, rfl, hr⟩, hw1⟩
  clear HGR
  cases r
  case true =>
    clear HK
    go_wp2
    go_ret
    exact ⟨rfl, hw1⟩
  case false =>
    have h200 := hr rfl
    have HL2 := Lib.hid (show ∀ x ∈ ls, x.2.2.length ≤ 200 from fun x hx => by
      obtain ⟨j, hj, rfl⟩ := List.getElem_of_mem hx
      exact h200.2 j hj)
    have hl200 := h200.1
    clear hr h200
    go_wp2
    refine HK.out _ _ ?_
    clear HK
    refine wp_seq_k (fun K hK => ?_)
    have HK := Lib.hid hK
    clear hK
    go_wp2
    refine HK.out _ _ ?_
    clear HK
    refine wp_seq_k (fun K hK => ?_)
    go_cut [3] (fun v wx => PcR wx w1.heap.size v (lstA ls) ∧ Below w1.heap.size w1 wx)
    case first =>
      go_wp2
      go_loopw [3, 4] (fun t v wr => ∃ k : Nat, k ≤ ls.length ∧ v = .int .i64 k ∧ PcR wr w1.heap.size t ((lstA ls).take k) ∧ Below w1.heap.size w1 wr) (fun _ v _ => ls.length - (Go.RowKit.intOf v).toNat)
      case atStart => exact ⟨0, by omega, rfl, PcR.nil _ _, Below.refl _ _⟩
      case round =>
        obtain ⟨k, hk, rfl, hPc, hbr⟩ := hrel
        by_cases hlt : k < ls.length
        · obtain ⟨xp, hxp⟩ : ∃ x, ls[k]'hlt = x := ⟨_, rfl⟩
          have hwr := hw1.trans (hbr.mono hw1.size)
          obtain ⟨b1, o1, rfl, cx0⟩ := (HS.out.below hwr).at hlt
          have sx0 := (HS.out.below hwr).each _ (List.getElem_mem hlt)
          have lx := HL2.out _ (List.getElem_mem hlt)
          have HTK := Lib.hid (show (lstA ls).take (k + 1) = (lstA ls).take k ++ [xp.2.2] by
            rw [List.take_succ_eq_append_getElem (show k < (lstA ls).length by simpa [lstA] using hlt), ← hxp]
            simp [lstA])
          rw [hxp] at cx0 sx0 lx
          have HXP := Lib.hid hxp
          clear hxp
          obtain ⟨x1, xc, xl⟩ := xp
          simp only at cx0 sx0 lx HTK
          generalize wr = w0 at *
          obtain ⟨LS, hO, hLS, hE, hA⟩ := hPc
          have hLl : LS.length = k := by
            have := congrArg List.length hLS
            unfold lstA at this
            rw [List.length_map, List.length_take, List.length_map] at this
            omega
          have HO := Lib.hid hO
          have HLS := Lib.hid hLS
          have HE := Lib.hid hE
          have HA := Lib.hid hA
          have hL200 : LS.length ≤ 200 := by omega
          have HLL := Lib.hid hLl
          have he0 : (w0.alloc (Obj.cells #[] 36)).ownsRow w0.heap.size 36 8 (.slice (some ⟨w0.heap.size, 0, none⟩) 0 0) 0 [] := owns_empty w0 _ 8
          have hxrow := sx0.row.below0 (blw w0 (Obj.cells #[] 36))
          have cx1 := keepJ (blw w0 (Obj.cells #[] 36)) cx0
          have haps : (aps xl).length = xl.length * 8 := (flat_len apC_len xl).trans (Nat.mul_comm _ _)
          clear hO hLS hE hA hLl
          go_wp2_with (first
            | (at_builtin; refine wpList_append_rowW rfl _ _ 29 36 elA rfl w0.heap.size _ 0 [] rfl he0 x1 xl.length xc (aps xl) rfl haps hxrow (fun u hu => ?_) (by unfold maxLen; omega) (by omega) (by rw [World.size_alloc]; omega) (fun j hj => (he0.lt j hj).1) ?_; (obtain ⟨y, _, hy⟩ := List.mem_flatMap.1 hu; exact ap_one y u hy); intro v2 w2 hA2 hb2; obtain ⟨la, lc, rfl, _⟩ := Row.of_owns hA2)
            | (at_builtin; refine wpList_append1G rfl _ _ 26 29 elSlA rfl w1.heap.size _ LS.length _ rfl (owns_bl HO.out ((blw w0 (Obj.cells #[] 36)).trans hb2)) #[.slice la xl.length lc] rfl (by simp; rfl) 29 rfl (by omega) (by omega) (by have h7 := hbr.size; have h8 := hb2.size; rw [World.size_alloc] at h8; omega) ?_; intro v3 w3 hown3 hg3))
          have hb02 := (blw w0 (Obj.cells #[] 36)).trans hb2
          have hA3 := hA2
          rw [Nat.zero_add, List.nil_append] at hA3
          have hP3 := PcR.snoc (x := (la, lc, xl)) hbr.size HE.out HA.out hb02 hA3 (owns_bl HO.out hb02) hg3 hown3
          rw [HLS.out, ← HTK.out] at hP3
          have HP3 := Lib.hid hP3
          have hb03 : Below w1.heap.size w1 w3 := by
            have h1 := (hbr.trans (hb02.mono hbr.size)).alloc (show w1.heap.size ≤ w2.heap.size by have h7 := hbr.size; have h8 := hb02.size; omega) (Obj.cells #[.slice la xl.length lc] 29)
            exact h1.grown hg3 (by rw [World.size_alloc]; have h7 := hbr.size; have h8 := hb02.size; omega) (fun j e => (HO.out.lt j e).1)
          have hw03 := hw1.trans (hb03.mono hw1.size)
          obtain ⟨ma, mc, LS3, rfl, hPP, hL3⟩ := hP3.parts
          have hl3 : LS3.length = k + 1 := by
            have := congrArg List.length hL3
            rw [List.length_take] at this
            unfold lstA at this
            rw [List.length_map, List.length_map] at this
            omega
          have hk3 : k < LS3.length := by omega
          have hyx : (LS3[k]'hk3).2.2 = xl := by
            have h1 : (lstA LS3)[k]'(by simpa [lstA] using hk3) = (LS3[k]'hk3).2.2 := by simp [lstA]
            have h2 : (lstA LS3)[k]? = some xl := by
              rw [hL3, List.getElem?_take_of_lt (by omega), List.getElem?_eq_getElem (show k < (lstA ls).length by simpa [lstA] using hlt)]
              have h3 : (lstA ls)[k]'(by simpa [lstA] using hlt) = (ls[k]'hlt).2.2 := by simp [lstA]
              rw [h3, HXP.out]
            rw [List.getElem?_eq_getElem (by simpa [lstA] using hk3)] at h2
            injection h2 with h2
            rw [← h1]
            exact h2
          obtain ⟨mb, mo, rfl, cm⟩ := hPP.at hk3
          have hrm := (hPP.each _ (List.getElem_mem hk3)).row
          rw [hyx] at hrm cm
          generalize LS3[k] = yp at *
          have hrx : Row w3 x1 (aps xl) := ((HS.out.below hw03).each _ (List.getElem_mem hlt)).row |> fun h => by rw [HXP.out] at h; exact h
          have cx3 : w3.cell? ⟨b1, o1 + k, none⟩ = some (.slice x1 xl.length xc) := by
            obtain ⟨b5, o5, e5, c5⟩ := (HS.out.below hw03).at hlt
            cases e5
            rw [HXP.out] at c5
            exact c5
          obtain ⟨g, hg⟩ : ∃ g, rightJ xl = g := ⟨_, rfl⟩
          have HG := Lib.hid hg
          have hgg : (g != g) = false := by simp
          have U1 := under_cell cm
          have U2 := under_cell cx3
          have R1 := under_row hrm
          have R2 := under_row hrx
          clear hg hPP hL3 hl3 hyx hP3 hA3 hA2 hown3 hg3 he0 hxrow cx1 cx0 sx0 hb2 cm cx3 hrm hrx
          refine wp_region_under (by kernel_rfl) (by kernel_rfl) ?_
          repeat (go_big_quiet_step ((first
                      | (go_at_call 11; exact under_call (rightG (R1 _) (by omega) HG.out))
                      | (go_at_call 17; exact under_call (rrightG (R2 _) (by omega) HG.out)))))
          refine wpQuiet_nil ?_
          intro _ hw'
          obtain ⟨xU, hw''⟩ := hw'
          subst hw''
          have hbU := under_below w3 xU
          go_wp2
          go_roundw
          case rel => exact ⟨k + 1, by omega, by go_num, HP3.out.below hbU, hb03.trans (hbU.mono hb03.size)⟩
          case measure => simp [Go.RowKit.intOf]; omega
        · obtain rfl : k = ls.length := by omega
          have hPf := hPc
          rw [List.take_of_length_le (by simp [lstA])] at hPf
          go_wp2
          go_meet
          exact ⟨hPf, hbr⟩
    obtain ⟨hPc, hbc⟩ := hcut
    obtain ⟨ma, mc, LM, rfl, hPM, hLM⟩ := hPc.parts
    have hlm : LM.length ≤ 200 := by
      have := congrArg List.length hLM
      unfold lstA at this
      rw [List.length_map, List.length_map] at this
      omega
    have hmem : ∀ x ∈ LM, ∃ y ∈ ls, y.2.2 = x.2.2 := fun x hx => by
      have h1 : x.2.2 ∈ lstA ls := by rw [← hLM]; exact List.mem_map.2 ⟨x, hx, rfl⟩
      obtain ⟨y, hy, e⟩ := List.mem_map.1 h1
      exact ⟨y, hy, e⟩
    have HML := Lib.hid (show ∀ x ∈ LM, x.2.2.length ≤ 200 from fun x hx => by
      obtain ⟨y, hy, e⟩ := hmem x hx
      rw [← e]
      exact HL2.out y hy)
    have HMO := Lib.hid (show ∀ x ∈ LM, ∀ u ∈ x.2.2, okI u from fun x hx => by
      obtain ⟨y, hy, e⟩ := hmem x hx
      rw [← e]
      exact HOK.out y hy)
    have HMM := Lib.hid (show ∀ x ∈ LM, x.2.2.length ≤ 1000000 from fun x hx => by have := HML.out x hx; omega)
    have HLB := Lib.hid (show ∀ x ∈ ls, x.2.2.length ≤ 1000 from fun x hx => by have := HL2.out x hx; omega)
    have HLC := Lib.hid (show ∀ x ∈ ls, x.2.2.length ≤ 1000000 from fun x hx => by have := HL2.out x hx; omega)
    have HPM := Lib.hid hPM
    have HLM := Lib.hid hLM
    have hwc := hw1.trans (hbc.mono hw1.size)
    clear hPc hPM hLM hmem hbc
    refine hK _ _ ?_
    clear hK
    obtain ⟨C, hC⟩ : ∃ C, chosenJ (flatJ (lstA ls)) = C := ⟨_, rfl⟩
    refine wp_seq_k (fun K hK => ?_)
    have HK := Lib.hid hK
    clear hK
    go_wp2_with (go_at_call 18; refine (rchosen_any (HS.out.below hwc) cap (by omega) HLB.out hC).mono ?_; rintro e w2 ⟨⟨wa, wcap, rfl, hWo⟩, hb2⟩)
    refine HK.out _ _ ?_
    clear HK
    have hCB : C.length ≤ 1000000000000 := by
      rw [← hC]
      exact chosen_bound (by omega) HLC.out
    obtain ⟨_, _, hv, hW, _⟩ := Row.of_owns hWo
    cases hv
    have hw2 := hwc.trans (hb2.mono hwc.size)
    have hCH := fun w' (hb : Below w2.heap.size w2 w') => chosen_any (HPM.out.below (hb2.trans (hb.mono hb2.size))) mc (by omega) HMM.out HMO.out
    rw [HLM.out, hC] at hCH
    have HC := Lib.hid hC
    clear hC hWo
    refine wp_seq_k (fun K hK => ?_)
    go_cut [6] (fun v wx => Below w2.heap.size w2 wx)
    case first =>
      go_wp2
      go_loopw [6] (fun v wr => ∃ k : Nat, k ≤ 2 ∧ v = .int .i64 k ∧ Below w2.heap.size w2 wr) (fun v _ => 2 - (Go.RowKit.intOf v).toNat)
      case atStart => exact ⟨0, by omega, rfl, Below.refl _ _⟩
      case round =>
        obtain ⟨k, hk, rfl, hbr⟩ := hrel
        by_cases hlt : k < 2
        · go_wp2_with fail
          go_at_call 12
          refine (hCH wr hbr).mono ?_
          rintro e w4 ⟨v4, rfl, hown4, hb4⟩
          obtain ⟨cA, cc, rfl, hRc, _⟩ := Row.of_owns hown4
          have hb24 := hbr.trans (hb4.mono hbr.size)
          go_wp2_with fail
          go_at_call 19
          refine (sameG hRc (hW.below0 hb24) (by omega) rfl).mono ?_
          rintro e w5 ⟨rfl, hb5⟩
          have hb25 := hb24.trans (hb5.mono hb24.size)
          have hown5 := owns_bl hown4 hb5
          have hOC : C.length = 0 ∨ ∃ g cur, cA = some ⟨g, 0, none⟩ ∧ w2.heap.size ≤ g ∧ w5.heap[g]? = some (.cells cur 36 (0, 0)) ∧ C.length * 8 ≤ cur.size := by
            rcases hown5.2 with ⟨_, h0⟩ | ⟨g, cap5, cur, hv, hg, hh, h1, h2, h3, _⟩
            · exact .inl h0
            · injection hv with e1 _ e3
              exact .inr ⟨g, cur, e1, Nat.le_trans hbr.size hg, hh, by rw [h3]; exact Nat.mul_le_mul_right _ h1⟩
          have HOC := Lib.hid hOC
          clear hOC hown5 hown4 hRc hb4 hb5 hb24 hbr
          generalize wr = w3 at *
          go_wp2
          go_loopw [8] (fun v wr => ∃ j : Nat, j ≤ C.length ∧ v = .int .i64 j ∧ Hid (C.length = 0 ∨ ∃ g cur, cA = some ⟨g, 0, none⟩ ∧ w2.heap.size ≤ g ∧ wr.heap[g]? = some (.cells cur 36 (0, 0)) ∧ C.length * 8 ≤ cur.size) ∧ Below w2.heap.size w2 wr) (fun v _ => C.length - (Go.RowKit.intOf v).toNat)
          case atStart => exact ⟨0, by omega, rfl, HOC, hb25⟩
          case round =>
            obtain ⟨j, hj, rfl, hO, hbr⟩ := hrel
            by_cases hltj : j < C.length
            · rcases hO.out with h0 | ⟨g, cur, rfl, hg, hh, hsz⟩
              · omega
              · have hcell : wr.cell? ⟨g, j * 8, none⟩ = some (cur[j * 8]'(by omega)) := blk_cell hh (j * 8) _ (by rw [Array.getElem?_eq_getElem])
                have hfr := blk_frozen hh (j * 8)
                have HNX := Lib.hid (show C.length = 0 ∨ ∃ g' cur', (some (⟨g, 0, none⟩ : Addr)) = some ⟨g', 0, none⟩ ∧ w2.heap.size ≤ g' ∧ (wr.setCell ⟨g, j * 8, none⟩ (.int .i64 (-5))).heap[g']? = some (.cells cur' 36 (0, 0)) ∧ C.length * 8 ≤ cur'.size from .inr ⟨g, _, rfl, hg, setcell_blk hh _ _, by rw [Array.size_setIfInBounds]; exact hsz⟩)
                have hbs : Below w2.heap.size w2 (wr.setCell ⟨g, j * 8, none⟩ (.int .i64 (-5))) := hbr.setCell (p := ⟨g, j * 8, none⟩) hg _
                clear hO hh
                generalize cur[j * 8]'(by omega) = cv at *
                go_wp2
                go_roundw
                case rel => exact ⟨j + 1, by omega, by go_num, HNX, hbs⟩
                case measure => simp [Go.RowKit.intOf]; omega
            · obtain rfl : j = C.length := by omega
              go_wp2
              go_roundw
              case rel => exact ⟨k + 1, by omega, by go_num, hbr⟩
              case measure => simp [Go.RowKit.intOf]; omega
        · go_wp2
          go_meet
          exact hbr
    have hb26 := hb2.trans (hcut.mono hb2.size)
    have hw6 := hw2.trans (hcut.mono hw2.size)
    have HPM6 := Lib.hid (HPM.out.below hb26)
    have HPL6 := Lib.hid (HS.out.below hw6)
    refine hK _ _ ?_
    clear hK hcut hb26 hb2 hCH hW hw2
    generalize wc = w6 at *
    go_wp2
    go_loopw [9] (fun v wr => ∃ k : Nat, k ≤ ls.length ∧ v = .int .i64 k ∧ Below w6.heap.size w6 wr) (fun v _ => ls.length - (Go.RowKit.intOf v).toNat)
    case atStart => exact ⟨0, by omega, rfl, Below.refl _ _⟩
    case round =>
      obtain ⟨k, hk, rfl, hbr⟩ := hrel
      by_cases hlt : k < ls.length
      · have hl3 : LM.length = ls.length := by
          have := congrArg List.length HLM.out
          unfold lstA at this
          rw [List.length_map, List.length_map] at this
          exact this
        have hkM : k < LM.length := by omega
        have hyx : (LM[k]'hkM).2.2 = (ls[k]'hlt).2.2 := by
          have h1 : (lstA LM)[k]'(by simpa [lstA] using hkM) = (LM[k]'hkM).2.2 := by simp [lstA]
          have h2 : (lstA ls)[k]'(by simpa [lstA] using hlt) = (ls[k]'hlt).2.2 := by simp [lstA]
          rw [← h1, ← h2]
          simp only [HLM.out]
        obtain ⟨mb, mo, rfl, cm⟩ := (HPM6.out.below hbr).at hkM
        obtain ⟨lb, lo, rfl, cl⟩ := (HPL6.out.below hbr).at hlt
        have hrm := ((HPM6.out.below hbr).each _ (List.getElem_mem hkM)).row
        have hrl := ((HPL6.out.below hbr).each _ (List.getElem_mem hlt)).row
        have hll := HL2.out _ (List.getElem_mem hlt)
        rw [hyx] at hrm cm
        generalize LM[k] = yp at *
        generalize ls[k] = xp at *
        obtain ⟨x1, xc, xl⟩ := xp
        obtain ⟨y1, yc, yl⟩ := yp
        simp only at cm cl hrm hrl hll
        have U1 := under_cell cm
        have U2 := under_cell cl
        have R1 := under_row hrm
        have R2 := under_row hrl
        clear hyx hl3 cm cl hrm hrl
        go_wp2
        refine wp_region_under (by kernel_rfl) (by kernel_rfl) ?_
        repeat (go_big_quiet_step ((go_at_call 19; exact under_call (sameG (R1 _) (R2 _) (by omega) rfl))))
        refine wpQuiet_nil ?_
        intro _ hw'
        obtain ⟨xU, hw''⟩ := hw'
        subst hw''
        have hbU := under_below wr xU
        go_wp2
        go_roundw
        case rel => exact ⟨k + 1, by omega, by go_num, hbr.trans (hbU.mono hbr.size)⟩
        case measure => simp [Go.RowKit.intOf]; omega
      · obtain rfl : k = ls.length := by omega
        generalize wr = w7 at *
        have HPM7 := Lib.hid (HPM6.out.below hbr)
        have HPL7 := Lib.hid (HPL6.out.below hbr)
        have hw7 := hw6.trans (hbr.mono hw6.size)
        obtain ⟨g, hg⟩ : ∃ g, agreeJ (flatJ (lstA ls)) = g := ⟨_, rfl⟩
        obtain ⟨f0, hf0⟩ : ∃ f, firstOdd (flatJ (lstA ls)) = f := ⟨_, rfl⟩
        have CA := fun w' (hb : Below w7.heap.size w7 w') => agreeG (HPM7.out.below hb) mc (by omega) HMM.out HMO.out (g := g) (by rw [HLM.out]; exact hg)
        have CF := fun w' (hb : Below w7.heap.size w7 w') => firstG (HPM7.out.below hb) mc (by omega) HMM.out HMO.out (g := f0) (by rw [HLM.out]; exact hf0)
        have CR := fun w' (hb : Below w7.heap.size w7 w') => replay_any (HPM7.out.below hb) mc (by omega) HMM.out HMO.out
        rw [HLM.out] at CR
        have RA := fun w' (hb : Below w7.heap.size w7 w') => ragreeG (HPL7.out.below hb) cap (by omega) HLC.out hg
        have RF := fun w' (hb : Below w7.heap.size w7 w') => rfirstG (HPL7.out.below hb) cap (by omega) HLB.out hf0
        have RR := fun w' (hb : Below w7.heap.size w7 w') => rreplay_any (HPL7.out.below hb) cap (by omega) HLB.out
        have hgg : (g == g) = true := by simp
        clear hg hf0 hbr
        go_wp2_with fail
        go_at_call 13
        refine (CA w7 (Below.refl _ _)).mono ?_
        rintro e wA ⟨rfl, hA⟩
        go_wp2_with fail
        go_at_call 20
        refine (RA wA hA).mono ?_
        rintro e wB ⟨rfl, hB0⟩
        have hB := hA.trans (hB0.mono hA.size)
        go_wp2_with fail
        go_at_call 14
        refine (CF wB hB).mono ?_
        rintro e wC ⟨rfl, hC0⟩
        have hC := hB.trans (hC0.mono hB.size)
        go_wp2_with fail
        go_at_call 21
        refine (RF wC hC).mono ?_
        rintro e wD ⟨rfl, hD0⟩
        have hD := hC.trans (hD0.mono hC.size)
        clear hA hB0 hB hC0 hC hD0
        go_wp2_with fail
        go_at_call 23
        refine (CR wD hD).mono ?_
        rintro e wE ⟨⟨n, m, ra, rc, rfl, hi1, hs1, hp1⟩, hE0⟩
        have hE := hD.trans (hE0.mono hD.size)
        go_wp2_with fail
        go_at_call 24
        refine (RR wE hE).mono ?_
        rintro e wF ⟨⟨n', m', ra', rc', rfl, hi2, hs2, hp2⟩, hF0⟩
        have hF := hE.trans (hF0.mono hE.size)
        obtain ⟨_, rfl⟩ := itJ_one hi1 hs1 hi2 hs2
        have hm8 : m.st.length ≤ 1000 := by
          have := (may_spec (mayI_parts (itJ_may hi1).1).2.2.1).1
          omega
        have hp1 := hp1.below hF0
        clear hi1 hi2 hs1 hs2 hE0 hF0 hD hE CA CF CR RA RF RR
        go_wp2_with fail
        go_at_call 22
        refine (risame_any m m ra ra' rc rc' wF hp1.row hp2.row hm8 hm8 true (sameI_refl m)).mono ?_
        rintro e wG ⟨rfl, hG⟩
        go_wp2
        go_ret
        have hwF := hw7.trans (hF.mono hw7.size)
        exact ⟨rfl, hwF.trans (hG.mono hwF.size)⟩
end Go.Proofs.Ytkkoookmnnmiiaa

