/- ScrubFound, walked. -/
import Derived.Test.YtjolhdlnjdmbeaaF0
import Derived.Test.YtjolhdlnjdmbeaaA2
import Derived.Test.YtjolhdlnjdmbeaaRows
import Derived.WalkKit
import Derived.WalkSpells
import Derived.WalkLawsBesides
import Derived.Handy
import Derived.Deep.QuietTactic
import Derived.BigQuiet
import Derived.Deep.DeepCutAuto
import Derived.Lib.Hide
import Derived.RegionTactic
import Derived.ChangeAlike
import Derived.StillTailTactics
namespace Go.Proofs.Ytjolhdlnjdmbeaa
open Go.RowKit

def stepCells (l : List (Int × Bool)) : List Value := l.flatMap fun s => [.int .i64 s.1, .bool s.2]
theorem stepCells_len (l : List (Int × Bool)) : (stepCells l).length = l.length * 2 := by
  unfold stepCells
  induction l with
  | nil => rfl
  | cons a l ih => simp only [List.flatMap_cons, List.length_append, ih, List.length_cons, List.length_nil]; omega
theorem stepCells_at : ∀ (l : List (Int × Bool)) (k : Nat) (s : Int × Bool), l[k]? = some s → (stepCells l)[k * 2]? = some (.int .i64 s.1) ∧ (stepCells l)[k * 2 + 1]? = some (.bool s.2)
  | [], _, _, h => by simp at h
  | a :: l, 0, s, h => by simp at h; subst h; simp [stepCells]
  | a :: l, k + 1, s, h => by
    have ih := stepCells_at l k s (by simpa using h)
    have e : stepCells (a :: l) = .int .i64 a.1 :: .bool a.2 :: stepCells l := by simp [stepCells]
    rw [e, show (k + 1) * 2 = k * 2 + 2 by omega]
    simpa using ih

structure FR (B0 Bl : Nat) (snap : Int) (w : World) (found : Value) (last : List Bool) (fl : List Int) (wr : World) : Prop where
  len : last.length = 24
  fi : FI snap last fl
  bools : Bools wr Bl 34 last
  own : wr.ownsRow (Bl + 1) 3 1 found fl.length (fl.map (Value.int .i64))
  below : Below B0 w wr
  size : Bl + 1 ≤ wr.heap.size

def lastAfter (snap idx : Int) (c : Bool) (last : List Bool) : List Bool := if liveB snap idx = true then last.set (idx - snap - 1).toNat c else last

set_option maxRecDepth 100000 in
set_option maxHeartbeats 2000000 in
theorem found_ok (a : Option Addr) (cap : Nat) (l : List (Int × Bool)) (snap later : Int) (w : World) (hrow : Row w a (stepCells l)) (h1 : 0 ≤ snap) (h2 : snap ≤ 1099511627752) (hl : l.length ≤ 80) :
    Calls Try.prog 5 #[.int .i64 snap, .slice a l.length cap, .int .i64 later] w fun e w' => e = .returned (.bool true) ∧ Below w.heap.size w w' := by
  go_enter Try.func5, Try.ntmps5
  refine wp_seq_k (fun K hK => ?_)
  have HK := Lib.hid hK
  clear hK
  go_wp2
  refine HK.out _ _ ?_
  clear HK
  refine wp_seq_k (fun K hK => ?_)
  have HK := Lib.hid hK
  clear hK
  go_wp2_with (go_at_call 13; refine (awake_true _).mono ?_; rintro e w1 ⟨rfl, hb1⟩)
  refine HK.out _ _ ?_
  clear HK
  have hz1 := hb1.size
  refine wp_seq_k (fun K hK => ?_)
  have HK := Lib.hid hK
  clear hK
  go_wp2
  refine HK.out _ _ ?_
  clear HK
  refine wp_seq_k (fun K hK => ?_)
  have HK := Lib.hid hK
  clear hK
  go_wp2
  refine HK.out _ _ ?_
  clear HK
  refine wp_seq_k (fun K hK => ?_)
  have HK := Lib.hid hK
  clear hK
  go_wp2
  refine HK.out _ _ ?_
  clear HK
  have hR : FR w.heap.size w1.heap.size snap w (.slice none 0 0) (List.replicate 24 false) [] (w1.alloc (Obj.cells #[.bool false, .bool false, .bool false, .bool false, .bool false, .bool false, .bool false, .bool false, .bool false, .bool false, .bool false, .bool false, .bool false, .bool false, .bool false, .bool false, .bool false, .bool false, .bool false, .bool false, .bool false, .bool false, .bool false, .bool false] 34)) :=
    ⟨by simp, fi_zero snap, heap_alloc_new _ _, World.ownsRow_nil _ _ _ _, hb1.alloc hz1 _, by simp⟩
  generalize (w1.alloc (Obj.cells #[.bool false, .bool false, .bool false, .bool false, .bool false, .bool false, .bool false, .bool false, .bool false, .bool false, .bool false, .bool false, .bool false, .bool false, .bool false, .bool false, .bool false, .bool false, .bool false, .bool false, .bool false, .bool false, .bool false, .bool false] 34)) = w3 at *
  generalize hB0 : w.heap.size = B0 at *
  generalize hB1 : w1.heap.size = B1 at *
  clear hB1
  have HB0 := Lib.hid hB0
  clear hB0
  have hwn : wthn snap 0 1099511627752 = snap := by unfold wthn; omega
  have HWN := Lib.hid hwn
  clear hwn
  refine wp_seq_k (fun K hK => ?_)
  go_cut [7] (fun found wx => ∃ last fl, FR B0 B1 snap w found last fl wx)
  case first =>
    go_wp2_with fail
    go_loopw [7, 9] (fun found n wr => ∃ k : Nat, k ≤ l.length ∧ n = .int .i64 k ∧ ∃ last fl, FR B0 B1 snap w found last fl wr) (fun _ n _ => l.length - (intOf n).toNat)
    case atStart => exact ⟨0, by omega, rfl, _, _, hR⟩
    case round =>
      obtain ⟨k, hk, rfl, last, fl, hF⟩ := hrel
      obtain ⟨f1, f2, f3, f4, f5, f6⟩ := hF
      by_cases hlt : k < l.length
      · obtain ⟨b, off, rfl, hcells⟩ := (hrow.below (Nat.le_of_eq HB0.out) f5).at (k := k * 2) (by rw [stepCells_len]; omega)
        obtain ⟨⟨idx, c⟩, hs⟩ : ∃ s, l[k]? = some s := ⟨l[k], by simp [hlt]⟩
        have hst := stepCells_at l k _ hs
        have hc0 := hcells _ _ hst.1
        have hc1 := hcells _ _ hst.2
        have HS := Lib.hid hs
        clear hst hs hcells
        simp only [← Nat.add_assoc] at hc0 hc1
        obtain ⟨fa, fc, rfl, frow, _, _⟩ := Row.of_owns f4
        have hfl := fi_len f2
        go_wp2_with fail
        rename_i hK10
        have HK := Lib.hid hK10
        clear hK10
        go_still_tail 12, (by kernel_rfl)
        have frow2 : Row wr.drew fa (fl.map (Value.int .i64)) := frow
        have f5d : Below B0 w wr.drew := f5.drew
        have f3d : Bools wr.drew B1 34 last := f3
        have f6d : B1 + 1 ≤ wr.drew.heap.size := f6
        have hc0d : wr.drew.cell? ⟨b, off + k * 2, none⟩ = some (.int .i64 idx) := hc0
        have hc1d : wr.drew.cell? ⟨b, off + k * 2 + 1, none⟩ = some (.bool c) := hc1
        have HF := Lib.hid f2
        have HF1 := Lib.hid f1
        clear f2 f3 f4 f5 f6 frow hc0 hc1 f1
        go_wp2_with fail
        refine (pnote_any fa fc fl snap idx c wr.drew frow2 (by omega) _ rfl).mono ?_
        rintro e w5 ⟨⟨nv, rfl, ho5⟩, hb5⟩
        rw [HWN.out] at ho5
        go_wp2
        refine HK.out _ _ ?_
        clear HK
        have hfi := fi_step (idx := idx) (c := c) h1 HF1.out HF.out
        have hlen5 : (if liveB snap idx = true then last.set (idx - snap - 1).toNat c else last).length = 24 := by split <;> simp [HF1.out]
        have hB5 := f3d.below hb5 (by omega)
        have hc0e := cell_later hb5 hc0d
        have hc1e := cell_later hb5 hc1d
        have ho6 := owns_mono (base' := B1 + 1) ho5 f6d
        have hs5 := hb5.size
        have hb6 := f5d.trans (hb5.mono (show B0 ≤ wr.drew.heap.size by omega))
        have hs6 : B1 + 1 ≤ w5.heap.size := by omega
        clear hb5 ho5 f3d hc0d hc1d f5d f6d frow2 hs5
        generalize pnoteL snap idx c fl = fl2 at *
        have HFI := Lib.hid hfi
        have HLEN := Lib.hid hlen5
        clear hfi hlen5
        refine wp_seq_k (fun K hK => ?_)
        go_cut [] (fun wx => FR B0 B1 snap w nv (if liveB snap idx = true then last.set (idx - snap - 1).toNat c else last) fl2 wx)
        case first =>
          by_cases hlv : snap < idx ∧ idx ≤ snap + 24
          · obtain ⟨r, hr⟩ : ∃ r : Nat, idx = snap + 1 + r := ⟨(idx - snap - 1).toNat, by omega⟩
            subst hr
            have hr24 : r < 24 := by omega
            have hlb : liveB snap (snap + 1 + r) = true := by unfold liveB; simp; omega
            have HLB := Lib.hid hlb
            clear hlb hlv
            have hg1 : snap < snap + 1 + (r : Int) := by omega
            have hg2 : snap + 1 + (r : Int) ≤ snap + 24 := by omega
            have hat : ∃ x, last[r]? = some x := ⟨last[r]'(by rw [HF1.out]; exact hr24), List.getElem?_eq_getElem _⟩
            obtain ⟨x0, hat⟩ := hat
            have hce := hB5.cell hat
            have hfe := hB5.frozen r
            have HB5 := Lib.hid hB5
            clear hB5 hat
            go_wp2_with fail
            have hx1 : IntKind.i64.wrap (snap + 1 + (r : Int) - snap) = (r : Int) + 1 := by rw [IntWalk.i64_in _ (by omega)]; omega
            have hx2 : IntKind.i64.wrap (r : Int) = (r : Int) := IntWalk.i64_in _ (by omega)
            have hx3 : (r : Int) < 24 := by omega
            go_still_tail 14, (by kernel_rfl)
            go_wp2
            go_meet
            have e1 := HFI.out
            rw [HLB.out, if_pos rfl] at e1 ⊢
            rw [show (snap + 1 + (r : Int) - snap - 1).toNat = r by omega] at e1 ⊢
            refine ⟨by simp [HF1.out], e1, ?_, ?_, ?_, ?_⟩
            · exact Bools.set (w := w5.drew) HB5.out r c
            · exact ownsRow_setCell_below (w := w5.drew) ho6 (by simp) _
            · exact below_sets (w := w5.drew) hb6.drew (by omega) _ _
            · simpa using hs6
          · have hlb : liveB snap idx = false := by unfold liveB; simpa using hlv
            have HLB := Lib.hid hlb
            clear hlb
            by_cases hlo : snap < idx
            all_goals
              go_wp2
              go_meet
              have e1 := HFI.out
              rw [HLB.out, if_neg (by simp)] at e1 ⊢
              exact ⟨HF1.out, e1, hB5, ho6, hb6, hs6⟩
        refine hK _ _ ?_; clear hK
        clear hb6 ho6 hB5 hc0e hc1e hs6 HFI HLEN HF HF1 HS
        generalize (if liveB snap idx = true then last.set (idx - snap - 1).toNat c else last) = last2 at *
        obtain ⟨g1, g2, g3, g4, g5, g6⟩ := hcut
        have hFR : FR B0 B1 snap w nv last2 fl2 wc := ⟨g1, g2, g3, g4, g5, g6⟩
        have hlist := fi_list g2
        have hfl2 := fi_len g2
        obtain ⟨na, nc, rfl, nrow, _, _⟩ := Row.of_owns g4
        have hbool : ∀ i : Nat, i < 24 → ∃ x, last2[i]? = some x ∧ wc.cell? ⟨B1, i, none⟩ = some (.bool x) := fun i hi => by
          have hx : last2[i]? = some (last2[i]'(by rw [g1]; exact hi)) := List.getElem?_eq_getElem _
          exact ⟨_, hx, g3.cell hx⟩
        have HBO := Lib.hid hbool
        have HLI := Lib.hid hlist
        have HFR := Lib.hid hFR
        clear g1 g2 g3 g4 g5 g6 hbool hlist hFR
        refine wp_seq_k (fun K hK => ?_)
        have HK := Lib.hid hK
        clear hK
        go_wp2
        refine HK.out _ _ ?_
        clear HK
        refine wp_seq_k (fun K hK => ?_)
        go_cut [10] (fun kk wx => wx = wc ∧ kk = .int .i64 (fl2.length : Int))
        case first =>
          go_wp2_with fail
          go_loopw [10, 11] (fun kk i wr => ∃ j : Nat, j ≤ 24 ∧ i = .int .i64 j ∧ kk = .int .i64 ((((List.range 24).take j).filter (fun i => last2[i]? == some true)).length : Nat) ∧ wr = wc) (fun _ i _ => 24 - (intOf i).toNat)
          case atStart => exact ⟨0, by omega, rfl, by simp, rfl⟩
          case round =>
            obtain ⟨j, hj, rfl, rfl, rfl⟩ := hrel
            by_cases hjt : j < 24
            · obtain ⟨x, hx, hcx⟩ := HBO.out j hjt
              have hr24 : (List.range 24)[j]? = some j := by simp [hjt]
              have hln := filt_len (fun i => last2[i]? == some true) (List.range 24) j j hr24
              have hle : (((List.range 24).take j).filter (fun i => last2[i]? == some true)).length ≤ 24 := by
                refine Nat.le_trans (List.length_filter_le _ _) ?_
                rw [List.length_take, List.length_range]; omega
              cases x
              · rw [if_neg (by simp [hx])] at hln
                have HLN := Lib.hid hln
                clear hln hx hr24
                generalize (((List.range 24).take j).filter (fun i => last2[i]? == some true)).length = q at *
                go_wp2
                refine ⟨⟨j + 1, by omega, by go_num, ?_, by first | trivial | rfl⟩, by simp [intOf]; omega⟩
                rw [HLN.out]; rfl
              · rw [if_pos (by simp [hx])] at hln
                have hat := filt_at (fun i => last2[i]? == some true) (List.range 24) j j hr24 (by simp [hx])
                have hfe : fl2[(((List.range 24).take j).filter (fun i => last2[i]? == some true)).length]? = some (snap + 1 + (j : Int)) := by
                  have h := HLI.out
                  rw [h, List.getElem?_map, hat]
                  rfl
                have hqlt : (((List.range 24).take j).filter (fun i => last2[i]? == some true)).length < fl2.length := (List.getElem?_eq_some_iff.1 hfe).1
                obtain ⟨b2, o2, y, rfl, hy, hcy⟩ := nrow.int hqlt
                rw [hfe] at hy
                cases hy
                have HLN := Lib.hid hln
                clear hln hx hr24 hat hfe
                generalize (((List.range 24).take j).filter (fun i => last2[i]? == some true)).length = q at *
                have hne : ((snap + 1 + (j : Int)) != (snap + 1 + (j : Int))) = false := by simp
                go_wp2
                refine ⟨⟨j + 1, by omega, by go_num, ?_, by first | trivial | rfl⟩, by simp [intOf]; omega⟩
                rw [HLN.out]; go_num
            · obtain rfl : j = 24 := by omega
              have hq : (((List.range 24).take 24).filter (fun i => last2[i]? == some true)).length = fl2.length := by
                have h := HLI.out
                rw [h, List.length_map, List.take_of_length_le (by simp)]
              rw [hq]
              clear hq
              go_wp2
              go_meet
              exact ⟨by first | trivial | rfl, rfl⟩
        obtain ⟨rfl, rfl⟩ := hcut
        refine hK _ _ ?_; clear hK
        have hnn : (((fl2.length : Int)) != ((fl2.length : Int))) = false := by simp
        go_wp2
        exact ⟨⟨k + 1, by omega, by go_num, _, _, HFR.out⟩, by simp [intOf]; omega⟩
      · go_wp2
        go_meet
        exact ⟨last, fl, f1, f2, f3, f4, f5, f6⟩
  refine hK _ _ ?_; clear hK
  clear hR
  obtain ⟨last, fl, g1, g2, g3, g4, g5, g6⟩ := hcut
  obtain ⟨na, nc, rfl, nrow, _, _⟩ := Row.of_owns g4
  have hfl := fi_len g2
  by_cases hlo : later < snap
  · go_wp2
    go_ret
    exact ⟨rfl, g5⟩
  · by_cases hhi : snap + 30 < later
    · go_wp2
      go_ret
      exact ⟨rfl, g5⟩
    · by_cases hmx : 1099511627752 < later
      · go_wp2
        go_ret
        exact ⟨rfl, g5⟩
      · have hwl : wthn later 0 1099511627752 = later := by unfold wthn; omega
        have hrest : fl.filter (fun x => decide (later < x)) = pnoteL (wthn later 0 1099511627752) 0 true fl := by
          rw [hwl]
          have hk := nst_keep (liveB later) fl g2.sorted (fun x hx => by have := ((g2.mem x).1 hx).1; omega)
          unfold pnoteL
          rw [hk]
          simp only
          rw [if_neg (show ¬ (liveB later 0 = true) by unfold liveB; simp; omega)]
          refine List.filter_congr (fun x hx => ?_)
          have := (g2.mem x).1 hx
          unfold liveB
          by_cases h : later < x <;> simp [h]
          omega
        have HRE := Lib.hid hrest
        clear hrest hwl g1 g2 g3 g4
        refine wp_seq_k (fun K hK => ?_)
        have HK := Lib.hid hK
        clear hK
        go_wp2
        refine HK.out _ _ ?_
        clear HK
        refine wp_seq_k (fun K hK => ?_)
        have HK := Lib.hid hK
        clear hK
        go_wp2_with (go_at_call 10; refine (pnote_any na nc fl later 0 true wc nrow (by omega) (fl.filter (fun x => decide (later < x))) HRE.out).mono ?_; rintro e w5 ⟨⟨rv, rfl, ho5⟩, hb5⟩)
        refine HK.out _ _ ?_
        clear HK
        obtain ⟨ra, rc, rfl, rrow, _, _⟩ := Row.of_owns ho5
        have nrow5 := nrow.below0 hb5
        have hb6 := g5.trans (hb5.mono (by omega))
        clear ho5 hb5 nrow
        refine wp_seq_k (fun K hK => ?_)
        have HK := Lib.hid hK
        clear hK
        go_wp2
        refine HK.out _ _ ?_
        clear HK
        have hrl : (fl.filter (fun x => decide (later < x))).length ≤ 24 := Nat.le_trans (List.length_filter_le _ _) hfl
        refine wp_seq_k (fun K hK => ?_)
        go_cut [13] (fun kk wx => (∃ q, wx = w5.drewN q) ∧ kk = .int .i64 ((fl.filter (fun x => decide (later < x))).length : Nat))
        case first =>
          go_wp2_with fail
          go_loopw [13, 14] (fun kk i wr => ∃ j : Nat, j ≤ fl.length ∧ i = .int .i64 j ∧ kk = .int .i64 (((fl.take j).filter (fun x => decide (later < x))).length : Nat) ∧ ∃ q, wr = w5.drewN q) (fun _ i _ => fl.length - (intOf i).toNat)
          case atStart => exact ⟨0, by omega, rfl, by simp, 0, rfl⟩
          case round =>
            obtain ⟨j, hj, rfl, rfl, q, rfl⟩ := hrel
            by_cases hjt : j < fl.length
            · obtain ⟨b1, o1, x, rfl, hx, hcx⟩ := nrow5.int hjt
              have hln := filt_len (fun x => decide (later < x)) fl j x hx
              have hle : ((fl.take j).filter (fun x => decide (later < x))).length ≤ 24 := by
                refine Nat.le_trans (List.length_filter_le _ _) ?_
                rw [List.length_take]; omega
              by_cases hxl : later < x
              · rw [if_pos (by simpa using hxl)] at hln
                have hat := filt_at (fun x => decide (later < x)) fl j x hx (by simpa using hxl)
                have hqlt := (List.getElem?_eq_some_iff.1 hat).1
                obtain ⟨b2, o2, y, rfl, hy, hcy⟩ := rrow.int hqlt
                rw [hat] at hy
                cases hy
                have HLN := Lib.hid hln
                clear hln hx hat
                generalize ((fl.take j).filter (fun x => decide (later < x))).length = p at *
                generalize hrr : (fl.filter (fun x => decide (later < x))).length = rl at *
                have HRR := Lib.hid hrr
                clear hrr
                have hne : ((x != x) : Bool) = false := by simp
                have hgd : decide (rl ≤ p) = false := by simp; omega
                go_wp2_with fail
                go_quiet (fail)
                go_wp2
                refine ⟨⟨j + 1, by omega, by go_num, ?_, q + nq, by first | rfl | exact World.drewN_drewN ..⟩, by simp [intOf]; omega⟩
                rw [HLN.out]; go_num
              · rw [if_neg (by simpa using hxl)] at hln
                have HLN := Lib.hid hln
                clear hln hx
                generalize ((fl.take j).filter (fun x => decide (later < x))).length = p at *
                go_wp2
                refine ⟨⟨j + 1, by omega, by go_num, ?_, q, by first | trivial | rfl⟩, by simp [intOf]; omega⟩
                rw [HLN.out]; rfl
            · obtain rfl : j = fl.length := by omega
              rw [List.take_length]
              go_wp2
              go_meet
              exact ⟨⟨q, by first | trivial | rfl⟩, rfl⟩
        obtain ⟨⟨q, rfl⟩, rfl⟩ := hcut
        refine hK _ _ ?_; clear hK
        generalize (fl.filter (fun x => decide (later < x))).length = rl at *
        have hnn : (((rl : Int)) == ((rl : Int))) = true := by simp
        go_wp2
        go_ret
        exact ⟨rfl, below_drewN hb6 q⟩
end Go.Proofs.Ytjolhdlnjdmbeaa
