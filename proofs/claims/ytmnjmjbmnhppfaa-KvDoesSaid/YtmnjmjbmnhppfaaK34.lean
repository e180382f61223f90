/- The law KvDoes, the good way. -/
import Derived.Test.YtmnjmjbmnhppfaaK19d
import Derived.Test.YtmnjmjbmnhppfaaK20
import Derived.Test.YtmnjmjbmnhppfaaK9
import Derived.Test.YtmnjmjbmnhppfaaUnder
import Derived.Test.YtmnjmjbmnhppfaaRows
import Derived.WalkKit
import Derived.WalkSpells
import Derived.WalkLawsBesides
import Derived.Handy
import Derived.Deep.QuietTactic
import Derived.BigQuiet
import Derived.Deep.DeepCutAuto
import Derived.Lib.Hide
import Derived.RegionTactic
import Derived.ChangeAlike
import Derived.Laws.ResultCell
import Derived.Outline
namespace Go.Proofs.Ytmnjmjbmnhppfaa
open Go.RowKit

def spoilt : Tx := ⟨#[115, 112, 111, 105, 108, 116]⟩

theorem do_own (a : Option Addr) (cap : Nat) (l : List Pr) (k : Int) (key old val : Tx) (w : World) (hs : SlP w a cap l) (hl : l.length ≤ 1000) (l' : List Pr) (err : Int) (f : Bool) (v : Tx) (hlr : doP l ⟨k, key, old, val⟩ = (l', ⟨err, f, v⟩)) :
    Calls Try.prog 36 #[.slice a l.length cap, .agg #[.int .u8 k, .string key, .string old, .string val]] w fun e w' => (∃ a' cap', e = .returned (.tuple #[.slice a' l'.length cap', .agg #[.int .i64 err, .bool f, .string v]]) ∧ SlP w' a' cap' l' ∧ w'.ownsRow w.heap.size 74 2 (.slice a' l'.length cap') l'.length (prs l')) ∧ Below w.heap.size w w' := by
  refine (do_any a cap l ⟨k, key, old, val⟩ w hs hl _ hlr).mono ?_
  rintro e w' ⟨⟨v', rfl, ho⟩, hb⟩
  obtain ⟨a', cap', rfl, hs'⟩ := SlP.of_owns ho
  exact ⟨⟨a', cap', rfl, hs', ho⟩, hb⟩
theorem rdo_open (a : Option Addr) (cap : Nat) (l : List Pr) (k : Int) (key old val : Tx) (w : World) (hs : SlP w a cap l) (hl : l.length ≤ 1000) (hsm : ∀ p ∈ l, p.1.size ≤ 100000) (l' : List Pr) (err : Int) (f : Bool) (v : Tx) (hlr : doP l ⟨k, key, old, val⟩ = (l', ⟨err, f, v⟩)) :
    Calls Try.prog 39 #[.slice a l.length cap, .agg #[.int .u8 k, .string key, .string old, .string val]] w fun e w' => (∃ a' cap', e = .returned (.tuple #[.slice a' l'.length cap', .agg #[.int .i64 err, .bool f, .string v]]) ∧ SlP w' a' cap' l') ∧ Below w.heap.size w w' := by
  refine (rdo_any a cap l ⟨k, key, old, val⟩ w hs hl hsm _ hlr).mono ?_
  rintro e w' ⟨h, hb⟩
  exact ⟨h.open, hb⟩
theorem rcopy_open (a : Option Addr) (cap : Nat) (l : List Pr) (w : World) (hs : SlP w a cap l) (hl : l.length ≤ 1000) :
    Calls Try.prog 38 #[.slice a l.length cap] w fun e w' => (∃ a' cap', e = .returned (.slice a' l.length cap') ∧ SlP w' a' cap' l) ∧ Below w.heap.size w w' := by
  refine (rcopy_any a cap l w hs hl).mono ?_
  rintro e w' ⟨⟨v, rfl, ho⟩, hb⟩
  obtain ⟨a', cap', rfl, hs'⟩ := SlP.of_owns ho
  exact ⟨⟨a', cap', rfl, hs'⟩, hb⟩
theorem doP_len {l : List Pr} (_ : l.length ≤ 40) (o : Opn) : (doP l o).1.length ≤ 1000 := by
  cases hm : mayS l with
  | false =>
    have : doP l o = ([], ⟨2, false, ⟨#[]⟩⟩) := by unfold doP; rw [if_pos hm]
    rw [this]
    simp
  | true =>
    have := (may_spec (doP_may o hm)).1
    omega

set_option maxRecDepth 100000 in
set_option maxHeartbeats 8000000 in
theorem does_good (a : Option Addr) (cap : Nat) (s : List Pr) (b : Option Addr) (bcap : Nat) (t : List Pr) (kd : Int) (key old val : Tx) (w : World) (hs : SlP w a cap s) (ht : SlP w b bcap t) (hg : greatB s = false) (hg2 : greatB t = false)
    (h1 : key.size ≤ 100) (h2 : old.size ≤ 100) (h3 : val.size ≤ 100) :
    Calls Try.prog 8 #[.slice a s.length cap, .slice b t.length bcap, .agg #[.int .u8 kd, .string key, .string old, .string val]] w fun e w' => e = .returned (.bool true) ∧ Below w.heap.size w w' := by
  have hs40 := (great_no hg).1
  have ht40 := (great_no hg2).1
  have hsm := (great_no hg).2
  obtain ⟨l', ⟨er, fo, va⟩, hd⟩ : ∃ (l' : List Pr) (r : Rp), doP s ⟨kd, key, old, val⟩ = (l', r) := ⟨_, _, rfl⟩
  have hl' : l'.length ≤ 1000 := by have := doP_len hs40 ⟨kd, key, old, val⟩; rw [hd] at this; exact this
  have hb0 := blw1 w (Obj.cells #[.int .u8 kd, .string key, .string old, .string val] 61)
  have b0 := heap_alloc_new w (Obj.cells #[.int .u8 kd, .string key, .string old, .string val] 61)
  have hz0 : w.heap.size < (w.alloc (Obj.cells #[.int .u8 kd, .string key, .string old, .string val] 61)).heap.size := by simp
  have HG := Lib.hid hg
  have HG2 := Lib.hid hg2
  have HD := Lib.hid hd
  have HSM := Lib.hid hsm
  clear hg hg2 hd hsm
  go_enter Try.func8, Try.ntmps8
  refine wp_seq_k (fun K hK => ?_)
  have HK := Lib.hid hK
  clear hK
  go_wp2
  refine HK.out _ _ ?_
  clear HK
  generalize w.alloc (Obj.cells #[.int .u8 kd, .string key, .string old, .string val] 61) = w1 at *
  have hs1 := hs.below hb0
  have ht1 := ht.below hb0
  obtain ⟨d0, d1, d2, d3⟩ := four b0
  refine wp_seq_k (fun K hK => ?_)
  have HK := Lib.hid hK
  clear hK
  go_wp2_with (first
      | (go_at_call 32; (with_reducible refine (great_any _ _ _ _ hs1).mono ?_); rintro e w' ⟨rfl, rfl⟩; rw [HG.out])
      | (go_at_call 32; (with_reducible refine (great_any _ _ _ _ ht1).mono ?_); rintro e w' ⟨rfl, rfl⟩; rw [HG2.out]))
  refine HK.out _ _ ?_
  clear HK
  refine wp_seq_k (fun K hK => ?_)
  have HK := Lib.hid hK
  clear hK
  go_wp2_with (go_at_call 38; refine (rcopy_open _ _ _ _ hs1 (by omega)).mono ?_; rintro e w2 ⟨⟨ma, mcap, rfl, hm2⟩, hb2⟩)
  refine HK.out _ _ ?_
  clear HK
  have b0 := (hb2.block w.heap.size hz0).trans b0
  have hb2 := hb0.trans (hb2.mono hb0.size)
  have hz0 : w.heap.size < w2.heap.size := by have := hb2.size; have := World.block_lt_of_cell? _ _ (four b0).1; simpa using this
  clear d0 d1 d2 d3 hs1 ht1 hb0
  obtain ⟨d0, d1, d2, d3⟩ := four b0
  have hs2 := hs.below hb2
  refine wp_seq_k (fun K hK => ?_)
  have HK := Lib.hid hK
  clear hK
  go_wp2_with (go_at_call 39; refine (rdo_open _ _ _ _ _ _ _ _ hs2 (by omega) HSM.out _ _ _ _ HD.out).mono ?_; rintro e w3 ⟨⟨wa, wcap, rfl, hn3⟩, hb3⟩)
  refine HK.out _ _ ?_
  clear HK
  have b0 := (hb3.block w.heap.size hz0).trans b0
  have hm3 := hm2.below hb3
  have hb3 := hb2.trans (hb3.mono hb2.size)
  clear d0 d1 d2 d3 hs2 hb2
  have hz3 : w.heap.size < w3.heap.size := by have := World.block_lt_of_cell? _ _ (four b0).1; simpa using this
  have hp3 := blw1 w3 (Obj.cells #[.int .i64 er, .bool fo, .string va] 43)
  have br := heap_alloc_new w3 (Obj.cells #[.int .i64 er, .bool fo, .string va] 43)
  have hzr : w3.heap.size < (w3.alloc (Obj.cells #[.int .i64 er, .bool fo, .string va] 43)).heap.size := by simp
  have b0 := (hp3.block w.heap.size hz3).trans b0
  have hm4 := hm3.below hp3
  have hn4 := hn3.below hp3
  have hb4 := hb3.trans (hp3.mono hb3.size)
  clear hm2 hm3 hn3 hb3 hp3
  generalize w3.alloc (Obj.cells #[.int .i64 er, .bool fo, .string va] 43) = w4 at *
  refine wp_seq_k (fun K hK => ?_)
  go_cut [] (fun wx => Below w4.heap.size w4 wx)
  case first =>
    go_wp2_with fail
    go_loopw [10] (fun i wr => ∃ k : Nat, k ≤ 2 ∧ i = .int .i64 k ∧ Below w4.heap.size w4 wr) (fun i _ => 2 - (intOf i).toNat)
    case atStart => exact ⟨0, by omega, rfl, Below.refl _ _⟩
    case round =>
      obtain ⟨k, hk, rfl, hbr⟩ := hrel
      by_cases hlt : k < 2
      · obtain ⟨d0, d1, d2, d3⟩ := four ((hbr.block w.heap.size (by omega)).trans b0)
        have hmr := hm4.below hbr
        have hszr := hbr.size
        go_wp2_with (go_at_call 36; refine (do_own _ _ _ _ _ _ _ _ hmr (by omega) _ _ _ _ HD.out).mono ?_; rintro e w5 ⟨⟨oa, ocap, rfl, ho5, hown5⟩, hb5⟩)
        have hbr5 : Below wr.heap.size wr w5 := hb5
        have hb6 := blw1 w5 (Obj.cells #[.int .i64 er, .bool fo, .string va] 43)
        have bq := heap_alloc_new w5 (Obj.cells #[.int .i64 er, .bool fo, .string va] 43)
        have hbr6 := hbr5.trans (hb6.mono hbr5.size)
        have ho6 := ho5.below hb6
        have hown6 := owns_after hown5 hb6
        have hb46 := hbr.trans (hbr6.mono hszr)
        have hn6 := hn4.below hb46
        have hm6 := hm4.below hb46
        have hs6 := hs.below (hb4.trans (hb46.mono hb4.size))
        have bw := (hb46.block w3.heap.size hzr).trans br
        clear d0 d1 d2 d3 hb5 hbr5
        generalize w5.alloc (Obj.cells #[.int .i64 er, .bool fo, .string va] 43) = w6 at *
        obtain ⟨e0, e1, e2, _⟩ := trio bq
        obtain ⟨f0, f1, f2, _⟩ := trio bw
        have HN : Hid (Below w4.heap.size w4 wr) := Lib.hid hbr
        go_wp2_with (first
          | (go_at_call 40; (with_reducible refine (rsame_any _ _ _ _ _ _ w6 ho6.row hn6.row hl' hl' true (decide_eq_true rfl)).mono ?_); rintro e w7 ⟨rfl, q1, rfl⟩)
          | (go_at_call 40; refine (rsame_any _ _ _ _ _ _ _ (Row.below0 hm6.row (below_drewN (Below.refl _ _) _)) (Row.below0 hs6.row (below_drewN (Below.refl _ _) _)) (by omega) (by omega) true (decide_eq_true rfl)).mono ?_; rintro e w8 ⟨rfl, q2, rfl⟩))
        obtain ⟨wo, rfl⟩ : ∃ wo : World, wo = wr := ⟨_, rfl⟩
        go_loopw [13] (fun j wx => ∃ (q : Nat) (xs : List Value), q ≤ l'.length ∧ j = .int .i64 q ∧ wx.ownsRow wo.heap.size 74 2 (.slice oa l'.length ocap) l'.length xs ∧ Below w4.heap.size w4 wx) (fun j _ => l'.length - (intOf j).toNat)
        case atStart => exact ⟨0, prs l', by omega, rfl, hown6, below_drewN hb46 _⟩
        case round =>
          obtain ⟨q, xs, hq, rfl, hownx, hbx⟩ := hrel
          by_cases hlq : q < l'.length
          · obtain ⟨g, cap', hv, hgb⟩ := owns_some hownx (by omega)
            injection hv with hv1 _ hv2
            subst hv1 hv2
            have hxl := hownx.1
            obtain ⟨u, hu⟩ : ∃ u, xs[q * 2 + 1]? = some u := ⟨_, List.getElem?_eq_getElem (by omega)⟩
            have ex : wr.cell? ⟨g, q * 2 + 1, none⟩ = some u := by
              rw [hownx.cellAt _ (by omega)]
              exact hu
            have fx : wr.frozen? ⟨g, q * 2 + 1, none⟩ = false := hownx.frozenAt _
            have hst := (hownx.stored (q * 2 + 1) (.string ⟨#[115, 112, 111, 105, 108, 116]⟩)).1
            clear hu
            go_wp2
            go_roundw
            case rel => exact ⟨q + 1, _, by omega, by go_num, hst, hbx.setCell (by simp; omega) _⟩
            case measure => simp [intOf]; omega
          · go_wp2
            go_roundw
            case rel => exact ⟨k + 1, by omega, by go_num, hbx⟩
            case measure => simp [intOf]; omega
      · go_wp2
        go_meet
        exact hbr
  refine hK _ _ ?_; clear hK
  have hszc := hcut.size
  obtain ⟨d0, d1, d2, d3⟩ := four ((hcut.block w.heap.size (by omega)).trans b0)
  have d0 := under_cell d0
  have d1 := under_cell d1
  have d2 := under_cell d2
  have d3 := under_cell d3
  have hwc := hb4.trans (hcut.mono hb4.size)
  have hS : Hid (∀ x, Row (Under wc x) a (prs s)) := Lib.hid (under_row (hs.below hwc).row)
  have hT : Hid (∀ x, Row (Under wc x) b (prs t)) := Lib.hid (under_row (ht.below hwc).row)
  obtain ⟨ms, hms⟩ : ∃ m, mayS s = m := ⟨_, rfl⟩
  obtain ⟨mo, hmo⟩ : ∃ m, mayO ⟨kd, key, old, val⟩ = m := ⟨_, rfl⟩
  obtain ⟨sm, hsm2⟩ : ∃ m, decide (s = t) = m := ⟨_, rfl⟩
  have HMS := Lib.hid hms
  have HMO := Lib.hid hmo
  have HSAM := Lib.hid hsm2
  clear hms hmo hsm2
  go_wp2_with fail
  refine wp_region_under (by kernel_rfl) (by kernel_rfl) ?_
  repeat (go_big_quiet_step ((first
      | (go_at_call 33; exact under_call (HMS.out ▸ may_any _ _ _ _ (hS.out _) (by omega)))
      | (go_at_call 41; exact under_drew (HMS.out ▸ rmay_any _ _ _ _ (hS.out _) (by omega) HSM.out))
      | (go_at_call 34; exact under_call (pmayO_any _ _ _ _ _ _ HMO.out))
      | (go_at_call 42; exact under_call (rmayO_any _ _ _ _ _ _ HMO.out))
      | (go_at_call 43; exact under_call (preads_any _ _ _ _ _ _ rfl))
      | (go_at_call 37; exact under_drew (psame_any _ _ _ _ _ _ _ (hS.out _) (hT.out _) (by omega) (by omega) _ HSAM.out))
      | (go_at_call 40; exact under_drew (rsame_any _ _ _ _ _ _ _ (hS.out _) (hT.out _) (by omega) (by omega) _ HSAM.out)))))
  refine wpQuiet_nil ?_
  intro _ hw'
  obtain ⟨xU, hw''⟩ := hw'
  subst hw''
  have hbU := under_below wc xU
  go_wp2
  go_ret
  exact ⟨rfl, hwc.trans (hbU.mono hwc.size)⟩
end Go.Proofs.Ytmnjmjbmnhppfaa
