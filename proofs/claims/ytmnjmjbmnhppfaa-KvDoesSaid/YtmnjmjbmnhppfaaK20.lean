/- The laws' own helpers: op, ac, value, Great, told. -/
import Derived.Test.YtmnjmjbmnhppfaaK18
import Derived.Test.YtmnjmjbmnhppfaaRows
import Derived.WalkKit
import Derived.WalkSpells
import Derived.WalkLawsBesides
import Derived.Handy
import Derived.Deep.QuietTactic
import Derived.BigQuiet
import Derived.Deep.DeepCutAuto
import Derived.Lib.Hide
import Derived.RegionTactic
import Derived.ChangeAlike
import Derived.Laws.ResultCell
import Derived.Outline
namespace Go.Proofs.Ytmnjmjbmnhppfaa
open Go.RowKit

set_option maxRecDepth 100000 in
theorem op_any (k : Int) (key old val : Tx) (w : World) : Calls Try.prog 31 #[.int .u8 k, .string key, .string old, .string val] w fun e w' => e = .returned (.agg #[.int .u8 k, .string key, .string old, .string val]) ∧ Below w.heap.size w w' := by
  go_enter Try.func31, Try.ntmps31
  go_wp2
  (try simp only [Exit.inBlock, Exit.then])
  refine bodyPost_ret (v := .agg #[.int .u8 k, .string key, .string old, .string val]) ?hr rfl ⟨rfl, ?_⟩
  case hr =>
    simp only [results, Try.results31]
    go_simp
  (repeat' (first | (with_reducible exact Below.refl _ _) | (with_reducible assumption) | (with_reducible refine Below.alloc ?_ ?_ _) | (with_reducible refine Below.drew ?_) | (with_reducible refine below_drewN ?_ _) | (with_reducible refine Below.setCell ?_ ?_ _) | (with_reducible refine Below.trans ?_ (by assumption)) | go_size))

theorem StRes.open {base : Nat} {l : List Pr} {r : Rp} {e : Ending} {w' : World} (h : StRes base l r e w') : ∃ a' cap', e = .returned (.tuple #[.slice a' l.length cap', .agg #[.int .i64 r.err, .bool r.found, .string r.val]]) ∧ SlP w' a' cap' l := by
  obtain ⟨v', rfl, ho⟩ := h
  obtain ⟨a', cap', rfl, hs⟩ := SlP.of_owns ho
  exact ⟨a', cap', rfl, hs⟩

theorem do_open (a : Option Addr) (cap : Nat) (l : List Pr) (k : Int) (key old val : Tx) (w : World) (hs : SlP w a cap l) (hl : l.length ≤ 1000) (l' : List Pr) (err : Int) (f : Bool) (v : Tx) (hlr : doP l ⟨k, key, old, val⟩ = (l', ⟨err, f, v⟩)) :
    Calls Try.prog 36 #[.slice a l.length cap, .agg #[.int .u8 k, .string key, .string old, .string val]] w fun e w' => (∃ a' cap', e = .returned (.tuple #[.slice a' l'.length cap', .agg #[.int .i64 err, .bool f, .string v]]) ∧ SlP w' a' cap' l') ∧ Below w.heap.size w w' := by
  refine (do_any a cap l ⟨k, key, old, val⟩ w hs hl _ hlr).mono ?_
  rintro e w' ⟨h, hb⟩
  exact ⟨h.open, hb⟩

set_option maxRecDepth 100000 in
set_option maxHeartbeats 1000000 in
theorem lvalue_any (a : Option Addr) (cap : Nat) (l : List Pr) (key : Tx) (w : World) (hs : SlP w a cap l) (hl : l.length ≤ 1000) (v : Tx) (is : Bool) (hv : valueP l key = (v, is)) :
    Calls Try.prog 35 #[.slice a l.length cap, .string key] w fun e w' => e = .returned (.tuple #[.string v, .bool is]) ∧ Below w.heap.size w w' := by
  obtain ⟨l', ⟨err, f, v'⟩, hd⟩ : ∃ (l' : List Pr) (r : Rp), doP l (getO key) = (l', r) := ⟨_, _, rfl⟩
  have hv2 : v' = v ∧ (f && decide (err = 0)) = is := by
    unfold valueP at hv
    rw [hd] at hv
    simp only [Prod.mk.injEq] at hv
    exact hv
  obtain ⟨rfl, rfl⟩ := hv2
  unfold getO at hd
  have HD := Lib.hid hd
  clear hd hv
  have hee : (err == 0) = decide (err = 0) := rfl
  rw [← hee]
  clear hee
  cases f
  all_goals
    go_enter Try.func35, Try.ntmps35
    go_wp2_with (first
      | (go_at_call 31; refine (op_any _ _ _ _ _).mono ?_; rintro e w1 ⟨rfl, hb1⟩)
      | (go_at_call 36; refine (do_open _ _ _ _ _ _ _ _ (hs.below hb1) hl _ _ _ _ HD.out).mono ?_; rintro e w2 ⟨⟨a2, cap2, rfl, hs2⟩, hb2⟩))
    go_quiet (fail)
    go_wp2
    go_ret2
    refine ⟨rfl, ?_⟩
    have hb12 := hb1.trans (hb2.mono hb1.size)
    have hsz := hb12.size
    (repeat' (first | (with_reducible exact Below.refl _ _) | (with_reducible assumption) | (with_reducible refine Below.alloc ?_ ?_ _) | (with_reducible refine Below.drew ?_) | (with_reducible refine below_drewN ?_ _) | (with_reducible refine Below.setCell ?_ ?_ _) | (with_reducible refine Below.trans ?_ (by assumption)) | go_size))

def bigP (p : Pr) : Bool := decide (100 < p.1.size) || decide (100 < p.2.size)
def greatB (l : List Pr) : Bool := decide (40 < l.length) || l.any bigP
theorem great_no {l : List Pr} (h : greatB l = false) : l.length ≤ 40 ∧ ∀ p ∈ l, p.1.size ≤ 100000 := by
  unfold greatB at h
  rw [Bool.or_eq_false_iff, decide_eq_false_iff_not, List.any_eq_false] at h
  refine ⟨by omega, fun p hp => ?_⟩
  have := h.2 p hp
  simp [bigP] at this
  omega
def anyUp (l : List Pr) (k : Nat) : Bool := (l.take k).any bigP
theorem anyUp_succ {l : List Pr} {k : Nat} (hk : k < l.length) : anyUp l (k + 1) = (anyUp l k || bigP l[k]) := by
  unfold anyUp
  rw [List.take_add_one, List.getElem?_eq_getElem hk, List.any_append]
  simp only [Option.toList, List.any_cons, List.any_nil, Bool.or_false]
theorem great_yes {l : List Pr} {k : Nat} (hk : k < l.length) (h : bigP l[k] = true) : greatB l = true := by
  unfold greatB
  rw [Bool.or_eq_true]
  right
  rw [List.any_eq_true]
  exact ⟨l[k], List.getElem_mem hk, h⟩

set_option maxHeartbeats 1000000 in
theorem great_any (a : Option Addr) (cap : Nat) (l : List Pr) (w : World) (hs : SlP w a cap l) :
    Calls Try.prog 32 #[.slice a l.length cap] w fun e w' => e = .returned (.bool (greatB l)) ∧ w = w' := by
  have hr := hs.row
  have hmx := hs.max
  have hle := hs.le
  unfold maxLen at hmx
  by_cases h40 : 40 < l.length
  · have HG : Hid (greatB l = true) := Lib.hid (by simp [greatB, h40])
    go_enter Try.func32, Try.ntmps32
    go_wp2
    go_ret
    exact ⟨ret_bool HG.out.symm, rfl⟩
  · go_enter Try.func32, Try.ntmps32
    refine wp_seq_k (fun K hK => ?_)
    have HK := Lib.hid hK
    clear hK
    go_wp2
    refine HK.out _ _ ?_
    clear HK
    refine wp_seq_k (fun K hK => ?_)
    have HK := Lib.hid hK
    clear hK
    go_wp2
    refine HK.out _ _ ?_
    clear HK
    go_wp2_with fail
    go_loop [3] (fun i => ∃ k : Nat, k ≤ l.length ∧ i = .int .i64 k ∧ anyUp l k = false) (fun i => l.length - (intOf i).toNat)
    case atStart => exact ⟨0, by omega, rfl, by simp [anyUp]⟩
    case round =>
      obtain ⟨k, hk, rfl, hg⟩ := hrel
      by_cases hlt : k < l.length
      · obtain ⟨bb, off, rfl, hblt, hcs⟩ := hr.pair (List.getElem?_eq_getElem hlt)
        obtain ⟨c0, c1⟩ := hcs _ _ (List.getElem?_eq_getElem hlt)
        have hgs := anyUp_succ hlt
        have hy := Lib.hid (great_yes hlt)
        rw [hg] at hgs
        clear hcs hg
        generalize l[k] = y at *
        obtain ⟨y1, y2⟩ := y
        by_cases q1 : y1.size ≤ 100
        · by_cases q2 : y2.size ≤ 100
          · have hb : bigP (y1, y2) = false := by (simp only [bigP, Bool.or_eq_false_iff, decide_eq_false_iff_not]; omega)
            have HS : Hid (anyUp l (k + 1) = false) := Lib.hid (by rw [hgs, hb]; rfl)
            clear hgs hb
            go_wp2
            go_round
            case rel => exact ⟨k + 1, by omega, by go_num, HS.out⟩
            case measure => simp [intOf]; omega
          · have hb : bigP (y1, y2) = true := by (simp only [bigP, Bool.or_eq_true, decide_eq_true_eq]; omega)
            have HS := Lib.hid (hy.out hb)
            clear hgs hb
            go_wp2
            go_ret
            exact ⟨ret_bool HS.out.symm, rfl⟩
        · have hb : bigP (y1, y2) = true := by (simp only [bigP, Bool.or_eq_true, decide_eq_true_eq]; omega)
          have HS := Lib.hid (hy.out hb)
          clear hgs hb
          go_wp2
          go_ret
          exact ⟨ret_bool HS.out.symm, rfl⟩
      · have hg2 : greatB l = false := by
          unfold greatB
          rw [decide_eq_false h40, Bool.false_or]
          have := hg
          unfold anyUp at this
          rw [show k = l.length by omega, List.take_length] at this
          exact this
        have HS := Lib.hid hg2
        clear hg hg2
        go_wp2
        go_ret
        exact ⟨ret_bool HS.out.symm, rfl⟩
end Go.Proofs.Ytmnjmjbmnhppfaa
