/- The law KvSwaps: every way. -/
import Derived.Test.YtmnjmjbmnhppfaaK23
import Derived.Test.YtmnjmjbmnhppfaaRows
import Derived.WalkKit
import Derived.WalkSpells
import Derived.WalkLawsBesides
import Derived.Handy
import Derived.Deep.QuietTactic
import Derived.BigQuiet
import Derived.Deep.DeepCutAuto
import Derived.Lib.Hide
import Derived.RegionTactic
import Derived.ChangeAlike
import Derived.Laws.ResultCell
namespace Go.Proofs.Ytmnjmjbmnhppfaa
open Go.RowKit

set_option maxRecDepth 100000 in
set_option maxHeartbeats 4000000 in
theorem swaps_bad (a : Option Addr) (cap : Nat) (l : List Pr) (key frm one two : Tx) (w : World) (hs : SlP w a cap l)
    (hbad : greatB l = true ∨ (greatB l = false ∧ mayS l = false) ∨ (greatB l = false ∧ mayS l = true ∧ mayO ⟨4, key, frm, one⟩ = false) ∨ (greatB l = false ∧ mayS l = true ∧ mayO ⟨4, key, frm, one⟩ = true ∧ mayO ⟨4, key, frm, two⟩ = false)) :
    Calls Try.prog 5 #[.slice a l.length cap, .string key, .string frm, .string one, .string two] w fun e w' => e = .returned (.bool true) ∧ Below w.heap.size w w' := by
  have HBAD := Lib.hid hbad
  clear hbad
  go_enter Try.func5, Try.ntmps5
  refine wp_seq_k (fun K hK => ?_)
  have HK := Lib.hid hK
  clear hK
  go_wp2
  refine HK.out _ _ ?_
  clear HK
  refine wp_seq_k (fun K hK => ?_)
  have HK := Lib.hid hK
  clear hK
  go_wp2_with (go_at_call 30; refine (awake_any _).mono ?_; rintro e w1 ⟨rfl, hb1⟩)
  refine HK.out _ _ ?_
  clear HK
  refine wp_seq_k (fun K hK => ?_)
  have HK := Lib.hid hK
  clear hK
  go_wp2_with (go_at_call 31; refine (op_any _ _ _ _ _).mono ?_; rintro e w2 ⟨rfl, hb2⟩; replace hb1 := hb1.trans (hb2.mono hb1.size); clear hb2)
  refine HK.out _ _ ?_
  clear HK
  have hs1 := hb1.size
  have hbN : Below w2.heap.size w2 ((w2.alloc (Obj.cells #[.int .u8 4, .string key, .string frm, .string one] 61)).alloc (Obj.cells #[.int .u8 4, .string key, .string frm, .string two] 61)) := ((Below.refl _ _).alloc (Nat.le_refl _) _).alloc (by simp) _
  have b11 := (two_new w2 (Obj.cells #[.int .u8 4, .string key, .string frm, .string one] 61) (Obj.cells #[.int .u8 4, .string key, .string frm, .string two] 61)).trans (heap_alloc_new w2 _)
  have b12 := heap_alloc2_new w2 (Obj.cells #[.int .u8 4, .string key, .string frm, .string one] 61) (Obj.cells #[.int .u8 4, .string key, .string frm, .string two] 61)
  have hb3 := hb1.trans (hbN.mono hs1)
  have hlt : w2.heap.size + 1 < ((w2.alloc (Obj.cells #[.int .u8 4, .string key, .string frm, .string one] 61)).alloc (Obj.cells #[.int .u8 4, .string key, .string frm, .string two] 61)).heap.size := by simp
  have hlt' : w2.heap.size < ((w2.alloc (Obj.cells #[.int .u8 4, .string key, .string frm, .string one] 61)).alloc (Obj.cells #[.int .u8 4, .string key, .string frm, .string two] 61)).heap.size := by omega
  generalize (w2.alloc (Obj.cells #[.int .u8 4, .string key, .string frm, .string one] 61)).alloc (Obj.cells #[.int .u8 4, .string key, .string frm, .string two] 61) = w3 at *
  have hs3 := hs.below hb3
  have hlen : greatB l = false → l.length ≤ 1000 := fun h => by have := (great_no h).1; omega
  have HL := Lib.hid hlen
  clear hlen
  rcases HBAD.out with h | ⟨h, h2⟩ | ⟨h, h2, h3⟩ | ⟨h, h2, h3, h4⟩
  · have HG := Lib.hid h
    clear h
    go_wp2_with (go_at_call 32; refine (great_any _ _ _ _ hs3).mono ?_; rintro e w' ⟨rfl, rfl⟩; rw [HG.out])
    go_ret
    exact ⟨rfl, hb3⟩
  · have hl := HL.out h
    have HG := Lib.hid h
    have HM := Lib.hid h2
    clear h h2
    go_wp2_with (first
      | (go_at_call 32; refine (great_any _ _ _ _ hs3).mono ?_; rintro e w' ⟨rfl, rfl⟩; rw [HG.out])
      | (go_at_call 33; refine (may_any _ _ _ _ hs3.row hl).mono ?_; rintro e w4 ⟨rfl, hb4⟩; rw [HM.out]))
    go_ret
    exact ⟨rfl, hb3.trans (hb4.mono hb3.size)⟩
  · have hl := HL.out h
    have HG := Lib.hid h
    have HM := Lib.hid h2
    have HA := Lib.hid h3
    clear h h2 h3
    go_wp2_with (first
      | (go_at_call 32; refine (great_any _ _ _ _ hs3).mono ?_; rintro e w' ⟨rfl, rfl⟩; rw [HG.out])
      | (go_at_call 33; refine (may_any _ _ _ _ hs3.row hl).mono ?_; rintro e w4 ⟨rfl, hb4⟩; rw [HM.out]; obtain ⟨c0, c1, c2, c3⟩ := four ((hb4.block w2.heap.size hlt').trans b11))
      | (go_at_call 34; (with_reducible refine (pmayO_any _ _ _ _ w4 _ HA.out).mono ?_); rintro e w5 ⟨rfl, hb5⟩))
    go_ret
    exact ⟨rfl, (hb3.trans (hb4.mono hb3.size)).trans (hb5.mono (hb3.trans (hb4.mono hb3.size)).size)⟩
  · have hl := HL.out h
    have HG := Lib.hid h
    have HM := Lib.hid h2
    have HA := Lib.hid h3
    have HB := Lib.hid h4
    clear h h2 h3 h4
    go_wp2_with (first
      | (go_at_call 32; refine (great_any _ _ _ _ hs3).mono ?_; rintro e w' ⟨rfl, rfl⟩; rw [HG.out])
      | (go_at_call 33; refine (may_any _ _ _ _ hs3.row hl).mono ?_; rintro e w4 ⟨rfl, hb4⟩; rw [HM.out]; obtain ⟨c0, c1, c2, c3⟩ := four ((hb4.block w2.heap.size hlt').trans b11))
      | (go_at_call 34; (with_reducible refine (pmayO_any _ _ _ _ w4 _ HA.out).mono ?_); rintro e w5 ⟨rfl, hb5⟩; have hb35 := hb4.trans (hb5.mono hb4.size); obtain ⟨d0, d1, d2, d3⟩ := four ((hb35.block (w2.heap.size + 1) hlt).trans b12))
      | (go_at_call 34; (with_reducible refine (pmayO_any _ _ _ _ w5 _ HB.out).mono ?_); rintro e w6 ⟨rfl, hb6⟩))
    go_ret
    have hb36 := hb35.trans (hb6.mono hb35.size)
    exact ⟨rfl, hb3.trans (hb36.mono hb3.size)⟩

theorem tx_self (a : Tx) : (a.toList == a.toList) = true := by simp
theorem tx_ne {a b : Tx} (h : a ≠ b) : (a.toList == b.toList) = false := by rw [tx_eq]; exact decide_eq_false h

theorem swaps_law (a : Option Addr) (cap : Nat) (l : List Pr) (key frm one two : Tx) (w : World) (hs : SlP w a cap l) :
    Calls Try.prog 5 #[.slice a l.length cap, .string key, .string frm, .string one, .string two] w fun e w' => e = .returned (.bool true) ∧ Below w.heap.size w w' := by
  cases hg : greatB l with
  | true => exact swaps_bad a cap l key frm one two w hs (.inl hg)
  | false =>
  cases hm : mayS l with
  | false => exact swaps_bad a cap l key frm one two w hs (.inr (.inl ⟨hg, hm⟩))
  | true =>
  cases ha : mayO ⟨4, key, frm, one⟩ with
  | false => exact swaps_bad a cap l key frm one two w hs (.inr (.inr (.inl ⟨hg, hm, ha⟩)))
  | true =>
  cases hb : mayO ⟨4, key, frm, two⟩ with
  | false => exact swaps_bad a cap l key frm one two w hs (.inr (.inr (.inr ⟨hg, hm, ha, hb⟩)))
  | true =>
  have hl40 := (great_no hg).1
  have hv := value_ok hm (mayO_spec ha).1
  simp only at hv
  have hx := doP_ok hm ha
  have hx2 := doP_ok hm hb
  simp only [show ¬ (4 : Int) = 1 by decide, show ¬ (4 : Int) = 2 by decide, show ¬ (4 : Int) = 3 by decide, if_false] at hx hx2
  cases hlk : look l key with
  | none =>
    have hw : wasR l key = ⟨0, false, ⟨#[]⟩⟩ := by simp [wasR, hlk]
    rw [hlk, if_neg (by simp), hw] at hx hx2
    rw [hlk] at hv
    exact swaps_good a cap l key frm one two w hs hg hm ha hb _ _ hv l l false false _ _ hx hx2 (by omega) (tx_self _) (.inl rfl) hl40 (.inl ⟨rfl, rfl, rfl⟩)
  | some u =>
    have hw : wasR l key = ⟨0, true, u⟩ := by simp [wasR, hlk]
    rw [hlk] at hv hx hx2
    by_cases hu : u = frm
    · subst hu
      rw [if_pos rfl, hw] at hx
      have hmt : mayS (putL l key one) = true := by have := doP_may ⟨4, key, u, one⟩ hm; rw [hx] at this; exact this
      have hy := doP_ok hmt hb
      simp only [show ¬ (4 : Int) = 1 by decide, show ¬ (4 : Int) = 2 by decide, show ¬ (4 : Int) = 3 by decide, if_false, look_put] at hy
      have htl : (putL l key one).length ≤ 1000 := by have := (may_spec hmt).1; omega
      have hwt : wasR (putL l key one) key = ⟨0, true, one⟩ := by simp [wasR, look_put]
      by_cases ho : one = u
      · rw [if_pos (by rw [ho]), hwt] at hy
        exact swaps_good a cap l key u one two w hs hg hm ha hb _ _ hv _ _ true true _ _ hx hy htl (tx_self _) (.inr (tx_self _)) hl40 (.inr (.inr (.inl ⟨rfl, rfl, rfl, tx_self _, by rw [ho]; exact tx_self _⟩)))
      · rw [if_neg (fun e => ho (Option.some.inj e)), hwt] at hy
        exact swaps_good a cap l key u one two w hs hg hm ha hb _ _ hv _ _ true false _ _ hx hy htl (tx_self _) (.inr (tx_self _)) hl40 (.inr (.inr (.inr ⟨rfl, rfl, rfl, tx_self _, tx_ne ho⟩)))
    · have hne : ¬ some u = some frm := fun e => hu (Option.some.inj e)
      rw [if_neg hne, hw] at hx hx2
      exact swaps_good a cap l key frm one two w hs hg hm ha hb _ _ hv l l false false _ _ hx hx2 (by omega) (tx_self _) (.inl rfl) hl40 (.inr (.inl ⟨rfl, rfl, rfl, tx_ne hu⟩))
end Go.Proofs.Ytmnjmjbmnhppfaa
