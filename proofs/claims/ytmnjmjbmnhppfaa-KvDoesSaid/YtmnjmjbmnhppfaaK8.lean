/- slices.Equal, kv.Same, the reference's Same; MayOp, the program's and the reference's. -/
import Derived.Test.YtmnjmjbmnhppfaaK2b
import Derived.Test.YtmnjmjbmnhppfaaK7
import Derived.Test.YtmnjmjbmnhppfaaRows
import Derived.WalkKit
import Derived.WalkSpells
import Derived.WalkLawsBesides
import Derived.Handy
import Derived.Deep.QuietTactic
import Derived.BigQuiet
import Derived.Deep.DeepCutAuto
import Derived.Lib.Hide
import Derived.RegionTactic
import Derived.ChangeAlike
namespace Go.Proofs.Ytmnjmjbmnhppfaa
open Go.RowKit

@[go_sem] theorem eqPair (a b c d : Tx) (w : World) : (Op.equalIn 10000 74 (.agg #[.string a, .string b]) (.agg #[.string c, .string d])).run Try.prog w = .ok (a.toList == c.toList && b.toList == d.toList) w := by
  have u3 := Try.underlying9
  have a3 := Try.isAgg9
  have z3 := Try.sizeOf9
  have hS : Try.prog.underlying 74 = some (.struct (Try.prog.fieldsOf 74)) := by kernel_rfl
  rw [show (10000 : Nat) = 9999 + 1 from rfl, run_equalIn_agg w 9999 74 _ _ hS (by kernel_rfl)]
  simp only [Program.fieldsOf, Try.underlying74]
  go_simp
  cases h1 : (a.toList == c.toList) <;> cases h2 : (b.toList == d.toList) <;> simp_all
@[go_sem] theorem eqReply (e e' : Int) (f f' : Bool) (v v' : Tx) (w : World) : (Op.equalIn 10000 43 (.agg #[.int .i64 e, .bool f, .string v]) (.agg #[.int .i64 e', .bool f', .string v'])).run Try.prog w = .ok (e == e' && f == f' && v.toList == v'.toList) w := by
  have u3 := Try.underlying9
  have a3 := Try.isAgg9
  have z3 := Try.sizeOf9
  have u4 := Try.underlying4
  have a4 := Try.isAgg4
  have z4 := Try.sizeOf4
  have u5 := Try.underlying28
  have a5 := Try.isAgg28
  have z5 := Try.sizeOf28
  have hS : Try.prog.underlying 43 = some (.struct (Try.prog.fieldsOf 43)) := by kernel_rfl
  rw [show (10000 : Nat) = 9999 + 1 from rfl, run_equalIn_agg w 9999 43 _ _ hS (by kernel_rfl)]
  simp only [Program.fieldsOf, Try.underlying43]
  go_simp
  cases h1 : (e == e') <;> cases h2 : (f == f') <;> cases h3 : (v.toList == v'.toList) <;> simp_all
@[go_sem] theorem eqOp (k k' : Int) (a b c a' b' c' : Tx) (w : World) : (Op.equalIn 10000 61 (.agg #[.int .u8 k, .string a, .string b, .string c]) (.agg #[.int .u8 k', .string a', .string b', .string c'])).run Try.prog w = .ok (k == k' && a.toList == a'.toList && b.toList == b'.toList && c.toList == c'.toList) w := by
  have u3 := Try.underlying9
  have a3 := Try.isAgg9
  have z3 := Try.sizeOf9
  have u5 := Try.underlying5
  have a5 := Try.isAgg5
  have z5 := Try.sizeOf5
  have hS : Try.prog.underlying 61 = some (.struct (Try.prog.fieldsOf 61)) := by kernel_rfl
  rw [show (10000 : Nat) = 9999 + 1 from rfl, run_equalIn_agg w 9999 61 _ _ hS (by kernel_rfl)]
  simp only [Program.fieldsOf, Try.underlying61]
  go_simp
  cases h1 : (k == k') <;> cases h2 : (a.toList == a'.toList) <;> cases h3 : (b.toList == b'.toList) <;> cases h4 : (c.toList == c'.toList) <;> simp_all

def sameUp (l m : List Pr) (k : Nat) : Prop := ∀ i x y, i < k → l[i]? = some x → m[i]? = some y → x = y
theorem sameUp_zero (l m : List Pr) : sameUp l m 0 := fun i _ _ h => by omega
theorem sameUp_succ {l m : List Pr} {k : Nat} {x : Pr} (h : sameUp l m k) (hx : l[k]? = some x) (hy : m[k]? = some x) : sameUp l m (k + 1) := by
  intro i a b hi ha hb
  by_cases e : i = k
  · subst e
    rw [hx] at ha
    rw [hy] at hb
    exact (Option.some.inj ha).symm.trans (Option.some.inj hb)
  · exact h i a b (by omega) ha hb
theorem sameUp_all {l m : List Pr} (hl : l.length = m.length) (h : sameUp l m l.length) : l = m := by
  refine List.ext_getElem hl fun i h1 h2 => ?_
  exact h i _ _ h1 (List.getElem?_eq_getElem h1) (List.getElem?_eq_getElem h2)

theorem pair_ne {a b c d : Tx} (h : ¬ (a, b) = (c, d)) : (a.toList == c.toList) = false ∨ (a = c ∧ (b.toList == d.toList) = false) := by
  rw [tx_eq, tx_eq, decide_eq_false_iff_not, decide_eq_false_iff_not]
  by_cases e : a = c
  · exact .inr ⟨e, fun e2 => h (by rw [e, e2])⟩
  · exact .inl e

set_option maxHeartbeats 2000000 in
theorem rsame_any (a b : Option Addr) (c d : Nat) (l m : List Pr) (w : World) (ha : Row w a (prs l)) (hb : Row w b (prs m)) (hl : l.length ≤ 1000) (hm : m.length ≤ 1000) (r : Bool) (hr : decide (l = m) = r) :
    Calls Try.prog 40 #[.slice a l.length c, .slice b m.length d] w fun e w' => e = .returned (.bool r) ∧ ∃ q, w' = w.drewN q := by
  have HR := Lib.hid hr
  clear hr
  by_cases hlen : l.length = m.length
  · go_enter Try.func40, Try.ntmps40
    rw [← hlen]
    have hml : m.length = l.length := hlen.symm
    have HL := Lib.hid hlen
    have HML := Lib.hid hml
    clear hlen hml
    refine wp_seq_k (fun K hK => ?_)
    have HK := Lib.hid hK
    clear hK
    go_wp2
    refine HK.out _ _ ?_
    clear HK
    refine wp_seq_k (fun K hK => ?_)
    have HK := Lib.hid hK
    clear hK
    go_wp2
    refine HK.out _ _ ?_
    clear HK
    go_wp2_with fail
    go_loopw [5] (fun i wr => ∃ k q : Nat, k ≤ l.length ∧ i = .int .i64 k ∧ sameUp l m k ∧ wr = w.drewN q) (fun i _ => l.length - (intOf i).toNat)
    case atStart => exact ⟨0, 0, by omega, rfl, sameUp_zero _ _, rfl⟩
    case round =>
      obtain ⟨k, q, hk, rfl, hs, rfl⟩ := hrel
      by_cases hlt : k < l.length
      · have hlt2 : k < m.length := by rw [HML.out]; exact hlt
        obtain ⟨b1, o1, rfl, hbl1, hc1⟩ := ha.pair (List.getElem?_eq_getElem hlt)
        obtain ⟨c0, c1⟩ := hc1 _ _ (List.getElem?_eq_getElem hlt)
        obtain ⟨b2, o2, rfl, hbl2, hc2⟩ := hb.pair (List.getElem?_eq_getElem hlt2)
        obtain ⟨d0, d1⟩ := hc2 _ _ (List.getElem?_eq_getElem hlt2)
        have hsx : l[k] = m[k] → sameUp l m (k + 1) := fun e => sameUp_succ hs (List.getElem?_eq_getElem hlt) (by rw [List.getElem?_eq_getElem hlt2, e])
        have hne : l[k] ≠ m[k] → r = false := fun e => by rw [← HR.out]; exact decide_eq_false fun e2 => e (by subst e2; rfl)
        clear hc1 hc2
        generalize l[k] = x at *
        generalize m[k] = y at *
        obtain ⟨x1, x2⟩ := x
        obtain ⟨y1, y2⟩ := y
        by_cases he : (x1, x2) = (y1, y2)
        · have hs2 := hsx he
          injection he with e1 e2
          subst e1 e2
          clear hsx hne
          go_wp2_with fail
          go_quiet (fail)
          go_wp2
          go_roundw
          case rel => exact ⟨k + 1, _, by omega, by go_num, hs2, rfl⟩
          case measure => simp [intOf]; omega
        · have hr2 := hne he
          have hpn := pair_ne he
          clear hsx hne he
          subst hr2
          rcases hpn with hpn | ⟨rfl, hpn⟩
          all_goals
            go_wp2_with fail
            go_quiet (fail)
            go_wp2
            go_ret
            exact ⟨rfl, q + nq, by rw [World.drewN_drewN]⟩
      · have hall := sameUp_all HL.out (by rw [show l.length = k by omega]; exact hs)
        have hr2 : r = true := by rw [← HR.out]; exact decide_eq_true hall
        subst hr2
        clear hall
        go_wp2
        go_ret
        exact ⟨rfl, _, rfl⟩
  · have hr2 : r = false := by rw [← HR.out]; exact decide_eq_false fun e => hlen (by rw [e])
    subst hr2
    have h1 : ((l.length : Int) != (m.length : Int)) = true := by rw [bne_iff_ne]; omega
    go_enter Try.func40, Try.ntmps40
    go_wp2
    go_ret
    exact ⟨rfl, 0, rfl⟩
set_option maxHeartbeats 2000000 in
theorem equal_any (a b : Option Addr) (c d : Nat) (l m : List Pr) (w : World) (ha : Row w a (prs l)) (hb : Row w b (prs m)) (hl : l.length ≤ 1000) (hm : m.length ≤ 1000) (r : Bool) (hr : decide (l = m) = r) :
    Calls Try.prog 78 #[.slice a l.length c, .slice b m.length d] w fun e w' => e = .returned (.bool r) ∧ ∃ q, w' = w.drewN q := by
  have HR := Lib.hid hr
  clear hr
  by_cases hlen : l.length = m.length
  · go_enter Try.func78, Try.ntmps78
    rw [← hlen]
    have hml : m.length = l.length := hlen.symm
    have HL := Lib.hid hlen
    have HML := Lib.hid hml
    clear hlen hml
    refine wp_seq_k (fun K hK => ?_)
    have HK := Lib.hid hK
    clear hK
    go_wp2
    refine HK.out _ _ ?_
    clear HK
    refine wp_seq_k (fun K hK => ?_)
    have HK := Lib.hid hK
    clear hK
    go_wp2
    refine HK.out _ _ ?_
    clear HK
    go_wp2_with fail
    go_loopw [13] (fun i wr => ∃ k q : Nat, k ≤ l.length ∧ i = .int .i64 k ∧ sameUp l m k ∧ wr = w.drewN q) (fun i _ => l.length - (intOf i).toNat)
    case atStart => exact ⟨0, 0, by omega, rfl, sameUp_zero _ _, rfl⟩
    case round =>
      obtain ⟨k, q, hk, rfl, hs, rfl⟩ := hrel
      by_cases hlt : k < l.length
      · have hlt2 : k < m.length := by rw [HML.out]; exact hlt
        obtain ⟨b1, o1, rfl, hbl1, hc1⟩ := ha.pair (List.getElem?_eq_getElem hlt)
        obtain ⟨c0, c1⟩ := hc1 _ _ (List.getElem?_eq_getElem hlt)
        obtain ⟨b2, o2, rfl, hbl2, hc2⟩ := hb.pair (List.getElem?_eq_getElem hlt2)
        obtain ⟨d0, d1⟩ := hc2 _ _ (List.getElem?_eq_getElem hlt2)
        have hsx : l[k] = m[k] → sameUp l m (k + 1) := fun e => sameUp_succ hs (List.getElem?_eq_getElem hlt) (by rw [List.getElem?_eq_getElem hlt2, e])
        have hne : l[k] ≠ m[k] → r = false := fun e => by rw [← HR.out]; exact decide_eq_false fun e2 => e (by subst e2; rfl)
        clear hc1 hc2
        generalize l[k] = x at *
        generalize m[k] = y at *
        obtain ⟨x1, x2⟩ := x
        obtain ⟨y1, y2⟩ := y
        by_cases he : (x1, x2) = (y1, y2)
        · have hs2 := hsx he
          injection he with e1 e2
          subst e1 e2
          clear hsx hne
          go_wp2_with fail
          go_quiet (fail)
          go_wp2
          go_roundw
          case rel => exact ⟨k + 1, _, by omega, by go_num, hs2, rfl⟩
          case measure => simp [intOf]; omega
        · have hr2 := hne he
          have hpn := pair_ne he
          clear hsx hne he
          subst hr2
          rcases hpn with hpn | ⟨rfl, hpn⟩
          all_goals
            go_wp2_with fail
            go_quiet (fail)
            go_wp2
            go_ret
            exact ⟨rfl, q + nq, by rw [World.drewN_drewN]⟩
      · have hall := sameUp_all HL.out (by rw [show l.length = k by omega]; exact hs)
        have hr2 : r = true := by rw [← HR.out]; exact decide_eq_true hall
        subst hr2
        clear hall
        go_wp2
        go_ret
        exact ⟨rfl, _, rfl⟩
  · have hr2 : r = false := by rw [← HR.out]; exact decide_eq_false fun e => hlen (by rw [e])
    subst hr2
    have h1 : ((l.length : Int) != (m.length : Int)) = true := by rw [bne_iff_ne]; omega
    go_enter Try.func78, Try.ntmps78
    go_wp2
    go_ret
    exact ⟨rfl, 0, rfl⟩
theorem psame_any (a b : Option Addr) (c d : Nat) (l m : List Pr) (w : World) (ha : Row w a (prs l)) (hb : Row w b (prs m)) (hl : l.length ≤ 1000) (hm : m.length ≤ 1000) (r : Bool) (hr : decide (l = m) = r) :
    Calls Try.prog 37 #[.slice a l.length c, .slice b m.length d] w fun e w' => e = .returned (.bool r) ∧ ∃ q, w' = w.drewN q := by
  go_enter Try.func37, Try.ntmps37
  go_wp2_with (go_at_call 78; refine (equal_any a b c d l m _ ha hb hl hm r hr).mono ?_; rintro e w1 ⟨rfl, q, rfl⟩)
  go_ret
  exact ⟨rfl, _, rfl⟩
end Go.Proofs.Ytmnjmjbmnhppfaa
