/- slices.Clone, cmp.Compare, slices.BinarySearchFunc, find, was. -/
import Derived.Test.YtiipelccmkidbaaK1
import Derived.Test.YtiipelccmkidbaaRows
import Derived.WalkKit
import Derived.WalkSpells
import Derived.WalkLawsBesides
import Derived.Handy
import Derived.Deep.QuietTactic
import Derived.BigQuiet
import Derived.Deep.DeepCutAuto
import Derived.Lib.Hide
import Derived.RegionTactic
import Derived.ChangeAlike
namespace Go.Proofs.Ytiipelccmkidbaa
open Go.RowKit

theorem elPair : ElemT Try.prog 35 46 2 32 := ElemT.of (.agg #[.string ⟨#[]⟩, .string ⟨#[]⟩]) Try.underlying35 (by kernel_rfl) rfl (by decide)

structure SlP (w : World) (a : Option Addr) (cap : Nat) (l : List Pr) : Prop where
  row : Row w a (prs l)
  le : l.length ≤ cap
  max : cap ≤ maxLen
  nil : a = none → cap = 0
theorem SlP.below {w w' : World} {a : Option Addr} {cap : Nat} {l : List Pr} (h : SlP w a cap l) (hb : Below w.heap.size w w') : SlP w' a cap l := ⟨h.row.below0 hb, h.le, h.max, h.nil⟩
theorem SlP.of_owns {w : World} {base : Nat} {e : TypeId} {v : Value} {l : List Pr} (h : w.ownsRow base e 2 v l.length (prs l)) : ∃ a cap, v = .slice a l.length cap ∧ SlP w a cap l := by
  have h0 := h
  obtain ⟨a, cap, hv, hr, hn, hm⟩ := Row.of_owns h
  refine ⟨a, cap, hv, hr, hn, hm, fun ha => ?_⟩
  subst ha
  obtain ⟨_, ⟨h1, _⟩ | ⟨g, cap', cur, h1, _⟩⟩ := h0
  · rw [hv] at h1
    injection h1
  · rw [hv] at h1
    injection h1 with h1
    cases h1

def OwnPrs (base : Nat) (l : List Pr) (e : Ending) (w' : World) : Prop := ∃ v, e = .returned v ∧ w'.ownsRow base 46 2 v l.length (prs l)

set_option maxRecDepth 100000 in
set_option maxHeartbeats 400000 in
theorem clone_any (a : Option Addr) (cap : Nat) (l : List Pr) (w : World) (hs : SlP w a cap l) (hl : l.length ≤ 1000) :
    Calls Try.prog 14 #[.slice a l.length cap] w fun e w' => OwnPrs w.heap.size l e w' ∧ Below w.heap.size w w' := by
  have hmx := hs.max
  have hle := hs.le
  unfold maxLen at hmx
  cases a with
  | none =>
    have h0 := hs.nil rfl
    have hl0 : l = [] := List.eq_nil_of_length_eq_zero (by omega)
    subst hl0 h0
    have hnil : ∀ w : World, (binOp .eql 35 (.slice none 0 0) (.slice none 0 0)).run Try.prog w = .ok (.bool true) w := fun w => Lib.run_eql_slice_nil (P := Try.prog) w 35 46 none 0 0 0 0 Try.underlying35
    go_enter Try.func14, Try.ntmps14
    go_wp2
    go_ret
    exact ⟨⟨_, rfl, World.ownsRow_nil _ _ _ _⟩, Below.refl _ _⟩
  | some ad =>
    have hb0 : Below w.heap.size w (w.alloc (Obj.cells #[] 46)) := (Below.refl _ _).alloc (Nat.le_refl _) _
    have hr0 := hs.row.below0 hb0
    have hnil : ∀ w : World, (binOp .eql 35 (.slice (some ad) l.length cap) (.slice none 0 0)).run Try.prog w = .ok (.bool false) w := fun w => Lib.run_eql_slice_nil (P := Try.prog) w 35 46 (some ad) l.length cap 0 0 Try.underlying35
    go_enter Try.func14, Try.ntmps14
    go_wp2_with (at_builtin; refine wpList_append_row rfl _ _ 35 46 elPair rfl w.heap.size _ _ _ rfl (owns_empty _ _ _) _ _ _ _ rfl (by rw [prs_len]; omega) hr0 prs_one (by omega) (by omega) (by simp) ?_; intro v5 w5 hown5 hb5)
    go_ret
    exact ⟨⟨_, rfl, by simpa using hown5⟩, hb0.trans hb5⟩

theorem isnanS (s : Tx) (w : World) : Calls Try.prog 39 #[.string s] w fun e w' => e = .returned (.bool false) ∧ w = w' := by
  go_enter Try.func39, Try.ntmps39
  go_wp2
  go_ret
  exact ⟨by simp, rfl⟩

def cmpI (a b : Tx) : Int := if kl a b then -1 else if a = b then 0 else 1
theorem cmp_any (a b : Tx) (w : World) : Calls Try.prog 36 #[.string a, .string b] w fun e w' => e = .returned (.int .i64 (cmpI a b)) ∧ w = w' := by
  cases h1 : kl a b with
  | true =>
    have e1 : cmpI a b = -1 := by simp [cmpI, h1]
    rw [e1]
    unfold kl at h1
    go_enter Try.func36, Try.ntmps36
    go_wp2_with (go_at_call 39; refine (isnanS _ _).mono ?_; rintro e w' ⟨rfl, rfl⟩)
    go_ret
    exact ⟨rfl, rfl⟩
  | false =>
    by_cases h2 : a = b
    · have e1 : cmpI a b = 0 := by subst h2; simp [cmpI, kl_irrefl]
      rw [e1]
      unfold kl at h1
      have h3 : (a.toList == b.toList) = true := by rw [tx_eq]; exact decide_eq_true h2
      clear e1 h2
      go_enter Try.func36, Try.ntmps36
      go_wp2_with (go_at_call 39; refine (isnanS _ _).mono ?_; rintro e w' ⟨rfl, rfl⟩)
      go_ret
      exact ⟨rfl, rfl⟩
    · have e1 : cmpI a b = 1 := by simp [cmpI, h1, h2]
      rw [e1]
      unfold kl at h1
      have h3 : (a.toList == b.toList) = false := by rw [tx_eq]; exact decide_eq_false h2
      clear e1 h2
      go_enter Try.func36, Try.ntmps36
      go_wp2_with (go_at_call 39; refine (isnanS _ _).mono ?_; rintro e w' ⟨rfl, rfl⟩)
      go_ret
      exact ⟨rfl, rfl⟩

theorem cmpI_lt {a b : Tx} (h : kl a b = true) : cmpI a b = -1 := by simp [cmpI, h]
theorem cmpI_eq (a : Tx) : cmpI a a = 0 := by simp [cmpI, kl_irrefl]
theorem cmpI_gt {a b : Tx} (h : kl a b = false) (hn : a ≠ b) : cmpI a b = 1 := by simp [cmpI, h, hn]

theorem find1_any (a v b : Tx) (w : World) : Calls Try.prog 35 #[.agg #[.string a, .string v], .string b] w fun e w' => e = .returned (.int .i64 (cmpI a b)) ∧ Below w.heap.size w w' := by
  go_enter Try.func35, Try.ntmps35
  go_wp2_with (go_at_call 36; refine (cmp_any _ _ _).mono ?_; rintro e w' ⟨rfl, rfl⟩)
  go_ret
  exact ⟨rfl, (Below.refl _ _).alloc (Nat.le_refl _) _⟩

def hasK (l : List Pr) (k : Tx) : Bool := (look l k).isSome
def BsK (l : List Pr) (k : Tx) (a b : Nat) : Prop := (∀ j q, l[j]? = some q → j < a → kl q.1 k = true) ∧ (∀ j q, l[j]? = some q → b ≤ j → kl q.1 k = false)
theorem bsK_lo {l : List Pr} {k : Tx} {y : Pr} {a b m : Nat} (h : Rises l) (hi : BsK l k a b) (hy : l[m]? = some y) (hyx : kl y.1 k = true) : BsK l k (m + 1) b := by
  refine ⟨fun j q hq hj => ?_, hi.2⟩
  obtain ⟨hm, rfl⟩ := List.getElem?_eq_some_iff.1 hy
  obtain ⟨hj2, rfl⟩ := List.getElem?_eq_some_iff.1 hq
  by_cases e : j = m
  · subst e; exact hyx
  · exact kl_trans (List.pairwise_iff_getElem.1 h j m hj2 hm (by omega)) hyx
theorem bsK_hi {l : List Pr} {k : Tx} {y : Pr} {a b m : Nat} (h : Rises l) (hi : BsK l k a b) (hy : l[m]? = some y) (hyx : kl y.1 k = false) : BsK l k a m := by
  refine ⟨hi.1, fun j q hq hj => ?_⟩
  obtain ⟨hm, rfl⟩ := List.getElem?_eq_some_iff.1 hy
  obtain ⟨hj2, rfl⟩ := List.getElem?_eq_some_iff.1 hq
  by_cases e : m = j
  · subst e; exact hyx
  · have h1 := List.pairwise_iff_getElem.1 h m j hm hj2 (by omega)
    cases h2 : kl l[j].1 k with
    | false => rfl
    | true => rw [kl_trans h1 h2] at hyx; cases hyx

end Go.Proofs.Ytiipelccmkidbaa
