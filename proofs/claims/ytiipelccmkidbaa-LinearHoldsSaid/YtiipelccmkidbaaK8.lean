/- slices.Equal, kv.Same, the reference's Same; MayOp, the program's and the reference's. -/
import Derived.Test.YtiipelccmkidbaaK2b
import Derived.Test.YtiipelccmkidbaaK7
import Derived.Test.YtiipelccmkidbaaRows
import Derived.WalkKit
import Derived.WalkSpells
import Derived.WalkLawsBesides
import Derived.Handy
import Derived.Deep.QuietTactic
import Derived.BigQuiet
import Derived.Deep.DeepCutAuto
import Derived.Lib.Hide
import Derived.RegionTactic
import Derived.ChangeAlike
namespace Go.Proofs.Ytiipelccmkidbaa
open Go.RowKit

@[go_sem] theorem eqPair (a b c d : Tx) (w : World) : (Op.equalIn 10000 46 (.agg #[.string a, .string b]) (.agg #[.string c, .string d])).run Try.prog w = .ok (a.toList == c.toList && b.toList == d.toList) w := by
  have u3 := Try.underlying9
  have a3 := Try.isAgg9
  have z3 := Try.sizeOf9
  have hS : Try.prog.underlying 46 = some (.struct (Try.prog.fieldsOf 46)) := by kernel_rfl
  rw [show (10000 : Nat) = 9999 + 1 from rfl, run_equalIn_agg w 9999 46 _ _ hS (by kernel_rfl)]
  simp only [Program.fieldsOf, Try.underlying46]
  go_simp
  cases h1 : (a.toList == c.toList) <;> cases h2 : (b.toList == d.toList) <;> simp_all
@[go_sem] theorem eqReply (e e' : Int) (f f' : Bool) (v v' : Tx) (w : World) : (Op.equalIn 10000 30 (.agg #[.int .i64 e, .bool f, .string v]) (.agg #[.int .i64 e', .bool f', .string v'])).run Try.prog w = .ok (e == e' && f == f' && v.toList == v'.toList) w := by
  have u3 := Try.underlying9
  have a3 := Try.isAgg9
  have z3 := Try.sizeOf9
  have u4 := Try.underlying4
  have a4 := Try.isAgg4
  have z4 := Try.sizeOf4
  have u5 := Try.underlying28
  have a5 := Try.isAgg28
  have z5 := Try.sizeOf28
  have hS : Try.prog.underlying 30 = some (.struct (Try.prog.fieldsOf 30)) := by kernel_rfl
  rw [show (10000 : Nat) = 9999 + 1 from rfl, run_equalIn_agg w 9999 30 _ _ hS (by kernel_rfl)]
  simp only [Program.fieldsOf, Try.underlying30]
  go_simp
  cases h1 : (e == e') <;> cases h2 : (f == f') <;> cases h3 : (v.toList == v'.toList) <;> simp_all
@[go_sem] theorem eqOp (k k' : Int) (a b c a' b' c' : Tx) (w : World) : (Op.equalIn 10000 27 (.agg #[.int .u8 k, .string a, .string b, .string c]) (.agg #[.int .u8 k', .string a', .string b', .string c'])).run Try.prog w = .ok (k == k' && a.toList == a'.toList && b.toList == b'.toList && c.toList == c'.toList) w := by
  have u3 := Try.underlying9
  have a3 := Try.isAgg9
  have z3 := Try.sizeOf9
  have u5 := Try.underlying5
  have a5 := Try.isAgg5
  have z5 := Try.sizeOf5
  have hS : Try.prog.underlying 27 = some (.struct (Try.prog.fieldsOf 27)) := by kernel_rfl
  rw [show (10000 : Nat) = 9999 + 1 from rfl, run_equalIn_agg w 9999 27 _ _ hS (by kernel_rfl)]
  simp only [Program.fieldsOf, Try.underlying27]
  go_simp
  cases h1 : (k == k') <;> cases h2 : (a.toList == a'.toList) <;> cases h3 : (b.toList == b'.toList) <;> cases h4 : (c.toList == c'.toList) <;> simp_all

def sameUp (l m : List Pr) (k : Nat) : Prop := ∀ i x y, i < k → l[i]? = some x → m[i]? = some y → x = y
theorem sameUp_zero (l m : List Pr) : sameUp l m 0 := fun i _ _ h => by omega
theorem sameUp_succ {l m : List Pr} {k : Nat} {x : Pr} (h : sameUp l m k) (hx : l[k]? = some x) (hy : m[k]? = some x) : sameUp l m (k + 1) := by
  intro i a b hi ha hb
  by_cases e : i = k
  · subst e
    rw [hx] at ha
    rw [hy] at hb
    exact (Option.some.inj ha).symm.trans (Option.some.inj hb)
  · exact h i a b (by omega) ha hb
theorem sameUp_all {l m : List Pr} (hl : l.length = m.length) (h : sameUp l m l.length) : l = m := by
  refine List.ext_getElem hl fun i h1 h2 => ?_
  exact h i _ _ h1 (List.getElem?_eq_getElem h1) (List.getElem?_eq_getElem h2)

theorem pair_ne {a b c d : Tx} (h : ¬ (a, b) = (c, d)) : (a.toList == c.toList) = false ∨ (a = c ∧ (b.toList == d.toList) = false) := by
  rw [tx_eq, tx_eq, decide_eq_false_iff_not, decide_eq_false_iff_not]
  by_cases e : a = c
  · exact .inr ⟨e, fun e2 => h (by rw [e, e2])⟩
  · exact .inl e

end Go.Proofs.Ytiipelccmkidbaa
