/- slices.Delete of one number; Insert and Delete on a row of the call's own; the program's Note. -/
import Derived.Test.YtjolhdlnjdmbeaaN3
import Derived.Test.YtjolhdlnjdmbeaaRows
import Derived.WalkKit
import Derived.WalkSpells
import Derived.WalkLawsBesides
import Derived.Handy
import Derived.Deep.QuietTactic
import Derived.BigQuiet
import Derived.Deep.DeepCutAuto
import Derived.Lib.Hide
import Derived.RegionTactic
import Derived.ChangeAlike
import Derived.StillTailTactics
namespace Go.Proofs.Ytjolhdlnjdmbeaa
open Go.RowKit

theorem zeroInt : ∃ z : Value, (∀ w, (zeroValue 3).run Try.prog w = .ok z w) ∧ z.cells.size = 1 ∧ ∀ u ∈ z.cells.toList, u.oneCell' = true :=
  ⟨.int .i64 0, fun w => by kernel_rfl, rfl, by simp [Value.cells]; rfl⟩

set_option maxRecDepth 100000 in
set_option maxHeartbeats 1000000 in
theorem delete_one (base n i cap g : Nat) (A D Z : List Value) (y : Value) (w : World) (hA : A.length = i) (hD : D.length = n - i - 1) (hZ : Z.length = cap - n) (hcur : w.heap[g]? = some (.cells (A ++ [y] ++ D ++ Z).toArray 3 (0, 0))) (hbg : base ≤ g)
    (h2 : ∀ u ∈ D, u.oneCell' = true) (hn : n ≤ 1000000) (hi : i < n) (hcap : n ≤ cap) (hm : cap ≤ maxLen) (hbase : base ≤ w.heap.size) :
    Calls Try.prog 20 #[.slice (some ⟨g, 0, none⟩) n cap, .int .i64 i, .int .i64 ((i : Int) + 1)] w fun e w' => OwnRes base 3 1 (n - 1) (A ++ D) e w' ∧ Below base w w' := by
  have hgs : g < w.heap.size := (Array.getElem?_eq_some_iff.1 hcur).1
  have hdr : ∀ j u, D[j]? = some u → w.drew.cell? ((⟨g, i + 1, none⟩ : Addr).add j) = some u := cells_row (w := w.drew) (A := A ++ [y]) (C := Z) hcur (by simp [hA])
  have HC := Lib.hid hcur
  have HDR := Lib.hid hdr
  have HA := Lib.hid hA
  have HD := Lib.hid hD
  have HZ := Lib.hid hZ
  have H2 := Lib.hid h2
  clear hcur hdr hA hD hZ h2
  unfold maxLen at hm
  have hne : ((i : Int) == (i : Int) + 1) = false := by rw [beq_eq_false_iff_ne]; omega
  have hw0 : (i : Int) + 1 ≤ (n : Int) := by omega
  have hw10 : (i : Int) < (n : Int) := by omega
  have hw2 : 0 ≤ (i : Int) + 1 := by omega
  have hw3 : ((i : Int) + 1).toNat = i + 1 := by omega
  have hw6 : (i : Int) ≤ (n : Int) := by omega
  have hw7 : ¬ cap = i := by omega
  have hw8 : i ≤ n := by omega
  have hw11 : i ≤ cap := by omega
  have hw9 : i + 1 ≤ n := by omega
  have HS2 : Hid (i + D.length ≤ (A ++ [y] ++ D ++ Z).length) := Lib.hid (by simp only [List.length_append, List.length_singleton, HA.out, HD.out, HZ.out]; omega)
  by_cases hce : cap = i + 1
  · obtain rfl : n = i + 1 := by omega
    obtain rfl : cap = i + 1 := by omega
    have hv1 : (i : Int) ≤ (i : Int) + 1 := by omega
    have hd0 : D = [] := List.eq_nil_of_length_eq_zero (by rw [HD.out]; omega)
    have hz0 : Z = [] := List.eq_nil_of_length_eq_zero (by rw [HZ.out]; omega)
    subst hd0 hz0
    have HC0 : Hid (w.heap[g]? = some (.cells (A ++ [y]).toArray 3 (0, 0))) := by
      have := HC.out
      exact Lib.hid (by simpa using this)
    go_enter Try.func20, Try.ntmps20
    go_wp2_with fail
    go_still_tail 6, (by kernel_rfl)
    refine wpList_append_room rfl _ _ 28 3 elInt rfl g i (i + 1) rfl (A ++ [y]) HC0.out ⟨g, 0, none⟩ 0 0 [] rfl (by simp) (by simp) (by simp) (by omega) (by simp [HA.out]) ?_
    intro w1 HC1 hg1
    have hb1 := grown_below hg1 (B := base) (show base ≤ w.heap.size from hbase) (fun k hk => by cases hk; exact hbg)
    have hbA : Below base w w1 := (Below.refl _ _).drew.trans hb1
    have hsz1 : w.heap.size ≤ w1.heap.size := hg1.size
    have HV : Hid (∃ z : Value, (∀ w, (zeroValue 3).run Try.prog w = .ok z w) ∧ z.cells.size = 1 ∧ ∀ u ∈ (Builtin.zeroCells z.cells 1).toList, u.oneCell' = true) := by
      obtain ⟨z, h1, h2, h3⟩ := zeroInt
      exact Lib.hid ⟨z, h1, h2, zeroCells_mem h3⟩
    have hC1 := HC1.out
    have e1 : splice (A ++ [y]) (i * 1) [] = A ++ [y] := by simp [splice]
    rw [e1] at hC1
    have HC2 := Lib.hid hC1
    clear hC1 HC1 e1
    have HS3 : Hid (i + 1 * 1 ≤ (A ++ [y]).length) := Lib.hid (by simp [HA.out])
    go_wp2_with (first | (at_builtin; fail) | (refine wpList_clearK rfl _ 28 3 elInt rfl g i 1 1 rfl (by omega) (A ++ [y]) HC2.out HS3.out HV.out ?_))
    intro w2 zs hzl HC3 hg2
    have hb2 := hbA.trans (grown_below hg2 (by omega) (fun k hk => by cases hk; exact hbg))
    go_wp2
    go_ret
    refine ⟨⟨_, rfl, ?_⟩, hb2⟩
    have ha := HA.out
    subst ha
    refine owns_of_cur HC3.out hbg (by omega) (by unfold maxLen; omega) ?_ ?_
    · rw [splice_at rfl]
      simp [hzl]
    · rw [splice_at rfl]
      simp
  · go_enter Try.func20, Try.ntmps20
    go_wp2_with fail
    go_still_tail 6, (by kernel_rfl)
    refine wpList_append_room rfl _ _ 28 3 elInt rfl g i cap rfl (A ++ [y] ++ D ++ Z) HC.out ⟨g, i + 1, none⟩ (n - (i + 1)) (cap - (i + 1)) D rfl (by rw [HD.out]; omega) HDR.out H2.out (by omega) (by simpa using HS2.out) ?_
    intro w1 HC1 hg1
    rw [show i + (n - (i + 1)) = n - 1 by omega]
    have hw12 : ((n - 1 : Nat) : Int) ≤ (n : Int) := by omega
    have hw13 : n - 1 ≤ n := by omega
    have hw14 : ¬ cap = n - 1 := by omega
    have hw15 : n - (n - 1) = 1 := by omega
    have hb1 := grown_below hg1 (B := base) (show base ≤ w.heap.size from hbase) (fun k hk => by cases hk; exact hbg)
    have hbA : Below base w w1 := (Below.refl _ _).drew.trans hb1
    have hsz1 : w.heap.size ≤ w1.heap.size := hg1.size
    have HS3 : Hid (n - 1 + 1 * 1 ≤ (splice (A ++ [y] ++ D ++ Z) (i * 1) D).length) := Lib.hid (by rw [length_splice _ _ _ (by simpa using HS2.out)]; simp only [List.length_append, List.length_singleton, HA.out, HD.out, HZ.out]; omega)
    have HV : Hid (∃ z : Value, (∀ w, (zeroValue 3).run Try.prog w = .ok z w) ∧ z.cells.size = 1 ∧ ∀ u ∈ (Builtin.zeroCells z.cells 1).toList, u.oneCell' = true) := by
      obtain ⟨z, h1, h2, h3⟩ := zeroInt
      exact Lib.hid ⟨z, h1, h2, zeroCells_mem h3⟩
    go_wp2_with (first | (at_builtin; fail) | (refine wpList_clearK rfl _ 28 3 elInt rfl g (n - 1) 1 (cap - (n - 1)) rfl (by omega) (splice (A ++ [y] ++ D ++ Z) (i * 1) D) HC1.out HS3.out HV.out ?_))
    intro w2 zs hzl HC2 hg2
    have hb2 := hbA.trans (grown_below hg2 (by omega) (fun k hk => by cases hk; exact hbg))
    go_wp2
    go_ret
    refine ⟨⟨_, rfl, ?_⟩, hb2⟩
    refine owns_of_cur HC2.out hbg (by omega) (by unfold maxLen; omega) ?_ ?_
    · have ha := HA.out
      have h1 := HS3.out
      have h2 := HS2.out
      simp only [List.append_assoc, List.cons_append, List.nil_append, Nat.mul_one] at h1 h2
      rw [length_splice _ _ _ (by rw [hzl]; omega), length_splice _ _ _ h2]
      simp only [List.length_append, List.length_cons, HA.out, HD.out, HZ.out]; omega
    · have ha := HA.out
      subst ha
      rw [splice_at rfl, splice_at (by simp only [List.length_append, HD.out]; omega), List.append_assoc, take_len (by simp only [List.length_append, HD.out]; omega)]
end Go.Proofs.Ytjolhdlnjdmbeaa
