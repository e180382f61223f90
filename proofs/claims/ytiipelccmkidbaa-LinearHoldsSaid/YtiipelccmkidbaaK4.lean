/- slices.Delete of one pair; Insert and Delete on a row of the call's own. -/
import Derived.Test.YtiipelccmkidbaaK3
import Derived.Test.YtiipelccmkidbaaRows
import Derived.WalkKit
import Derived.WalkSpells
import Derived.WalkLawsBesides
import Derived.Handy
import Derived.Deep.QuietTactic
import Derived.BigQuiet
import Derived.Deep.DeepCutAuto
import Derived.Lib.Hide
import Derived.RegionTactic
import Derived.ChangeAlike
import Derived.StillTailTactics
namespace Go.Proofs.Ytiipelccmkidbaa
open Go.RowKit

theorem zeroPair : ∃ z : Value, (∀ w, (zeroValue 46).run Try.prog w = .ok z w) ∧ z.cells.size = 2 ∧ ∀ u ∈ z.cells.toList, u.oneCell' = true :=
  ⟨.agg #[.string ⟨#[]⟩, .string ⟨#[]⟩], fun w => by kernel_rfl, rfl, by simp [Value.cells]; rfl⟩

set_option maxRecDepth 100000 in
set_option maxHeartbeats 1000000 in
theorem delete_one (base n i cap g : Nat) (A D Z : List Value) (x y : Value) (w : World) (hA : A.length = i * 2) (hD : D.length = n * 2 - i * 2 - 2) (hZ : Z.length = cap * 2 - n * 2) (hcur : w.heap[g]? = some (.cells (A ++ [x, y] ++ D ++ Z).toArray 46 (0, 0))) (hbg : base ≤ g)
    (h2 : ∀ u ∈ D, u.oneCell' = true) (hn : n ≤ 1000000) (hi : i < n) (hcap : n ≤ cap) (hm : cap ≤ maxLen) (_ : base ≤ w.heap.size) :
    Calls Try.prog 33 #[.slice (some ⟨g, 0, none⟩) n cap, .int .i64 i, .int .i64 ((i : Int) + 1)] w fun e w' => OwnRes2 base (n - 1) (A ++ D) e w' ∧ w.grownBy w' (some g) := by
  have hgs : g < w.heap.size := (Array.getElem?_eq_some_iff.1 hcur).1
  have hdr : ∀ j u, D[j]? = some u → w.drew.cell? ((⟨g, (i + 1) * 2, none⟩ : Addr).add j) = some u := cells_row (w := w.drew) (A := A ++ [x, y]) (C := Z) hcur (by simp [hA]; omega)
  have HC := Lib.hid hcur
  have HDR := Lib.hid hdr
  have HA := Lib.hid hA
  have HD := Lib.hid hD
  have HZ := Lib.hid hZ
  have H2 := Lib.hid h2
  clear hcur hdr hA hD hZ h2
  unfold maxLen at hm
  have hne : ((i : Int) == (i : Int) + 1) = false := by rw [beq_eq_false_iff_ne]; omega
  have hw0 : (i : Int) + 1 ≤ (n : Int) := by omega
  have hw10 : (i : Int) < (n : Int) := by omega
  have hw2 : 0 ≤ (i : Int) + 1 := by omega
  have hw3 : ((i : Int) + 1).toNat = i + 1 := by omega
  have hw6 : (i : Int) ≤ (n : Int) := by omega
  have hw7 : ¬ cap = i := by omega
  have hw8 : i ≤ n := by omega
  have hw11 : i ≤ cap := by omega
  have hw9 : i + 1 ≤ n := by omega
  have HS2 : Hid (i * 2 + D.length ≤ (A ++ [x, y] ++ D ++ Z).length) := Lib.hid (by simp only [List.length_append, List.length_cons, List.length_nil, HA.out, HD.out, HZ.out]; omega)
  by_cases hce : cap = i + 1
  · obtain rfl : n = i + 1 := by omega
    obtain rfl : cap = i + 1 := by omega
    have hv1 : (i : Int) ≤ (i : Int) + 1 := by omega
    have hd0 : D = [] := List.eq_nil_of_length_eq_zero (by rw [HD.out]; omega)
    have hz0 : Z = [] := List.eq_nil_of_length_eq_zero (by rw [HZ.out]; omega)
    subst hd0 hz0
    have HC0 : Hid (w.heap[g]? = some (.cells (A ++ [x, y]).toArray 46 (0, 0))) := by
      have := HC.out
      exact Lib.hid (by simpa using this)
    go_enter Try.func33, Try.ntmps33
    go_wp2_with fail
    go_still_tail 6, (by kernel_rfl)
    refine wpList_append_room rfl _ _ 35 46 elPair rfl g i (i + 1) rfl (A ++ [x, y]) HC0.out ⟨g, 0, none⟩ 0 0 [] rfl (by simp) (by simp) (by simp) (by omega) (by simp [HA.out]) ?_
    intro w1 HC1 hg1
    have hbA : w.grownBy w1 (some g) := gb_trans (gb_drew (World.grownBy.refl _ _)) hg1 (fun k hk => .inr hk)
    have hsz1 : w.heap.size ≤ w1.heap.size := hg1.size
    have HV : Hid (∃ z : Value, (∀ w, (zeroValue 46).run Try.prog w = .ok z w) ∧ z.cells.size = 2 ∧ ∀ u ∈ (Builtin.zeroCells z.cells 1).toList, u.oneCell' = true) := by
      obtain ⟨z, h1, h2, h3⟩ := zeroPair
      exact Lib.hid ⟨z, h1, h2, zeroCells_mem h3⟩
    have hC1 := HC1.out
    have e1 : splice (A ++ [x, y]) (i * 2) [] = A ++ [x, y] := by simp [splice]
    rw [e1] at hC1
    have HC2 := Lib.hid hC1
    clear hC1 HC1 e1
    have HS3 : Hid (i * 2 + 1 * 2 ≤ (A ++ [x, y]).length) := Lib.hid (by simp [HA.out])
    go_wp2_with (first | (at_builtin; fail) | (refine wpList_clearK rfl _ 35 46 elPair rfl g (i * 2) 1 1 rfl (by omega) (A ++ [x, y]) HC2.out HS3.out HV.out ?_))
    intro w2 zs hzl HC3 hg2
    have hb2 := gb_trans hbA hg2 (fun k hk => .inr hk)
    go_wp2
    go_ret
    refine ⟨⟨_, rfl, ?_⟩, hb2⟩
    have ha := HA.out
    have hC3 := HC3.out
    rw [show i * 2 = A.length from ha.symm, splice_at rfl] at hC3
    refine owns_of_cur hC3 hbg (by omega) (by unfold maxLen; omega) ?_ ?_
    · simp [hzl, ha]; omega
    · rw [show i * 2 = A.length from ha.symm]
      simp
  · go_enter Try.func33, Try.ntmps33
    go_wp2_with fail
    go_still_tail 6, (by kernel_rfl)
    refine wpList_append_room rfl _ _ 35 46 elPair rfl g i cap rfl (A ++ [x, y] ++ D ++ Z) HC.out ⟨g, (i + 1) * 2, none⟩ (n - (i + 1)) (cap - (i + 1)) D rfl (by rw [HD.out]; omega) HDR.out H2.out (by omega) (by simpa using HS2.out) ?_
    intro w1 HC1 hg1
    rw [show i + (n - (i + 1)) = n - 1 by omega]
    have hw12 : ((n - 1 : Nat) : Int) ≤ (n : Int) := by omega
    have hw13 : n - 1 ≤ n := by omega
    have hw14 : ¬ cap = n - 1 := by omega
    have hw15 : n - (n - 1) = 1 := by omega
    have hbA : w.grownBy w1 (some g) := gb_trans (gb_drew (World.grownBy.refl _ _)) hg1 (fun k hk => .inr hk)
    have hsz1 : w.heap.size ≤ w1.heap.size := hg1.size
    have HS3 : Hid ((n - 1) * 2 + 1 * 2 ≤ (splice (A ++ [x, y] ++ D ++ Z) (i * 2) D).length) := Lib.hid (by rw [length_splice _ _ _ (by simpa using HS2.out)]; simp only [List.length_append, List.length_cons, List.length_nil, HA.out, HD.out, HZ.out]; omega)
    have HV : Hid (∃ z : Value, (∀ w, (zeroValue 46).run Try.prog w = .ok z w) ∧ z.cells.size = 2 ∧ ∀ u ∈ (Builtin.zeroCells z.cells 1).toList, u.oneCell' = true) := by
      obtain ⟨z, h1, h2, h3⟩ := zeroPair
      exact Lib.hid ⟨z, h1, h2, zeroCells_mem h3⟩
    go_wp2_with (first | (at_builtin; fail) | (refine wpList_clearK rfl _ 35 46 elPair rfl g ((n - 1) * 2) 1 (cap - (n - 1)) rfl (by omega) (splice (A ++ [x, y] ++ D ++ Z) (i * 2) D) HC1.out HS3.out HV.out ?_))
    intro w2 zs hzl HC2 hg2
    have hb2 := gb_trans hbA hg2 (fun k hk => .inr hk)
    go_wp2
    go_ret
    refine ⟨⟨_, rfl, ?_⟩, hb2⟩
    have ha := HA.out
    have hC2 := HC2.out
    have h1 := HS3.out
    have h2 := HS2.out
    have e2 : (n - 1) * 2 = (A ++ D).length := by simp only [List.length_append, HD.out, ha]; omega
    simp only [List.append_assoc, List.cons_append, List.nil_append, show i * 2 = A.length from ha.symm] at hC2 h1 h2
    rw [length_splice _ _ _ h2] at h1
    refine owns_of_cur hC2 hbg (by omega) (by unfold maxLen; omega) ?_ ?_
    · rw [length_splice _ _ _ (by rw [hzl, length_splice _ _ _ h2]; omega), length_splice _ _ _ h2]
      simp only [List.length_append, List.length_cons, HA.out, HD.out, HZ.out]; omega
    · rw [splice_at rfl, e2, splice_at rfl, List.append_assoc, take_len rfl]

theorem insert_own (base n i : Nat) (v : Value) (xs : List Value) (w : World) (hown : w.ownsRow base 46 2 v n xs) (vb : Nat) (x y : Value) (e' : TypeId) (hx : w.heap[vb]? = some (.cells #[x, y] e' (0, 0))) (hne : v.ownBlock ≠ some vb)
    (h1 : x.oneCell' = true) (h1' : y.oneCell' = true) (h2 : ∀ u ∈ xs, u.oneCell' = true) (hn : n ≤ 1000000) (hi : i ≤ n) (hbase : base ≤ w.heap.size) :
    Calls Try.prog 32 #[v, .int .i64 i, .slice (some ⟨vb, 0, none⟩) 1 1] w fun e w' => OwnRes2 base (n + 1) (xs.take (i * 2) ++ x :: y :: xs.drop (i * 2)) e w' ∧ w.grownBy w' v.ownBlock := by
  have hxl : xs.length = n * 2 := by simpa using hown.1
  by_cases hin : i = n
  · subst hin
    rw [List.take_of_length_le (by omega), List.drop_of_length_le (by omega)]
    exact insert_end base i v xs w hown vb x y e' hx h1 h1' hn hbase
  · obtain ⟨hl, ⟨rfl, rfl⟩ | ⟨g, cap, cur, rfl, hg, hgc, hnc, hm, hs, ht⟩⟩ := hown
    · omega
    · by_cases hc : n = cap
      · subst hc
        have hcur : cur = xs.toArray := by
          apply Array.ext'
          rw [← ht, List.take_of_length_le (by simp; omega)]
        rw [hcur] at hgc
        exact insert_grow base n i n g xs w hxl hgc hg vb x y e' hx h1 h1' h2 hn (by omega) rfl hbase
      · have hcur : cur = (xs.take (i * 2) ++ xs.drop (i * 2) ++ cur.toList.drop (n * 2)).toArray := by
          apply Array.ext'
          rw [List.take_append_drop]
          simp only
          conv => lhs; rw [← List.take_append_drop (n * 2) cur.toList, ht]
        rw [hcur] at hgc
        exact insert_shift base n i cap g (xs.take (i * 2)) (xs.drop (i * 2)) (cur.toList.drop (n * 2)) w (by rw [List.length_take]; omega) (by rw [List.length_drop]; omega) (by simp; omega) hgc hg vb x y e' hx
          (fun e => hne (by simp [Value.ownBlock, e])) h1 h1' (fun u hu => h2 u (List.mem_of_mem_drop hu)) hn (by omega) (by omega) hm hbase

theorem delete_own (base n i : Nat) (v : Value) (xs : List Value) (w : World) (hown : w.ownsRow base 46 2 v n xs)
    (h2 : ∀ u ∈ xs, u.oneCell' = true) (hn : n ≤ 1000000) (hi : i < n) (hbase : base ≤ w.heap.size) :
    Calls Try.prog 33 #[v, .int .i64 i, .int .i64 ((i : Int) + 1)] w fun e w' => OwnRes2 base (n - 1) (xs.take (i * 2) ++ xs.drop ((i + 1) * 2)) e w' ∧ w.grownBy w' v.ownBlock := by
  have hxl : xs.length = n * 2 := by simpa using hown.1
  obtain ⟨hl, ⟨rfl, rfl⟩ | ⟨g, cap, cur, rfl, hg, hgc, hnc, hm, hs, ht⟩⟩ := hown
  · omega
  · have hcur : cur = (xs.take (i * 2) ++ [xs[i * 2], xs[i * 2 + 1]] ++ xs.drop ((i + 1) * 2) ++ cur.toList.drop (n * 2)).toArray := by
      apply Array.ext'
      have e : xs.take (i * 2) ++ [xs[i * 2], xs[i * 2 + 1]] ++ xs.drop ((i + 1) * 2) = xs := by
        rw [show (i + 1) * 2 = i * 2 + 1 + 1 by omega]
        have h3 : xs.drop (i * 2) = xs[i * 2] :: xs[i * 2 + 1] :: xs.drop (i * 2 + 1 + 1) := by
          rw [List.drop_eq_getElem_cons (show i * 2 < xs.length by omega), List.drop_eq_getElem_cons (show i * 2 + 1 < xs.length by omega)]
        conv => rhs; rw [← List.take_append_drop (i * 2) xs, h3]
        simp
      rw [e]
      simp only
      conv => lhs; rw [← List.take_append_drop (n * 2) cur.toList, ht]
    rw [hcur] at hgc
    exact delete_one base n i cap g (xs.take (i * 2)) (xs.drop ((i + 1) * 2)) (cur.toList.drop (n * 2)) xs[i * 2] xs[i * 2 + 1] w (by rw [List.length_take]; omega) (by rw [List.length_drop]; omega) (by simp; omega) hgc hg
      (fun u hu => h2 u (List.mem_of_mem_drop hu)) hn hi hnc hm hbase
end Go.Proofs.Ytiipelccmkidbaa
