/- slices.Insert of one number, slices.Delete of one. -/
import Derived.Test.YtjolhdlnjdmbeaaMem
import Derived.Test.YtjolhdlnjdmbeaaN2
import Derived.Test.YtjolhdlnjdmbeaaRows
import Derived.WalkKit
import Derived.WalkSpells
import Derived.WalkLawsBesides
import Derived.Handy
import Derived.Deep.QuietTactic
import Derived.BigQuiet
import Derived.Deep.DeepCutAuto
import Derived.Lib.Hide
import Derived.RegionTactic
import Derived.ChangeAlike
import Derived.Lib.Overlaps
import Derived.StillTailTactics
namespace Go.Proofs.Ytjolhdlnjdmbeaa
open Go.RowKit

theorem sizeInt : (Try.prog.info? 3).map (·.size) = some 1 := by kernel_rfl

set_option maxRecDepth 100000 in
set_option maxHeartbeats 1000000 in
theorem insert_end (base n : Nat) (v : Value) (xs : List Value) (w : World) (hown : w.ownsRow base 3 1 v n xs) (vb : Nat) (x : Value) (e' : TypeId) (hx : w.heap[vb]? = some (.cells #[x] e' (0, 0)))
    (h1 : x.oneCell' = true) (hn : n ≤ 1000000) (hbase : base ≤ w.heap.size) :
    Calls Try.prog 19 #[v, .int .i64 n, .slice (some ⟨vb, 0, none⟩) 1 1] w fun e w' => OwnRes base 3 1 (n + 1) (xs ++ [x]) e w' ∧ Below base w w' := by
  have hnw : ∀ j u, [x][j]? = some u → w.cell? ((⟨vb, 0, none⟩ : Addr).add j) = some u := by
    intro j u hj
    rw [addr_add, Nat.zero_add]
    simpa [World.cell?, hx] using hj
  have HN := Lib.hid hnw
  clear hnw hx
  have hown' := hown
  have HO := Lib.hid hown
  obtain ⟨hl, ⟨rfl, rfl⟩ | ⟨g, cap, cur, rfl, hg, hgc, hnc, hm, hs, ht⟩⟩ := hown
  · go_enter Try.func19, Try.ntmps19
    go_wp2_with (at_builtin; refine wpList_appendN rfl _ _ 28 3 elInt rfl base _ _ _ rfl hown' ⟨vb, 0, none⟩ 1 1 [x] rfl rfl HN.out (by simp [h1]) (by omega) (by omega) hbase ?_)
    intro v' w' ho hb
    go_wp2
    go_ret
    exact ⟨⟨_, rfl, ho⟩, hb⟩
  · unfold maxLen at hm
    clear hgc hs ht hl
    by_cases hcn : cap = n
    · subst hcn
      go_enter Try.func19, Try.ntmps19
      go_wp2_with (at_builtin; refine wpList_appendN rfl _ _ 28 3 elInt rfl base _ _ _ rfl hown' ⟨vb, 0, none⟩ 1 1 [x] rfl rfl HN.out (by simp [h1]) (by omega) (by omega) hbase ?_)
      intro v' w' ho hb
      go_wp2
      go_ret
      exact ⟨⟨_, rfl, ho⟩, hb⟩
    · go_enter Try.func19, Try.ntmps19
      go_wp2_with (at_builtin; refine wpList_appendN rfl _ _ 28 3 elInt rfl base _ _ _ rfl hown' ⟨vb, 0, none⟩ 1 1 [x] rfl rfl HN.out (by simp [h1]) (by omega) (by omega) hbase ?_)
      intro v' w' ho hb
      go_wp2
      go_ret
      exact ⟨⟨_, rfl, ho⟩, hb⟩

set_option maxRecDepth 100000 in
set_option maxHeartbeats 1000000 in
theorem insert_grow (base n i cap g : Nat) (xs : List Value) (w : World) (hl : xs.length = n) (hcur : w.heap[g]? = some (.cells xs.toArray 3 (0, 0))) (hbg : base ≤ g) (vb : Nat) (x : Value) (e' : TypeId) (hx : w.heap[vb]? = some (.cells #[x] e' (0, 0)))
    (h1 : x.oneCell' = true) (h2 : ∀ u ∈ xs, u.oneCell' = true) (hn : n ≤ 1000000) (hi : i < n) (hcap : cap = n) (hbase : base ≤ w.heap.size) :
    Calls Try.prog 19 #[.slice (some ⟨g, 0, none⟩) n cap, .int .i64 i, .slice (some ⟨vb, 0, none⟩) 1 1] w fun e w' => OwnRes base 3 1 (n + 1) (xs.take i ++ x :: xs.drop i) e w' ∧ Below base w w' := by
  have hgs : g < w.heap.size := by
    have := (Array.getElem?_eq_some_iff.1 hcur).1
    exact this
  have hvs : vb < w.heap.size := (Array.getElem?_eq_some_iff.1 hx).1
  have hold : ∀ j u, (xs.take i)[j]? = some u → w.cell? ((⟨g, 0, none⟩ : Addr).add j) = some u := by
    intro j u hj
    rw [addr_add, Nat.zero_add]
    have : j < i := by
      have := (List.getElem?_eq_some_iff.1 hj).1
      rw [List.length_take] at this
      omega
    rw [List.getElem?_take_of_lt this] at hj
    simpa [World.cell?, hcur] using hj
  have HC := Lib.hid hcur
  have HX := Lib.hid hx
  have HO := Lib.hid hold
  clear hcur hx hold
  subst hcap
  go_enter Try.func19, Try.ntmps19
  go_wp2_with (at_builtin; refine wpList_append_zeros rfl _ _ 28 3 3 elInt .i64 Try.underlying3 rfl ⟨g, 0, none⟩ i cap (xs.take i) (by simp; omega) HO.out (cap + 1 - i) (by omega) (by omega) (by omega) (by omega) rfl ?_ ?_)
  · exact int_eq (by omega)
  intro w1 C zs hC1 hC2 hlen HC1 hg1
  have hx1 := grown_same hg1 HX.out (by simp)
  have hc1 := grown_same hg1 HC.out (by simp)
  have hb1 := grown_below hg1 hbase (by simp)
  have hsz1 := hg1.size
  have hnw : ∀ j u, [x][j]? = some u → w1.cell? ((⟨vb, 0, none⟩ : Addr).add j) = some u := cells_row (A := []) (C := []) (by simpa using hx1) rfl
  have HNW := Lib.hid hnw
  have HCX := Lib.hid hc1
  clear hnw hx1 hc1
  unfold maxLen at hC2
  generalize hG : w.heap.size = G at *
  have HG := Lib.hid hG
  clear hG
  have hil : (xs.take i).length = i := by rw [List.length_take]; omega
  have hlz : zs.length = C - i := by omega
  go_wp2_with (first | (at_builtin; fail) | (refine wpList_copyK rfl _ _ 28 28 3 1 Try.underlying28 sizeInt rfl G i (cap + 1 - i) (C - i) ⟨vb, 0, none⟩ 1 1 rfl rfl (xs.take i ++ zs) 3 [x] HC1.out ?_ HNW.out ?_ (by simp [h1]) ?_))
  · show 1 = min 1 (cap + 1 - i) * 1
    omega
  · simp only [List.length_append, List.length_singleton, hil, hlz]; omega
  intro w2 HC2 hg2
  have hcx := grown_same hg2 HCX.out (by simp; omega)
  have hb2 := hb1.trans (grown_below hg2 (by omega) (fun k hk => by cases hk; exact hbase))
  rw [splice_at hil.symm] at HC2
  have hdr : ∀ j u, (xs.drop i)[j]? = some u → w2.cell? ((⟨g, i, none⟩ : Addr).add j) = some u := cells_row (A := xs.take i) (C := []) (by simpa using hcx) hil.symm
  have HDR := Lib.hid hdr
  have hdl : (xs.drop i).length = cap - i := by rw [List.length_drop, hl]
  have hd1 : ∀ u ∈ xs.drop i, u.oneCell' = true := fun u hu => h2 u (List.mem_of_mem_drop hu)
  have HD1 := Lib.hid hd1
  have H1 := Lib.hid h1
  have H2 := Lib.hid h2
  have HDL := Lib.hid hdl
  have HIL := Lib.hid hil
  have HLZ := Lib.hid hlz
  clear hdr hcx hd1 hdl h1 h2 hil hlz
  go_wp2_with fail
  have hw5 : (i : Int) + 1 ≤ (i : Int) + ((cap + 1 - i : Nat) : Int) := by omega
  have hw4 : ¬ C = i + 1 := by omega
  have hw6 : i ≤ cap := by omega
  have hw7 : ¬ cap = i := by omega
  have hw2 : 0 ≤ (i : Int) + 1 := by omega
  have hw3 : ((i : Int) + 1).toNat = i + 1 := by omega
  have hw1 : IntKind.i64.wrap ((i : Int) + 1) = (i : Int) + 1 := IntWalk.i64_in _ (by omega)
  have HC2d : Hid (w2.drew.heap[G]? = some (.cells (xs.take i ++ [x] ++ zs.drop [x].length).toArray 3 (0, 0))) := HC2
  have HDRd : Hid (∀ j u, (xs.drop i)[j]? = some u → w2.drew.cell? ((⟨g, i, none⟩ : Addr).add j) = some u) := HDR
  have HS1 : Hid ((xs.drop i).length = Nat.min (cap - i) (i + (cap + 1 - i) - (i + 1)) * 1) := Lib.hid (by rw [HDL.out]; show cap - i = min (cap - i) _ * 1; omega)
  have HS2 : Hid (i + 1 + (xs.drop i).length ≤ (xs.take i ++ [x] ++ zs.drop [x].length).length) := Lib.hid (by rw [HDL.out]; simp only [List.length_append, List.length_singleton, List.length_drop, HIL.out, HLZ.out]; omega)
  go_still_tail 8, (by kernel_rfl)
  refine wpList_copyK rfl _ _ 28 28 3 1 Try.underlying28 sizeInt rfl G (i + 1) (i + (cap + 1 - i) - (i + 1)) (C - (i + 1)) ⟨g, i, none⟩ (cap - i) (cap - i) rfl rfl (xs.take i ++ [x] ++ zs.drop [x].length) 3 (xs.drop i) HC2d.out HS1.out HDRd.out HS2.out HD1.out ?_
  intro w3 HC3 hg3
  clear hw1 hw2 hw3 hw5 hw6 hw7
  go_wp2
  go_ret
  have hC3 := HC3.out
  rw [splice_at (by simp [HIL.out])] at hC3
  have hsz2 := hg2.size
  have hb3 := grown_below hg3 (B := base) (show base ≤ w2.heap.size by omega) (fun k hk => by cases hk; exact hbase)
  refine ⟨⟨_, rfl, ?_⟩, hb2.drew.trans hb3⟩
  rw [show i + (cap + 1 - i) = cap + 1 by omega]
  refine owns_of_cur hC3 hbase (by omega) (by unfold maxLen; omega) ?_ ?_
  · simp only [List.length_append, List.length_drop, List.length_singleton, HIL.out, HDL.out, HLZ.out]; omega
  · rw [take_len (by simp only [List.length_append, List.length_singleton, HIL.out, HDL.out]; omega)]
    simp

theorem overlaps_no (w : World) (vb g o lb cb m vc : Nat) (hne : vb ≠ g) (cx cy : Array Value) (tx ty : TypeId) (hx : w.heap[vb]? = some (.cells cx tx (0, 0))) (hy : w.heap[g]? = some (.cells cy ty (0, 0))) (hc : cy.size ≠ 0) :
    (callFunc 25 #[.slice (some ⟨vb, 0, none⟩) m vc, .slice (some ⟨g, o, none⟩) lb cb]).run Try.prog w = .ok (.value (.bool false)) w := by
  rw [run_callFunc_extern Try.func25 (by kernel_rfl) (by kernel_rfl) (by kernel_rfl) (e := Extern.SlicesOverlaps.overlaps #[28, 28] #[4]) (by kernel_rfl),
    Lib.run_overlaps_apart w 28 4 3 Try.underlying28 1 (fun w => by kernel_rfl) ⟨vb, 0, none⟩ ⟨g, o, none⟩ m vc lb cb hne tx ty cx.size cy.size (by simp [World.shape?, hx]) (by simp [World.shape?, hy]) hc (by simp [World.frozen?, hx]) (by simp [World.frozen?, hx])]
  rfl

set_option maxRecDepth 100000 in
set_option maxHeartbeats 1000000 in
theorem insert_shift (base n i cap g : Nat) (A D Z : List Value) (w : World) (hA : A.length = i) (hD : D.length = n - i) (hZ : Z.length = cap - n) (hcur : w.heap[g]? = some (.cells (A ++ D ++ Z).toArray 3 (0, 0))) (hbg : base ≤ g) (vb : Nat) (x : Value) (e' : TypeId) (hx : w.heap[vb]? = some (.cells #[x] e' (0, 0)))
    (hne : vb ≠ g) (h1 : x.oneCell' = true) (h2 : ∀ u ∈ D, u.oneCell' = true) (hn : n ≤ 1000000) (hi : i < n) (hcap : n + 1 ≤ cap) (hm : cap ≤ maxLen) (hbase : base ≤ w.heap.size) :
    Calls Try.prog 19 #[.slice (some ⟨g, 0, none⟩) n cap, .int .i64 i, .slice (some ⟨vb, 0, none⟩) 1 1] w fun e w' => OwnRes base 3 1 (n + 1) (A ++ x :: D) e w' ∧ Below base w w' := by
  have hgs : g < w.heap.size := (Array.getElem?_eq_some_iff.1 hcur).1
  have hdr : ∀ j u, D[j]? = some u → w.drew.cell? ((⟨g, i, none⟩ : Addr).add j) = some u := cells_row (w := w.drew) (A := A) (C := Z) hcur hA.symm
  have hov : ∀ lb cb, (callFunc 25 #[.slice (some ⟨vb, 0, none⟩) 1 1, .slice (some ⟨g, i + 1, none⟩) lb cb]).run Try.prog w = .ok (.value (.bool false)) w := fun lb cb => overlaps_no w vb g (i + 1) lb cb 1 1 hne _ _ _ _ hx hcur (by simp [hA, hD, hZ]; omega)
  have HC := Lib.hid hcur
  have HX := Lib.hid hx
  have HDR := Lib.hid hdr
  have HA := Lib.hid hA
  have HD := Lib.hid hD
  have HZ := Lib.hid hZ
  have H1 := Lib.hid h1
  have H2 := Lib.hid h2
  clear hcur hx hdr hA hD hZ h1 h2
  unfold maxLen at hm
  have hw5 : (i : Int) + 1 ≤ (n : Int) + 1 := by omega
  have hw4 : ¬ cap = i + 1 := by omega
  have hw6 : i ≤ n + 1 := by omega
  have hw8 : i ≤ n := by omega
  have hw9 : (i : Int) ≤ (n : Int) + 1 := by omega
  have hw7 : ¬ cap = i := by omega
  have hw2 : 0 ≤ (i : Int) + 1 := by omega
  have hw3 : ((i : Int) + 1).toNat = i + 1 := by omega
  have hw1 : IntKind.i64.wrap ((i : Int) + 1) = (i : Int) + 1 := IntWalk.i64_in _ (by omega)
  go_enter Try.func19, Try.ntmps19
  go_wp2_with fail
  have HS1 : Hid (D.length = Nat.min (n + 1 - i) (n - i) * 1) := Lib.hid (by rw [HD.out]; show n - i = min _ _ * 1; omega)
  have HS2 : Hid (i + 1 + D.length ≤ (A ++ D ++ Z).length) := Lib.hid (by simp only [List.length_append, HA.out, HD.out, HZ.out]; omega)
  go_still_tail 8, (by kernel_rfl)
  refine wpList_copyK rfl _ _ 28 28 3 1 Try.underlying28 sizeInt rfl g (i + 1) (n - i) (cap - (i + 1)) ⟨g, i, none⟩ (n + 1 - i) (cap - i) rfl rfl (A ++ D ++ Z) 3 D HC.out HS1.out HDR.out HS2.out H2.out ?_
  intro w1 HC1 hg1
  have hb1 := grown_below hg1 (B := base) (show base ≤ w.heap.size from hbase) (fun k hk => by cases hk; exact hbg)
  have hbA : Below base w w1 := (Below.refl _ _).drew.trans hb1
  have hx1 := grown_same hg1 (show w.drew.heap[vb]? = _ from HX.out) (by simp; exact hne)
  have hnw : ∀ j u, [x][j]? = some u → w1.cell? ((⟨vb, 0, none⟩ : Addr).add j) = some u := cells_row (A := []) (C := []) (by simpa using hx1) rfl
  have HNW := Lib.hid hnw
  have hsz1 : w.heap.size ≤ w1.heap.size := hg1.size
  clear hnw hx1
  have HS3 : Hid (i + [x].length ≤ (splice (A ++ D ++ Z) (i + 1) D).length) := Lib.hid (by rw [length_splice _ _ _ HS2.out]; simp only [List.length_append, List.length_singleton, HA.out, HD.out, HZ.out]; omega)
  go_wp2_with (first | (at_builtin; fail) | (refine wpList_copyK rfl _ _ 28 28 3 1 Try.underlying28 sizeInt rfl g i (n + 1 - i) (cap - i) ⟨vb, 0, none⟩ 1 1 rfl rfl (splice (A ++ D ++ Z) (i + 1) D) 3 [x] HC1.out ?_ HNW.out HS3.out (by simp [H1.out]) ?_))
  · show 1 = min 1 (n + 1 - i) * 1
    omega
  intro w2 HC2 hg2
  have hb2 := hbA.trans (grown_below hg2 (by omega) (fun k hk => by cases hk; exact hbg))
  go_wp2
  go_ret
  refine ⟨⟨_, rfl, ?_⟩, hb2⟩
  have hC2 := HC2.out
  have ha := HA.out
  subst ha
  rw [show A.length + 1 = A.length + [x].length from rfl, ← List.append_assoc, splice_shift (by rw [HZ.out]; simp; omega)] at hC2
  refine owns_of_cur hC2 hbg hcap (by unfold maxLen; omega) ?_ ?_
  · simp only [List.length_append, List.length_drop, List.length_singleton, HD.out, HZ.out]; omega
  · rw [take_len (by simp only [List.length_append, List.length_singleton, HD.out]; omega)]
    simp
end Go.Proofs.Ytjolhdlnjdmbeaa
