/- Texts that the claim leans on, part 3: K4, K10, H1, H2, H3, H4, H5, B0. -/
import Derived.Test.YtaojblejnpemkaaDoorZ1
import Derived.Test.YtaojblejnpemkaaDoorZ2
import Derived.Test.YtaojblejnpemkaaDoorRows
import Derived.WalkKit
import Derived.WalkSpells
import Derived.WalkLawsBesides
import Derived.Handy
import Derived.Deep.QuietTactic
import Derived.BigQuiet
import Derived.Deep.DeepCutAuto
import Derived.Lib.Hide
import Derived.RegionTactic
import Derived.ChangeAlike
import Derived.StillTailTactics
import Derived.Deep.RegionHeld3
import Derived.Deep.RegionWith
import Derived.Laws.ResultCell
import Derived.Outline
import Derived.Laws.BitsAllLaws
import Derived.Laws.Shifts
import Derived.IntWalk
import Derived.Lib.Overlaps
import Derived.ProofKit
import Derived.OpenShut
import Derived.Laws.Strings
import Derived.Laws.CopyOwn
import Derived.Laws.CopyRow
import Derived.Laws.NewBlocks
import Derived.Deep.RegionLaw
namespace Go.Proofs.YtaojblejnpemkaaDoor
open Go.RowKit
theorem zeroPair : ∃ z : Value, (∀ w, (zeroValue 72).run Tryd.prog w = .ok z w) ∧ z.cells.size = 2 ∧ ∀ u ∈ z.cells.toList, u.oneCell' = true :=
  ⟨.agg #[.string ⟨#[]⟩, .string ⟨#[]⟩], fun w => by kernel_rfl, rfl, by simp [Value.cells]; rfl⟩
set_option maxRecDepth 100000 in
set_option maxHeartbeats 1000000 in
theorem delete_one (base n i cap g : Nat) (A D Z : List Value) (x y : Value) (w : World) (hA : A.length = i * 2) (hD : D.length = n * 2 - i * 2 - 2) (hZ : Z.length = cap * 2 - n * 2) (hcur : w.heap[g]? = some (.cells (A ++ [x, y] ++ D ++ Z).toArray 72 (0, 0))) (hbg : base ≤ g)
    (h2 : ∀ u ∈ D, u.oneCell' = true) (hn : n ≤ 1000000) (hi : i < n) (hcap : n ≤ cap) (hm : cap ≤ maxLen) (_ : base ≤ w.heap.size) :
    Calls Tryd.prog 53 #[.slice (some ⟨g, 0, none⟩) n cap, .int .i64 i, .int .i64 ((i : Int) + 1)] w fun e w' => OwnRes2 base (n - 1) (A ++ D) e w' ∧ w.grownBy w' (some g) := by
  have hgs : g < w.heap.size := (Array.getElem?_eq_some_iff.1 hcur).1
  have hdr : ∀ j u, D[j]? = some u → w.drew.cell? ((⟨g, (i + 1) * 2, none⟩ : Addr).add j) = some u := cells_row (w := w.drew) (A := A ++ [x, y]) (C := Z) hcur (by simp [hA]; omega)
  have HC := Lib.hid hcur
  have HDR := Lib.hid hdr
  have HA := Lib.hid hA
  have HD := Lib.hid hD
  have HZ := Lib.hid hZ
  have H2 := Lib.hid h2
  clear hcur hdr hA hD hZ h2
  unfold maxLen at hm
  have hne : ((i : Int) == (i : Int) + 1) = false := by rw [beq_eq_false_iff_ne]; omega
  have hw0 : (i : Int) + 1 ≤ (n : Int) := by omega
  have hw10 : (i : Int) < (n : Int) := by omega
  have hw2 : 0 ≤ (i : Int) + 1 := by omega
  have hw3 : ((i : Int) + 1).toNat = i + 1 := by omega
  have hw6 : (i : Int) ≤ (n : Int) := by omega
  have hw7 : ¬ cap = i := by omega
  have hw8 : i ≤ n := by omega
  have hw11 : i ≤ cap := by omega
  have hw9 : i + 1 ≤ n := by omega
  have HS2 : Hid (i * 2 + D.length ≤ (A ++ [x, y] ++ D ++ Z).length) := Lib.hid (by simp only [List.length_append, List.length_cons, List.length_nil, HA.out, HD.out, HZ.out]; omega)
  by_cases hce : cap = i + 1
  · obtain rfl : n = i + 1 := by omega
    obtain rfl : cap = i + 1 := by omega
    have hv1 : (i : Int) ≤ (i : Int) + 1 := by omega
    have hd0 : D = [] := List.eq_nil_of_length_eq_zero (by rw [HD.out]; omega)
    have hz0 : Z = [] := List.eq_nil_of_length_eq_zero (by rw [HZ.out]; omega)
    subst hd0 hz0
    have HC0 : Hid (w.heap[g]? = some (.cells (A ++ [x, y]).toArray 72 (0, 0))) := by
      have := HC.out
      exact Lib.hid (by simpa using this)
    go_enter Tryd.func53, Tryd.ntmps53
    go_wp2_with fail
    go_still_tail 6, (by kernel_rfl)
    refine wpList_append_room rfl _ _ 46 72 elPair rfl g i (i + 1) rfl (A ++ [x, y]) HC0.out ⟨g, 0, none⟩ 0 0 [] rfl (by simp) (by simp) (by simp) (by omega) (by simp [HA.out]) ?_
    intro w1 HC1 hg1
    have hbA : w.grownBy w1 (some g) := gb_trans (gb_drew (World.grownBy.refl _ _)) hg1 (fun k hk => .inr hk)
    have hsz1 : w.heap.size ≤ w1.heap.size := hg1.size
    have HV : Hid (∃ z : Value, (∀ w, (zeroValue 72).run Tryd.prog w = .ok z w) ∧ z.cells.size = 2 ∧ ∀ u ∈ (Builtin.zeroCells z.cells 1).toList, u.oneCell' = true) := by
      obtain ⟨z, h1, h2, h3⟩ := zeroPair
      exact Lib.hid ⟨z, h1, h2, zeroCells_mem h3⟩
    have hC1 := HC1.out
    have e1 : splice (A ++ [x, y]) (i * 2) [] = A ++ [x, y] := by simp [splice]
    rw [e1] at hC1
    have HC2 := Lib.hid hC1
    clear hC1 HC1 e1
    have HS3 : Hid (i * 2 + 1 * 2 ≤ (A ++ [x, y]).length) := Lib.hid (by simp [HA.out])
    go_wp2_with (first | (at_builtin; fail) | (refine wpList_clearK rfl _ 46 72 elPair rfl g (i * 2) 1 1 rfl (by omega) (A ++ [x, y]) HC2.out HS3.out HV.out ?_))
    intro w2 zs hzl HC3 hg2
    have hb2 := gb_trans hbA hg2 (fun k hk => .inr hk)
    go_wp2
    go_ret
    refine ⟨⟨_, rfl, ?_⟩, hb2⟩
    have ha := HA.out
    have hC3 := HC3.out
    rw [show i * 2 = A.length from ha.symm, splice_at rfl] at hC3
    refine owns_of_cur hC3 hbg (by omega) (by unfold maxLen; omega) ?_ ?_
    · simp [hzl, ha]; omega
    · rw [show i * 2 = A.length from ha.symm]
      simp
  · go_enter Tryd.func53, Tryd.ntmps53
    go_wp2_with fail
    go_still_tail 6, (by kernel_rfl)
    refine wpList_append_room rfl _ _ 46 72 elPair rfl g i cap rfl (A ++ [x, y] ++ D ++ Z) HC.out ⟨g, (i + 1) * 2, none⟩ (n - (i + 1)) (cap - (i + 1)) D rfl (by rw [HD.out]; omega) HDR.out H2.out (by omega) (by simpa using HS2.out) ?_
    intro w1 HC1 hg1
    rw [show i + (n - (i + 1)) = n - 1 by omega]
    have hw12 : ((n - 1 : Nat) : Int) ≤ (n : Int) := by omega
    have hw13 : n - 1 ≤ n := by omega
    have hw14 : ¬ cap = n - 1 := by omega
    have hw15 : n - (n - 1) = 1 := by omega
    have hbA : w.grownBy w1 (some g) := gb_trans (gb_drew (World.grownBy.refl _ _)) hg1 (fun k hk => .inr hk)
    have hsz1 : w.heap.size ≤ w1.heap.size := hg1.size
    have HS3 : Hid ((n - 1) * 2 + 1 * 2 ≤ (splice (A ++ [x, y] ++ D ++ Z) (i * 2) D).length) := Lib.hid (by rw [length_splice _ _ _ (by simpa using HS2.out)]; simp only [List.length_append, List.length_cons, List.length_nil, HA.out, HD.out, HZ.out]; omega)
    have HV : Hid (∃ z : Value, (∀ w, (zeroValue 72).run Tryd.prog w = .ok z w) ∧ z.cells.size = 2 ∧ ∀ u ∈ (Builtin.zeroCells z.cells 1).toList, u.oneCell' = true) := by
      obtain ⟨z, h1, h2, h3⟩ := zeroPair
      exact Lib.hid ⟨z, h1, h2, zeroCells_mem h3⟩
    go_wp2_with (first | (at_builtin; fail) | (refine wpList_clearK rfl _ 46 72 elPair rfl g ((n - 1) * 2) 1 (cap - (n - 1)) rfl (by omega) (splice (A ++ [x, y] ++ D ++ Z) (i * 2) D) HC1.out HS3.out HV.out ?_))
    intro w2 zs hzl HC2 hg2
    have hb2 := gb_trans hbA hg2 (fun k hk => .inr hk)
    go_wp2
    go_ret
    refine ⟨⟨_, rfl, ?_⟩, hb2⟩
    have ha := HA.out
    have hC2 := HC2.out
    have h1 := HS3.out
    have h2 := HS2.out
    have e2 : (n - 1) * 2 = (A ++ D).length := by simp only [List.length_append, HD.out, ha]; omega
    simp only [List.append_assoc, List.cons_append, List.nil_append, show i * 2 = A.length from ha.symm] at hC2 h1 h2
    rw [length_splice _ _ _ h2] at h1
    refine owns_of_cur hC2 hbg (by omega) (by unfold maxLen; omega) ?_ ?_
    · rw [length_splice _ _ _ (by rw [hzl, length_splice _ _ _ h2]; omega), length_splice _ _ _ h2]
      simp only [List.length_append, List.length_cons, HA.out, HD.out, HZ.out]; omega
    · rw [splice_at rfl, e2, splice_at rfl, List.append_assoc, take_len rfl]
theorem insert_own (base n i : Nat) (v : Value) (xs : List Value) (w : World) (hown : w.ownsRow base 72 2 v n xs) (vb : Nat) (x y : Value) (e' : TypeId) (hx : w.heap[vb]? = some (.cells #[x, y] e' (0, 0))) (hne : v.ownBlock ≠ some vb)
    (h1 : x.oneCell' = true) (h1' : y.oneCell' = true) (h2 : ∀ u ∈ xs, u.oneCell' = true) (hn : n ≤ 1000000) (hi : i ≤ n) (hbase : base ≤ w.heap.size) :
    Calls Tryd.prog 52 #[v, .int .i64 i, .slice (some ⟨vb, 0, none⟩) 1 1] w fun e w' => OwnRes2 base (n + 1) (xs.take (i * 2) ++ x :: y :: xs.drop (i * 2)) e w' ∧ w.grownBy w' v.ownBlock := by
  have hxl : xs.length = n * 2 := by simpa using hown.1
  by_cases hin : i = n
  · subst hin
    rw [List.take_of_length_le (by omega), List.drop_of_length_le (by omega)]
    exact insert_end base i v xs w hown vb x y e' hx h1 h1' hn hbase
  · obtain ⟨hl, ⟨rfl, rfl⟩ | ⟨g, cap, cur, rfl, hg, hgc, hnc, hm, hs, ht⟩⟩ := hown
    · omega
    · by_cases hc : n = cap
      · subst hc
        have hcur : cur = xs.toArray := by
          apply Array.ext'
          rw [← ht, List.take_of_length_le (by simp; omega)]
        rw [hcur] at hgc
        exact insert_grow base n i n g xs w hxl hgc hg vb x y e' hx h1 h1' h2 hn (by omega) rfl hbase
      · have hcur : cur = (xs.take (i * 2) ++ xs.drop (i * 2) ++ cur.toList.drop (n * 2)).toArray := by
          apply Array.ext'
          rw [List.take_append_drop]
          simp only
          conv => lhs; rw [← List.take_append_drop (n * 2) cur.toList, ht]
        rw [hcur] at hgc
        exact insert_shift base n i cap g (xs.take (i * 2)) (xs.drop (i * 2)) (cur.toList.drop (n * 2)) w (by rw [List.length_take]; omega) (by rw [List.length_drop]; omega) (by simp; omega) hgc hg vb x y e' hx
          (fun e => hne (by simp [Value.ownBlock, e])) h1 h1' (fun u hu => h2 u (List.mem_of_mem_drop hu)) hn (by omega) (by omega) hm hbase
theorem delete_own (base n i : Nat) (v : Value) (xs : List Value) (w : World) (hown : w.ownsRow base 72 2 v n xs)
    (h2 : ∀ u ∈ xs, u.oneCell' = true) (hn : n ≤ 1000000) (hi : i < n) (hbase : base ≤ w.heap.size) :
    Calls Tryd.prog 53 #[v, .int .i64 i, .int .i64 ((i : Int) + 1)] w fun e w' => OwnRes2 base (n - 1) (xs.take (i * 2) ++ xs.drop ((i + 1) * 2)) e w' ∧ w.grownBy w' v.ownBlock := by
  have hxl : xs.length = n * 2 := by simpa using hown.1
  obtain ⟨hl, ⟨rfl, rfl⟩ | ⟨g, cap, cur, rfl, hg, hgc, hnc, hm, hs, ht⟩⟩ := hown
  · omega
  · have hcur : cur = (xs.take (i * 2) ++ [xs[i * 2], xs[i * 2 + 1]] ++ xs.drop ((i + 1) * 2) ++ cur.toList.drop (n * 2)).toArray := by
      apply Array.ext'
      have e : xs.take (i * 2) ++ [xs[i * 2], xs[i * 2 + 1]] ++ xs.drop ((i + 1) * 2) = xs := by
        rw [show (i + 1) * 2 = i * 2 + 1 + 1 by omega]
        have h3 : xs.drop (i * 2) = xs[i * 2] :: xs[i * 2 + 1] :: xs.drop (i * 2 + 1 + 1) := by
          rw [List.drop_eq_getElem_cons (show i * 2 < xs.length by omega), List.drop_eq_getElem_cons (show i * 2 + 1 < xs.length by omega)]
        conv => rhs; rw [← List.take_append_drop (i * 2) xs, h3]
        simp
      rw [e]
      simp only
      conv => lhs; rw [← List.take_append_drop (n * 2) cur.toList, ht]
    rw [hcur] at hgc
    exact delete_one base n i cap g (xs.take (i * 2)) (xs.drop ((i + 1) * 2)) (cur.toList.drop (n * 2)) xs[i * 2] xs[i * 2 + 1] w (by rw [List.length_take]; omega) (by rw [List.length_drop]; omega) (by simp; omega) hgc hg
      (fun u hu => h2 u (List.mem_of_mem_drop hu)) hn hi hnc hm hbase
end Go.Proofs.YtaojblejnpemkaaDoor
namespace Go.Proofs.YtaojblejnpemkaaDoor
open Go.RowKit
theorem trio {w : World} {g : Nat} {x y z : Value} {T : TypeId} (h : w.heap[g]? = some (.cells #[x, y, z] T (0, 0))) :
    w.cell? ⟨g, 0, none⟩ = some x ∧ w.cell? ⟨g, 1, none⟩ = some y ∧ w.cell? ⟨g, 2, none⟩ = some z ∧ w.frozen? ⟨g, 0, none⟩ = false ∧ w.frozen? ⟨g, 1, none⟩ = false ∧ w.frozen? ⟨g, 2, none⟩ = false := by
  refine ⟨?_, ?_, ?_, ?_, ?_, ?_⟩
  all_goals simp [World.cell?, World.frozen?, h]
theorem four {w : World} {g : Nat} {x y z u : Value} {T : TypeId} (h : w.heap[g]? = some (.cells #[x, y, z, u] T (0, 0))) :
    w.cell? ⟨g, 0, none⟩ = some x ∧ w.cell? ⟨g, 1, none⟩ = some y ∧ w.cell? ⟨g, 2, none⟩ = some z ∧ w.cell? ⟨g, 3, none⟩ = some u := by
  refine ⟨?_, ?_, ?_, ?_⟩
  all_goals simp [World.cell?, h]
set_option maxRecDepth 100000 in
set_option maxHeartbeats 1000000 in
theorem was_any (a : Option Addr) (cap : Nat) (l : List Pr) (k : Tx) (w : World) (hr : Row w a (prs l)) (hl : l.length ≤ 1000000) (hso : Rises l) (r : Rp) (hres : wasR l k = r) :
    Calls Tryd.prog 50 #[.slice a l.length cap, .string k] w fun e w' => e = .returned (rpV r) ∧ Below w.heap.size w w' := by
  have hb0 : Below w.heap.size w (w.alloc (Obj.cells #[.int .i64 0, .bool false, .string ⟨#[]⟩] 36)) := (Below.refl _ _).alloc (Nat.le_refl _) _
  have hr0 := hr.below0 hb0
  subst hres
  cases hlk : look l k with
  | none =>
    have hh : hasK l k = false := by simp [hasK, hlk]
    have hw : wasR l k = ⟨0, false, ⟨#[]⟩⟩ := by simp [wasR, hlk]
    rw [hw]
    have HH := Lib.hid hh
    clear hh hw hlk
    go_enter Tryd.func50, Tryd.ntmps50
    go_wp2_with (go_at_call 51; refine (find_any _ _ _ _ _ hr0 hl hso).mono ?_; rintro e w1 ⟨rfl, hb1⟩; rw [HH.out]; obtain ⟨c0, c1, c2, f0, f1, f2⟩ := trio ((hb1.block w.heap.size (by simp)).trans (heap_alloc_new _ _)); have hbw1 := hb0.trans (hb1.mono (by simp)))
    (try simp only [Exit.inBlock, Exit.then])
    refine bodyPost_ret ?hr rfl ⟨rfl, ?_⟩
    case hr =>
      simp only [results, Tryd.results50]
      go_simp
      try rfl
    (repeat' (first | (with_reducible exact Below.refl _ _) | (with_reducible assumption) | (with_reducible refine Below.alloc ?_ ?_ _) | (with_reducible refine Below.drew ?_) | (with_reducible refine below_drewN ?_ _) | (with_reducible refine Below.setCell ?_ ?_ _) | (with_reducible refine Below.trans ?_ (by assumption)) | go_size))
  | some v =>
    have hh : hasK l k = true := by simp [hasK, hlk]
    have hw : wasR l k = ⟨0, true, v⟩ := by simp [wasR, hlk]
    have hat := at_yes hso hlk
    obtain ⟨bb, off, rfl, hblt, hcs⟩ := hr.pair hat
    obtain ⟨d0, d1⟩ := hcs _ _ hat
    have hlo := (List.getElem?_eq_some_iff.1 hat).1
    rw [hw]
    have HH := Lib.hid hh
    clear hh hw hlk hat hcs
    go_enter Tryd.func50, Tryd.ntmps50
    go_wp2_with (go_at_call 51; refine (find_any _ _ _ _ _ hr0 hl hso).mono ?_; rintro e w1 ⟨rfl, hb1⟩; rw [HH.out]; obtain ⟨c0, c1, c2, f0, f1, f2⟩ := trio ((hb1.block w.heap.size (by simp)).trans (heap_alloc_new _ _)); have hbw1 := hb0.trans (hb1.mono (by simp)); have e1 := (hbw1.cell (p := ⟨bb, off + (lo l k).length * 2 + 1, none⟩) hblt).trans d1)
    (try simp only [Exit.inBlock, Exit.then])
    refine bodyPost_ret ?hr rfl ⟨rfl, ?_⟩
    case hr =>
      simp only [results, Tryd.results50]
      go_simp
      try rfl
    (repeat' (first | (with_reducible exact Below.refl _ _) | (with_reducible assumption) | (with_reducible refine Below.alloc ?_ ?_ _) | (with_reducible refine Below.drew ?_) | (with_reducible refine below_drewN ?_ _) | (with_reducible refine Below.setCell ?_ ?_ _) | (with_reducible refine Below.trans ?_ (by assumption)) | go_size))
set_option maxRecDepth 100000 in
set_option maxHeartbeats 1000000 in
theorem get_any (a : Option Addr) (cap : Nat) (l : List Pr) (o : Opn) (w : World) (hr : Row w a (prs l)) (hl : l.length ≤ 1000000) (hso : Rises l) (r : Rp) (hres : wasR l o.key = r) :
    Calls Tryd.prog 42 #[.slice a l.length cap, opV o] w fun e w' => e = .returned (.tuple #[.slice a l.length cap, rpV r]) ∧ Below w.heap.size w w' := by
  obtain ⟨kd, key, old, val⟩ := o
  unfold opV
  have hb0 : Below w.heap.size w ((w.alloc (Obj.cells #[.int .u8 kd, .string key, .string old, .string val] 34)).alloc (Obj.cells #[.int .i64 0, .bool false, .string ⟨#[]⟩] 36)) := ((Below.refl _ _).alloc (Nat.le_refl _) _).alloc (by simp) _
  have hr0 := hr.below0 hb0
  go_enter Tryd.func42, Tryd.ntmps42
  go_wp2_with (go_at_call 50; refine (was_any _ _ _ _ _ hr0 hl hso r hres).mono ?_; rintro e w1 ⟨rfl, hb1⟩; obtain ⟨c0, c1, c2, f0, f1, f2⟩ := trio ((hb1.block (w.heap.size + 1) (by simp)).trans (heap_alloc2_new _ _ _)); have hbw1 := hb0.trans (hb1.mono (by simp; omega)); unfold rpV)
  (try simp only [Exit.inBlock, Exit.then])
  refine bodyPost_ret ?hr rfl ⟨rfl, ?_⟩
  case hr =>
    simp only [results, Tryd.results42]
    go_simp
    try rfl
  (repeat' (first | (with_reducible exact Below.refl _ _) | (with_reducible assumption) | (with_reducible refine Below.alloc ?_ ?_ _) | (with_reducible refine Below.drew ?_) | (with_reducible refine below_drewN ?_ _) | (with_reducible refine Below.setCell ?_ ?_ _) | (with_reducible refine Below.trans ?_ (by assumption)) | go_size))
end Go.Proofs.YtaojblejnpemkaaDoor
namespace Go.Proofs.YtaojblejnpemkaaDoor
open Go.RowKit
def callC (c : Cl) : List Value := [.int .i64 c.cli, .int .u8 c.op.kind, .string c.op.key, .string c.op.old, .string c.op.val, .int .i64 c.rep.err, .bool c.rep.found, .string c.rep.val, .int .i64 c.st, .int .i64 c.en]
def calls (l : List Cl) : List Value := l.flatMap callC
theorem calls_len : ∀ (l : List Cl), (calls l).length = 10 * l.length
  | [] => rfl
  | p :: l => by
    have := calls_len l
    simp only [calls, List.flatMap_cons, List.length_append, List.length_cons, callC, List.length_nil] at this ⊢
    omega
theorem calls_at : ∀ {l : List Cl} {i : Nat} {c : Cl}, l[i]? = some c → ∀ j u, (callC c)[j]? = some u → (calls l)[i * 10 + j]? = some u
  | [], i, c, h => by simp at h
  | q :: l, 0, c, h => by
    simp at h
    subst h
    intro j u hj
    have hlt := (List.getElem?_eq_some_iff.1 hj).1
    simp only [calls, List.flatMap_cons, Nat.zero_mul, Nat.zero_add]
    rw [List.getElem?_append_left hlt]
    exact hj
  | q :: l, i + 1, c, h => by
    simp only [List.getElem?_cons_succ] at h
    intro j u hj
    have := calls_at h j u hj
    simp only [calls, List.flatMap_cons] at this ⊢
    rw [List.getElem?_append_right (by simp [callC]; omega)]
    simp only [callC, List.length_cons, List.length_nil] at *
    rw [show (i + 1) * 10 + j - (0 + 1 + 1 + 1 + 1 + 1 + 1 + 1 + 1 + 1 + 1) = i * 10 + j by omega]
    exact this
structure SlC (w : World) (a : Option Addr) (cap : Nat) (l : List Cl) : Prop where
  row : Row w a (calls l)
  le : l.length ≤ cap
  max : cap ≤ maxLen
theorem SlC.below {w w' : World} {a : Option Addr} {cap : Nat} {l : List Cl} (h : SlC w a cap l) (hb : Below w.heap.size w w') : SlC w' a cap l := ⟨h.row.below0 hb, h.le, h.max⟩
structure TenC (w : World) (b o : Nat) (c : Cl) : Prop where
  c0 : w.cell? ⟨b, o, none⟩ = some (.int .i64 c.cli)
  c1 : w.cell? ⟨b, o + 1, none⟩ = some (.int .u8 c.op.kind)
  c2 : w.cell? ⟨b, o + 2, none⟩ = some (.string c.op.key)
  c3 : w.cell? ⟨b, o + 3, none⟩ = some (.string c.op.old)
  c4 : w.cell? ⟨b, o + 4, none⟩ = some (.string c.op.val)
  c5 : w.cell? ⟨b, o + 5, none⟩ = some (.int .i64 c.rep.err)
  c6 : w.cell? ⟨b, o + 6, none⟩ = some (.bool c.rep.found)
  c7 : w.cell? ⟨b, o + 7, none⟩ = some (.string c.rep.val)
  c8 : w.cell? ⟨b, o + 8, none⟩ = some (.int .i64 c.st)
  c9 : w.cell? ⟨b, o + 9, none⟩ = some (.int .i64 c.en)
theorem Row.call {w : World} {a : Option Addr} {l : List Cl} (h : Row w a (calls l)) {i : Nat} {c : Cl} (hp : l[i]? = some c) :
    ∃ b off, a = some ⟨b, off, none⟩ ∧ b < w.heap.size ∧ TenC w b (off + i * 10) c := by
  have hi := (List.getElem?_eq_some_iff.1 hp).1
  obtain ⟨b, off, ha, hc⟩ := h.at (k := i) (by rw [calls_len]; omega)
  have hat := calls_at hp
  have H : ∀ j u, (callC c)[j]? = some u → w.cell? ⟨b, off + i * 10 + j, none⟩ = some u := fun j u hj => by
    rw [Nat.add_assoc]
    exact hc _ _ (hat j u hj)
  have h0 := H 0 _ rfl
  exact ⟨b, off, ha, World.block_lt_of_cell? _ _ h0, h0, H 1 _ rfl, H 2 _ rfl, H 3 _ rfl, H 4 _ rfl, H 5 _ rfl, H 6 _ rfl, H 7 _ rfl, H 8 _ rfl, H 9 _ rfl⟩
theorem TenC.below {w w' : World} {B b o : Nat} {c : Cl} (h : TenC w b o c) (hb : Below B w w') (hB : b < B) : TenC w' b o c :=
  ⟨(hb.cell hB).trans h.c0, (hb.cell hB).trans h.c1, (hb.cell hB).trans h.c2, (hb.cell hB).trans h.c3, (hb.cell hB).trans h.c4, (hb.cell hB).trans h.c5, (hb.cell hB).trans h.c6, (hb.cell hB).trans h.c7, (hb.cell hB).trans h.c8, (hb.cell hB).trans h.c9⟩
def callV (c : Cl) : Value := .agg #[.int .i64 c.cli, .int .u8 c.op.kind, .string c.op.key, .string c.op.old, .string c.op.val, .int .i64 c.rep.err, .bool c.rep.found, .string c.rep.val, .int .i64 c.st, .int .i64 c.en]
def callO (c : Cl) : Obj := .cells #[.int .i64 c.cli, .int .u8 c.op.kind, .string c.op.key, .string c.op.old, .string c.op.val, .int .i64 c.rep.err, .bool c.rep.found, .string c.rep.val, .int .i64 c.st, .int .i64 c.en] 38 (0, 0)
theorem TenC.of_box {w : World} {g : Nat} {c : Cl} (h : w.heap[g]? = some (callO c)) : TenC w g 0 c := by
  unfold callO at h
  constructor
  all_goals simp [World.cell?, h]
set_option maxRecDepth 100000 in
set_option maxHeartbeats 2000000 in
theorem wide_any (a : Option Addr) (cap : Nat) (l : List Cl) (t : Int) (w : World) (hs : SlC w a cap l) :
    Calls Tryd.prog 33 #[.slice a l.length cap, .int .i64 t] w fun e w' => e = .returned (.int .i64 (wideP l t)) ∧ Below w.heap.size w w' := by
  have hr := hs.row
  have hle := hs.le
  have hmx := hs.max
  unfold maxLen at hmx
  go_enter Tryd.func33, Tryd.ntmps33
  refine wp_seq_k (fun K hK => ?_)
  have HK := Lib.hid hK
  clear hK
  go_wp2
  refine HK.out _ _ ?_
  clear HK
  refine wp_seq_k (fun K hK => ?_)
  have HK := Lib.hid hK
  clear hK
  go_wp2
  refine HK.out _ _ ?_
  clear HK
  go_wp2_with fail
  go_loopw [5, 10] (fun n i wr => ∃ k : Nat, k ≤ l.length ∧ i = .int .i64 k ∧ n = .int .i64 (wideP (l.take k) t) ∧ Below w.heap.size w wr) (fun _ i _ => l.length - (intOf i).toNat)
  case atStart => exact ⟨0, by omega, rfl, rfl, Below.refl _ _⟩
  case round =>
    obtain ⟨k, hk, rfl, rfl, hbr⟩ := hrel
    have hwl := wideP_le (l.take k) t
    rw [List.length_take] at hwl
    by_cases hlt : k < l.length
    · obtain ⟨bb, off, rfl, hblt, ht0⟩ := hr.call (List.getElem?_eq_getElem hlt)
      obtain ⟨c0, c1, c2, c3, c4, c5, c6, c7, c8, c9⟩ := ht0.below hbr hblt
      have hsn : wideP (l.take (k + 1)) t = wideP (l.take k) t + if onB t l[k] then 1 else 0 := by
        rw [take_snoc' (List.getElem?_eq_getElem hlt)]
        unfold wideP
        rw [List.countP_append, List.countP_singleton]
      have hbs := hbr.size
      clear ht0
      generalize l[k] = c at *
      obtain ⟨cli, ⟨kd, key, old, val⟩, ⟨er, fo, va⟩, st, en⟩ := c
      simp only at c0 c1 c2 c3 c4 c5 c6 c7 c8 c9
      generalize wideP (l.take k) t = n at *
      by_cases q1 : st ≤ t
      · by_cases q2 : en = 0
        · have hb : onB t ⟨cli, ⟨kd, key, old, val⟩, ⟨er, fo, va⟩, st, en⟩ = true := by simp [onB, q1, q2]
          have HS : Hid (wideP (l.take (k + 1)) t = n + 1) := Lib.hid (by rw [hsn, hb]; rfl)
          have q2b : (en == 0) = true := by simpa using q2
          clear hsn hb q2
          go_wp2
          go_roundw
          case rel => exact ⟨k + 1, by omega, by go_num, by rw [HS.out]; go_num, by (repeat' (first | (with_reducible exact Below.refl _ _) | (with_reducible assumption) | (with_reducible refine Below.alloc ?_ ?_ _) | (with_reducible refine Below.drew ?_) | (with_reducible refine below_drewN ?_ _) | (with_reducible refine Below.setCell ?_ ?_ _) | (with_reducible refine Below.trans ?_ (by assumption)) | go_size))⟩
          case measure => simp [intOf]; omega
        · have q2b : (en == 0) = false := by simpa using q2
          by_cases q3 : t ≤ en
          · have hb : onB t ⟨cli, ⟨kd, key, old, val⟩, ⟨er, fo, va⟩, st, en⟩ = true := by simp [onB, q1, q3]
            have HS : Hid (wideP (l.take (k + 1)) t = n + 1) := Lib.hid (by rw [hsn, hb]; rfl)
            clear hsn hb q2
            go_wp2
            go_roundw
            case rel => exact ⟨k + 1, by omega, by go_num, by rw [HS.out]; go_num, by (repeat' (first | (with_reducible exact Below.refl _ _) | (with_reducible assumption) | (with_reducible refine Below.alloc ?_ ?_ _) | (with_reducible refine Below.drew ?_) | (with_reducible refine below_drewN ?_ _) | (with_reducible refine Below.setCell ?_ ?_ _) | (with_reducible refine Below.trans ?_ (by assumption)) | go_size))⟩
            case measure => simp [intOf]; omega
          · have hb : onB t ⟨cli, ⟨kd, key, old, val⟩, ⟨er, fo, va⟩, st, en⟩ = false := by simp [onB, q2, q3]
            have HS : Hid (wideP (l.take (k + 1)) t = n) := Lib.hid (by rw [hsn, hb]; rfl)
            clear hsn hb q2
            go_wp2
            go_roundw
            case rel => exact ⟨k + 1, by omega, by go_num, by rw [HS.out], by (repeat' (first | (with_reducible exact Below.refl _ _) | (with_reducible assumption) | (with_reducible refine Below.alloc ?_ ?_ _) | (with_reducible refine Below.drew ?_) | (with_reducible refine below_drewN ?_ _) | (with_reducible refine Below.setCell ?_ ?_ _) | (with_reducible refine Below.trans ?_ (by assumption)) | go_size))⟩
            case measure => simp [intOf]; omega
      · have hb : onB t ⟨cli, ⟨kd, key, old, val⟩, ⟨er, fo, va⟩, st, en⟩ = false := by simp [onB, q1]
        have HS : Hid (wideP (l.take (k + 1)) t = n) := Lib.hid (by rw [hsn, hb]; rfl)
        clear hsn hb
        go_wp2
        go_roundw
        case rel => exact ⟨k + 1, by omega, by go_num, by rw [HS.out], by (repeat' (first | (with_reducible exact Below.refl _ _) | (with_reducible assumption) | (with_reducible refine Below.alloc ?_ ?_ _) | (with_reducible refine Below.drew ?_) | (with_reducible refine below_drewN ?_ _) | (with_reducible refine Below.setCell ?_ ?_ _) | (with_reducible refine Below.trans ?_ (by assumption)) | go_size))⟩
        case measure => simp [intOf]; omega
    · have HE : Hid (wideP (l.take k) t = wideP l t) := Lib.hid (by rw [List.take_of_length_le (by omega)])
      go_wp2
      go_ret
      exact ⟨ret_int (by rw [HE.out]), hbr⟩
end Go.Proofs.YtaojblejnpemkaaDoor
namespace Go.Proofs.YtaojblejnpemkaaDoor
open Go.RowKit
inductive Way (c : Cl) : Bool → Prop where
  | neg : ¬ 0 ≤ c.cli → Way c false
  | big : 0 ≤ c.cli → ¬ c.cli < 4 → Way c false
  | op : 0 ≤ c.cli → c.cli < 4 → mayO c.op = false → Way c false
  | early : 0 ≤ c.cli → c.cli < 4 → mayO c.op = true → ¬ 1 ≤ c.st → Way c false
  | ends : 0 ≤ c.cli → c.cli < 4 → mayO c.op = true → 1 ≤ c.st → c.en ≠ 0 → c.st < c.en → Way c true
  | not : 0 ≤ c.cli → c.cli < 4 → mayO c.op = true → 1 ≤ c.st → c.en ≠ 0 → ¬ c.st < c.en → Way c false
  | err : 0 ≤ c.cli → c.cli < 4 → mayO c.op = true → 1 ≤ c.st → c.en = 0 → c.rep.err ≠ 0 → Way c false
  | found : 0 ≤ c.cli → c.cli < 4 → mayO c.op = true → 1 ≤ c.st → c.en = 0 → c.rep.err = 0 → c.rep.found = true → Way c false
  | val : 0 ≤ c.cli → c.cli < 4 → mayO c.op = true → 1 ≤ c.st → c.en = 0 → c.rep.err = 0 → c.rep.found = false → c.rep.val.size ≠ 0 → Way c false
  | pends : 0 ≤ c.cli → c.cli < 4 → mayO c.op = true → 1 ≤ c.st → c.en = 0 → c.rep.err = 0 → c.rep.found = false → c.rep.val = ⟨#[]⟩ → Way c true
theorem way_of (c : Cl) : Way c (mayC c) := by
  by_cases h0 : 0 ≤ c.cli
  case neg => have : mayC c = false := by simp [mayC, h0]
              rw [this]; exact .neg h0
  by_cases h1 : c.cli < 4
  case neg => have : mayC c = false := by simp [mayC, h1]
              rw [this]; exact .big h0 h1
  cases h2 : mayO c.op
  case false => have : mayC c = false := by simp [mayC, h2]
                rw [this]; exact .op h0 h1 h2
  by_cases h3 : 1 ≤ c.st
  case neg => have : mayC c = false := by simp [mayC, h3]
              rw [this]; exact .early h0 h1 h2 h3
  by_cases h4 : c.en = 0
  case neg =>
    by_cases h5 : c.st < c.en
    · have : mayC c = true := by simp [mayC, h0, h1, h2, h3, h5]
      rw [this]; exact .ends h0 h1 h2 h3 h4 h5
    · have : mayC c = false := by simp [mayC, h4, h5]
      rw [this]; exact .not h0 h1 h2 h3 h4 h5
  have h5 : ¬ c.st < c.en := by omega
  by_cases h6 : c.rep.err = 0
  case neg => have : mayC c = false := by simp [mayC, nilR, h5, h6]
              rw [this]; exact .err h0 h1 h2 h3 h4 h6
  cases h7 : c.rep.found
  case true => have : mayC c = false := by simp [mayC, nilR, h5, h7]
               rw [this]; exact .found h0 h1 h2 h3 h4 h6 h7
  by_cases h8 : c.rep.val.size = 0
  · have h9 := tx_nil h8
    have : mayC c = true := by simp [mayC, nilR, h0, h1, h2, h3, h4, h6, h7, h9]
    rw [this]; exact .pends h0 h1 h2 h3 h4 h6 h7 h9
  · have h9 : ¬ c.rep.val.toList = [] := by
      have := (tx_some h8).1
      rw [List.isEmpty_eq_false_iff] at this
      exact this
    have : mayC c = false := by simp [mayC, nilR, h5, h9]
    rw [this]; exact .val h0 h1 h2 h3 h4 h6 h7 h8
theorem ten {w : World} {g : Nat} {x0 x1 x2 x3 x4 x5 x6 x7 x8 x9 : Value} {T : TypeId} (h : w.heap[g]? = some (.cells #[x0, x1, x2, x3, x4, x5, x6, x7, x8, x9] T (0, 0))) :
    w.cell? ⟨g, 0, none⟩ = some x0 ∧ w.cell? ⟨g, 1, none⟩ = some x1 ∧ w.cell? ⟨g, 2, none⟩ = some x2 ∧ w.cell? ⟨g, 3, none⟩ = some x3 ∧ w.cell? ⟨g, 4, none⟩ = some x4 ∧ w.cell? ⟨g, 5, none⟩ = some x5 ∧ w.cell? ⟨g, 6, none⟩ = some x6 ∧ w.cell? ⟨g, 7, none⟩ = some x7 ∧ w.cell? ⟨g, 8, none⟩ = some x8 ∧ w.cell? ⟨g, 9, none⟩ = some x9 := by
  refine ⟨?_, ?_, ?_, ?_, ?_, ?_, ?_, ?_, ?_, ?_⟩
  all_goals simp [World.cell?, h]
theorem box1 (w : World) (o : Obj) : Below w.heap.size w (w.alloc o) := (Below.refl _ _).alloc (Nat.le_refl _) _
set_option maxRecDepth 100000 in
set_option maxHeartbeats 1200000 in
theorem cmay_any (c : Cl) (w : World) : Calls Tryd.prog 32 #[callV c] w fun e w' => e = .returned (.bool (mayC c)) ∧ Below w.heap.size w w' := by
  have hway := way_of c
  generalize mayC c = r at *
  obtain ⟨cli, ⟨kd, key, old, val⟩, ⟨er, fo, va⟩, st, en⟩ := c
  unfold callV
  have hb0 := box1 w (Obj.cells #[.int .i64 cli, .int .u8 kd, .string key, .string old, .string val, .int .i64 er, .bool fo, .string va, .int .i64 st, .int .i64 en] 38)
  have hW := Lib.hid hway
  clear hway
  rcases hW.out with h0 | ⟨h0, h1⟩ | ⟨h0, h1, h2⟩ | ⟨h0, h1, h2, h3⟩ | ⟨h0, h1, h2, h3, h4, h5⟩ | ⟨h0, h1, h2, h3, h4, h5⟩ | ⟨h0, h1, h2, h3, h4, h5⟩ | ⟨h0, h1, h2, h3, h4, h5, h6⟩ | ⟨h0, h1, h2, h3, h4, h5, h6, h7⟩ | ⟨h0, h1, h2, h3, h4, h5, h6, h7⟩
  all_goals clear hW
  · simp only at h0
    have h0' : cli < 0 := by omega
    go_enter Tryd.func32, Tryd.ntmps32
    go_wp2
    go_ret
    exact ⟨rfl, hb0⟩
  · simp only at h0 h1
    have h1' : 4 ≤ cli := by omega
    go_enter Tryd.func32, Tryd.ntmps32
    go_wp2
    go_ret
    exact ⟨rfl, hb0⟩
  · simp only at h0 h1 h2
    have H2 := Lib.hid h2
    clear h2
    go_enter Tryd.func32, Tryd.ntmps32
    go_wp2_with (go_at_call 27; refine (pmayO_any _ _ _ _ _ _ H2.out).mono ?_; rintro e w2 ⟨rfl, hb2⟩; obtain ⟨z0, z1, z2, z3, z4, z5, z6, z7, z8, z9⟩ := ten ((hb2.block w.heap.size (by simp)).trans (heap_alloc_new w _)))
    go_ret
    exact ⟨rfl, hb0.trans (hb2.mono (by simp))⟩
  · simp only at h0 h1 h2 h3
    have H2 := Lib.hid h2
    clear h2
    have h3' : st < 1 := by omega
    go_enter Tryd.func32, Tryd.ntmps32
    go_wp2_with (go_at_call 27; refine (pmayO_any _ _ _ _ _ _ H2.out).mono ?_; rintro e w2 ⟨rfl, hb2⟩; obtain ⟨z0, z1, z2, z3, z4, z5, z6, z7, z8, z9⟩ := ten ((hb2.block w.heap.size (by simp)).trans (heap_alloc_new w _)))
    go_ret
    exact ⟨rfl, hb0.trans (hb2.mono (by simp))⟩
  · simp only at h0 h1 h2 h3 h4 h5
    have H2 := Lib.hid h2
    clear h2
    have e4 : (en == 0) = false := beq_eq_false_iff_ne.2 h4
    clear h4
    go_enter Tryd.func32, Tryd.ntmps32
    go_wp2_with (go_at_call 27; refine (pmayO_any _ _ _ _ _ _ H2.out).mono ?_; rintro e w2 ⟨rfl, hb2⟩; obtain ⟨z0, z1, z2, z3, z4, z5, z6, z7, z8, z9⟩ := ten ((hb2.block w.heap.size (by simp)).trans (heap_alloc_new w _)))
    go_ret
    exact ⟨rfl, hb0.trans (hb2.mono (by simp))⟩
  · simp only at h0 h1 h2 h3 h4 h5
    have H2 := Lib.hid h2
    clear h2
    have e4 : (en == 0) = false := beq_eq_false_iff_ne.2 h4
    clear h4
    have h5' : decide (st < en) = false := decide_eq_false h5
    go_enter Tryd.func32, Tryd.ntmps32
    go_wp2_with (go_at_call 27; refine (pmayO_any _ _ _ _ _ _ H2.out).mono ?_; rintro e w2 ⟨rfl, hb2⟩; obtain ⟨z0, z1, z2, z3, z4, z5, z6, z7, z8, z9⟩ := ten ((hb2.block w.heap.size (by simp)).trans (heap_alloc_new w _)))
    go_ret
    exact ⟨rfl, hb0.trans (hb2.mono (by simp))⟩
  · simp only at h0 h1 h2 h3 h4 h5
    have H2 := Lib.hid h2
    clear h2
    subst h4
    have hst : decide (st < 0) = false := decide_eq_false (by omega)
    have e5 : (er == 0) = false := beq_eq_false_iff_ne.2 h5
    clear h5
    go_enter Tryd.func32, Tryd.ntmps32
    go_wp2_with (go_at_call 27; refine (pmayO_any _ _ _ _ _ _ H2.out).mono ?_; rintro e w2 ⟨rfl, hb2⟩; obtain ⟨z0, z1, z2, z3, z4, z5, z6, z7, z8, z9⟩ := ten ((hb2.block w.heap.size (by simp)).trans (heap_alloc_new w _)))
    go_ret
    exact ⟨rfl, hb0.trans (hb2.mono (by simp))⟩
  · simp only at h0 h1 h2 h3 h4 h5 h6
    have H2 := Lib.hid h2
    clear h2
    subst h4
    have hst : decide (st < 0) = false := decide_eq_false (by omega)
    subst h5 h6
    go_enter Tryd.func32, Tryd.ntmps32
    go_wp2_with (go_at_call 27; refine (pmayO_any _ _ _ _ _ _ H2.out).mono ?_; rintro e w2 ⟨rfl, hb2⟩; obtain ⟨z0, z1, z2, z3, z4, z5, z6, z7, z8, z9⟩ := ten ((hb2.block w.heap.size (by simp)).trans (heap_alloc_new w _)))
    go_ret
    exact ⟨rfl, hb0.trans (hb2.mono (by simp))⟩
  · simp only at h0 h1 h2 h3 h4 h5 h6 h7
    have H2 := Lib.hid h2
    clear h2
    subst h4
    have hst : decide (st < 0) = false := decide_eq_false (by omega)
    subst h5 h6
    obtain ⟨n1, n2⟩ := tx_some h7
    clear h7
    go_enter Tryd.func32, Tryd.ntmps32
    go_wp2_with (go_at_call 27; refine (pmayO_any _ _ _ _ _ _ H2.out).mono ?_; rintro e w2 ⟨rfl, hb2⟩; obtain ⟨z0, z1, z2, z3, z4, z5, z6, z7, z8, z9⟩ := ten ((hb2.block w.heap.size (by simp)).trans (heap_alloc_new w _)))
    go_ret
    exact ⟨rfl, hb0.trans (hb2.mono (by simp))⟩
  · simp only at h0 h1 h2 h3 h4 h5 h6 h7
    have H2 := Lib.hid h2
    clear h2
    subst h4
    have hst : decide (st < 0) = false := decide_eq_false (by omega)
    subst h5 h6 h7
    go_enter Tryd.func32, Tryd.ntmps32
    go_wp2_with (go_at_call 27; refine (pmayO_any _ _ _ _ _ _ H2.out).mono ?_; rintro e w2 ⟨rfl, hb2⟩; obtain ⟨z0, z1, z2, z3, z4, z5, z6, z7, z8, z9⟩ := ten ((hb2.block w.heap.size (by simp)).trans (heap_alloc_new w _)))
    go_ret
    exact ⟨rfl, hb0.trans (hb2.mono (by simp))⟩
set_option maxRecDepth 100000 in
set_option maxHeartbeats 1200000 in
theorem rcmay_any (c : Cl) (w : World) : Calls Tryd.prog 31 #[callV c] w fun e w' => e = .returned (.bool (mayC c)) ∧ Below w.heap.size w w' := by
  have hway := way_of c
  generalize mayC c = r at *
  obtain ⟨cli, ⟨kd, key, old, val⟩, ⟨er, fo, va⟩, st, en⟩ := c
  unfold callV
  have hb0 := box1 w (Obj.cells #[.int .i64 cli, .int .u8 kd, .string key, .string old, .string val, .int .i64 er, .bool fo, .string va, .int .i64 st, .int .i64 en] 38)
  have hW := Lib.hid hway
  clear hway
  rcases hW.out with h0 | ⟨h0, h1⟩ | ⟨h0, h1, h2⟩ | ⟨h0, h1, h2, h3⟩ | ⟨h0, h1, h2, h3, h4, h5⟩ | ⟨h0, h1, h2, h3, h4, h5⟩ | ⟨h0, h1, h2, h3, h4, h5⟩ | ⟨h0, h1, h2, h3, h4, h5, h6⟩ | ⟨h0, h1, h2, h3, h4, h5, h6, h7⟩ | ⟨h0, h1, h2, h3, h4, h5, h6, h7⟩
  all_goals clear hW
  · simp only at h0
    have h0' : cli < 0 := by omega
    go_enter Tryd.func31, Tryd.ntmps31
    go_wp2
    go_ret
    exact ⟨rfl, hb0⟩
  · simp only at h0 h1
    have h1' : 4 ≤ cli := by omega
    go_enter Tryd.func31, Tryd.ntmps31
    go_wp2
    go_ret
    exact ⟨rfl, hb0⟩
  · simp only at h0 h1 h2
    have H2 := Lib.hid h2
    clear h2
    go_enter Tryd.func31, Tryd.ntmps31
    go_wp2_with (go_at_call 36; refine (rmayO_any _ _ _ _ _ _ H2.out).mono ?_; rintro e w2 ⟨rfl, hb2⟩; obtain ⟨z0, z1, z2, z3, z4, z5, z6, z7, z8, z9⟩ := ten ((hb2.block w.heap.size (by simp)).trans (heap_alloc_new w _)))
    go_ret
    exact ⟨rfl, hb0.trans (hb2.mono (by simp))⟩
  · simp only at h0 h1 h2 h3
    have H2 := Lib.hid h2
    clear h2
    have h3' : st < 1 := by omega
    go_enter Tryd.func31, Tryd.ntmps31
    go_wp2_with (go_at_call 36; refine (rmayO_any _ _ _ _ _ _ H2.out).mono ?_; rintro e w2 ⟨rfl, hb2⟩; obtain ⟨z0, z1, z2, z3, z4, z5, z6, z7, z8, z9⟩ := ten ((hb2.block w.heap.size (by simp)).trans (heap_alloc_new w _)))
    go_ret
    exact ⟨rfl, hb0.trans (hb2.mono (by simp))⟩
  · simp only at h0 h1 h2 h3 h4 h5
    have H2 := Lib.hid h2
    clear h2
    have e4 : (en == 0) = false := beq_eq_false_iff_ne.2 h4
    clear h4
    go_enter Tryd.func31, Tryd.ntmps31
    go_wp2_with (go_at_call 36; refine (rmayO_any _ _ _ _ _ _ H2.out).mono ?_; rintro e w2 ⟨rfl, hb2⟩; obtain ⟨z0, z1, z2, z3, z4, z5, z6, z7, z8, z9⟩ := ten ((hb2.block w.heap.size (by simp)).trans (heap_alloc_new w _)))
    go_ret
    exact ⟨rfl, hb0.trans (hb2.mono (by simp))⟩
  · simp only at h0 h1 h2 h3 h4 h5
    have H2 := Lib.hid h2
    clear h2
    have e4 : (en == 0) = false := beq_eq_false_iff_ne.2 h4
    clear h4
    have h5' : decide (st < en) = false := decide_eq_false h5
    go_enter Tryd.func31, Tryd.ntmps31
    go_wp2_with (go_at_call 36; refine (rmayO_any _ _ _ _ _ _ H2.out).mono ?_; rintro e w2 ⟨rfl, hb2⟩; obtain ⟨z0, z1, z2, z3, z4, z5, z6, z7, z8, z9⟩ := ten ((hb2.block w.heap.size (by simp)).trans (heap_alloc_new w _)))
    go_ret
    exact ⟨rfl, hb0.trans (hb2.mono (by simp))⟩
  · simp only at h0 h1 h2 h3 h4 h5
    have H2 := Lib.hid h2
    clear h2
    subst h4
    have hst : decide (st < 0) = false := decide_eq_false (by omega)
    have e5 : (er == 0) = false := beq_eq_false_iff_ne.2 h5
    clear h5
    go_enter Tryd.func31, Tryd.ntmps31
    go_wp2_with (go_at_call 36; refine (rmayO_any _ _ _ _ _ _ H2.out).mono ?_; rintro e w2 ⟨rfl, hb2⟩; obtain ⟨z0, z1, z2, z3, z4, z5, z6, z7, z8, z9⟩ := ten ((hb2.block w.heap.size (by simp)).trans (heap_alloc_new w _)))
    go_ret
    exact ⟨rfl, hb0.trans (hb2.mono (by simp))⟩
  · simp only at h0 h1 h2 h3 h4 h5 h6
    have H2 := Lib.hid h2
    clear h2
    subst h4
    have hst : decide (st < 0) = false := decide_eq_false (by omega)
    subst h5 h6
    go_enter Tryd.func31, Tryd.ntmps31
    go_wp2_with (go_at_call 36; refine (rmayO_any _ _ _ _ _ _ H2.out).mono ?_; rintro e w2 ⟨rfl, hb2⟩; obtain ⟨z0, z1, z2, z3, z4, z5, z6, z7, z8, z9⟩ := ten ((hb2.block w.heap.size (by simp)).trans (heap_alloc_new w _)))
    go_ret
    exact ⟨rfl, hb0.trans (hb2.mono (by simp))⟩
  · simp only at h0 h1 h2 h3 h4 h5 h6 h7
    have H2 := Lib.hid h2
    clear h2
    subst h4
    have hst : decide (st < 0) = false := decide_eq_false (by omega)
    subst h5 h6
    obtain ⟨n1, n2⟩ := tx_some h7
    clear h7
    go_enter Tryd.func31, Tryd.ntmps31
    go_wp2_with (go_at_call 36; refine (rmayO_any _ _ _ _ _ _ H2.out).mono ?_; rintro e w2 ⟨rfl, hb2⟩; obtain ⟨z0, z1, z2, z3, z4, z5, z6, z7, z8, z9⟩ := ten ((hb2.block w.heap.size (by simp)).trans (heap_alloc_new w _)))
    go_ret
    exact ⟨rfl, hb0.trans (hb2.mono (by simp))⟩
  · simp only at h0 h1 h2 h3 h4 h5 h6 h7
    have H2 := Lib.hid h2
    clear h2
    subst h4
    have hst : decide (st < 0) = false := decide_eq_false (by omega)
    subst h5 h6 h7
    go_enter Tryd.func31, Tryd.ntmps31
    go_wp2_with (go_at_call 36; refine (rmayO_any _ _ _ _ _ _ H2.out).mono ?_; rintro e w2 ⟨rfl, hb2⟩; obtain ⟨z0, z1, z2, z3, z4, z5, z6, z7, z8, z9⟩ := ten ((hb2.block w.heap.size (by simp)).trans (heap_alloc_new w _)))
    go_ret
    exact ⟨rfl, hb0.trans (hb2.mono (by simp))⟩
end Go.Proofs.YtaojblejnpemkaaDoor
namespace Go.Proofs.YtaojblejnpemkaaDoor
open Go.RowKit
theorem chk_long {l : List Cl} (h : 40 < l.length) : chk l = 4 := by unfold chk; rw [if_pos (.inl h)]
theorem chk_pend {l : List Cl} (h : 8 < pendP l) : chk l = 4 := by unfold chk; rw [if_pos (.inr (.inl h))]
theorem chk_most {l : List Cl} (h : 12 < mostP l l) : chk l = 4 := by unfold chk; rw [if_pos (.inr (.inr h))]
theorem chk_all {l : List Cl} (h : ¬ 40 < l.length) (h2 : ¬ 8 < pendP l) (h3 : ¬ 12 < mostP l l) (a : Bool) (ha : l.all mayC = a) : chk l = if a then 0 else 2 := by
  unfold chk
  rw [if_neg (by rintro (h1 | h1 | h1) <;> omega), ha]
theorem max_int (M W : Nat) : (if M < W then (W : Int) else (M : Int)) = ((max M W : Nat) : Int) := by split <;> omega
set_option maxRecDepth 100000 in
set_option maxHeartbeats 8000000 in
theorem check_any (a : Option Addr) (cap : Nat) (l : List Cl) (w : World) (hs : SlC w a cap l) :
    Calls Tryd.prog 22 #[.slice a l.length cap] w fun e w' => e = .returned (.int .i64 (chk l)) ∧ Below w.heap.size w w' := by
  have hr := hs.row
  have hle := hs.le
  have hmx := hs.max
  unfold maxLen at hmx
  by_cases h40 : 40 < l.length
  · have HC := Lib.hid (chk_long h40)
    go_enter Tryd.func22, Tryd.ntmps22
    go_wp2
    go_ret
    exact ⟨ret_int HC.out.symm, Below.refl _ _⟩
  · go_enter Tryd.func22, Tryd.ntmps22
    refine wp_seq_k (fun K hK => ?_)
    have HK := Lib.hid hK
    clear hK
    go_wp2
    refine HK.out _ _ ?_
    clear HK
    refine wp_seq_k (fun K hK => ?_)
    have HK := Lib.hid hK
    clear hK
    go_wp2
    refine HK.out _ _ ?_
    clear HK
    refine wp_seq_k (fun K hK => ?_)
    have HK := Lib.hid hK
    clear hK
    go_wp2
    refine HK.out _ _ ?_
    clear HK
    go_wp2_with fail
    go_loopw [3, 4, 5, 13] (fun p m g i wr => ∃ k : Nat, k ≤ l.length ∧ i = .int .i64 k ∧ p = .int .i64 (pendP (l.take k)) ∧ m = .int .i64 (mostP l (l.take k)) ∧ g = .bool ((l.take k).all mayC) ∧ Below w.heap.size w wr) (fun _ _ _ i _ => l.length - (intOf i).toNat)
    case atStart => exact ⟨0, by omega, rfl, rfl, rfl, rfl, Below.refl _ _⟩
    case round =>
      obtain ⟨k, hk, rfl, rfl, rfl, rfl, hbr⟩ := hrel
      have hpl := pendP_le (l.take k)
      have hml := mostP_le l (l.take k)
      rw [List.length_take] at hpl
      by_cases hlt : k < l.length
      · obtain ⟨bb, off, rfl, hblt, ht0⟩ := hr.call (List.getElem?_eq_getElem hlt)
        obtain ⟨c0, c1, c2, c3, c4, c5, c6, c7, c8, c9⟩ := ht0.below hbr hblt
        have hsp : pendP (l.take (k + 1)) = pendP (l.take k) + if l[k].en == 0 then 1 else 0 := by rw [take_snoc' (List.getElem?_eq_getElem hlt), pendP_snoc]
        have hsm : mostP l (l.take (k + 1)) = max (mostP l (l.take k)) (wideP l l[k].st) := by rw [take_snoc' (List.getElem?_eq_getElem hlt), mostP_snoc]
        have hsa : (l.take (k + 1)).all mayC = ((l.take k).all mayC && mayC l[k]) := by rw [take_snoc' (List.getElem?_eq_getElem hlt), all_snoc]
        have hwl := wideP_le l l[k].st
        have hbs := hbr.size
        clear ht0
        generalize l[k] = c at *
        obtain ⟨cli, ⟨kd, key, old, val⟩, ⟨er, fo, va⟩, st, en⟩ := c
        simp only at c0 c1 c2 c3 c4 c5 c6 c7 c8 c9 hsp hsm hsa hwl
        have HSP := Lib.hid hsp
        have HSM := Lib.hid hsm
        have HSA := Lib.hid hsa
        clear hsp hsm hsa
        generalize pendP (l.take k) = P at *
        generalize mostP l (l.take k) = M at *
        generalize (l.take k).all mayC = A at *
        have hc := cmay_any ⟨cli, ⟨kd, key, old, val⟩, ⟨er, fo, va⟩, st, en⟩
        generalize mayC ⟨cli, ⟨kd, key, old, val⟩, ⟨er, fo, va⟩, st, en⟩ = mb at *
        have HC := Lib.hid hc
        clear hc
        by_cases q2 : en = 0
        · have q2b : (en == 0) = true := by simpa using q2
          clear q2
          cases A
          all_goals
            go_wp2_with fail
            have hb1 := box1 wr (Obj.cells #[.int .i64 cli, .int .u8 kd, .string key, .string old, .string val, .int .i64 er, .bool fo, .string va, .int .i64 st, .int .i64 en] 38)
            have bx := heap_alloc_new wr (Obj.cells #[.int .i64 cli, .int .u8 kd, .string key, .string old, .string val, .int .i64 er, .bool fo, .string va, .int .i64 st, .int .i64 en] 38)
            have hbw := hbr.trans (hb1.mono hbs)
            generalize wr.alloc (Obj.cells #[.int .i64 cli, .int .u8 kd, .string key, .string old, .string val, .int .i64 er, .bool fo, .string va, .int .i64 st, .int .i64 en] 38) = w5 at *
            obtain ⟨z0, z1, z2, z3, z4, z5, z6, z7, z8, z9⟩ := ten bx
            have z0 := under_cell z0
            have z1 := under_cell z1
            have z2 := under_cell z2
            have z3 := under_cell z3
            have z4 := under_cell z4
            have z5 := under_cell z5
            have z6 := under_cell z6
            have z7 := under_cell z7
            have z8 := under_cell z8
            have z9 := under_cell z9
            have hU : Hid (∀ x, SlC (Under w5 x) (some ⟨bb, off, none⟩) cap l) := Lib.hid fun x => (hs.below hbw).below (under_below w5 x)
            clear c0 c1 c2 c3 c4 c5 c6 c7 c8 c9
            refine wp_region_under (by kernel_rfl) (by kernel_rfl) ?_
            repeat (go_big_quiet_step ((first
                          | (go_at_call 32; exact under_call (HC.out _))
                          | (go_at_call 33; exact under_call (wide_any _ _ _ _ _ (hU.out _))))))
            refine wpQuiet_nil ?_
            intro _ hw'
            obtain ⟨xU, hw''⟩ := hw'
            subst hw''
            have hbU := under_below w5 xU
            go_wp2
            go_roundw
            case rel => exact ⟨k + 1, by omega, by go_num, int_eq (by rw [HSP.out, q2b]; simp), int_eq (by rw [HSM.out]; exact max_int _ _), bool_eq (by rw [HSA.out]; simp), hbw.trans (hbU.mono hbw.size)⟩
            case measure => simp [intOf]; omega
        · have q2b : (en == 0) = false := by simpa using q2
          clear q2
          cases A
          all_goals
            go_wp2_with fail
            have hb1 := box1 wr (Obj.cells #[.int .i64 cli, .int .u8 kd, .string key, .string old, .string val, .int .i64 er, .bool fo, .string va, .int .i64 st, .int .i64 en] 38)
            have bx := heap_alloc_new wr (Obj.cells #[.int .i64 cli, .int .u8 kd, .string key, .string old, .string val, .int .i64 er, .bool fo, .string va, .int .i64 st, .int .i64 en] 38)
            have hbw := hbr.trans (hb1.mono hbs)
            generalize wr.alloc (Obj.cells #[.int .i64 cli, .int .u8 kd, .string key, .string old, .string val, .int .i64 er, .bool fo, .string va, .int .i64 st, .int .i64 en] 38) = w5 at *
            obtain ⟨z0, z1, z2, z3, z4, z5, z6, z7, z8, z9⟩ := ten bx
            have z0 := under_cell z0
            have z1 := under_cell z1
            have z2 := under_cell z2
            have z3 := under_cell z3
            have z4 := under_cell z4
            have z5 := under_cell z5
            have z6 := under_cell z6
            have z7 := under_cell z7
            have z8 := under_cell z8
            have z9 := under_cell z9
            have hU : Hid (∀ x, SlC (Under w5 x) (some ⟨bb, off, none⟩) cap l) := Lib.hid fun x => (hs.below hbw).below (under_below w5 x)
            clear c0 c1 c2 c3 c4 c5 c6 c7 c8 c9
            refine wp_region_under (by kernel_rfl) (by kernel_rfl) ?_
            repeat (go_big_quiet_step ((first
                          | (go_at_call 32; exact under_call (HC.out _))
                          | (go_at_call 33; exact under_call (wide_any _ _ _ _ _ (hU.out _))))))
            refine wpQuiet_nil ?_
            intro _ hw'
            obtain ⟨xU, hw''⟩ := hw'
            subst hw''
            have hbU := under_below w5 xU
            go_wp2
            go_roundw
            case rel => exact ⟨k + 1, by omega, by go_num, int_eq (by rw [HSP.out, q2b]; simp), int_eq (by rw [HSM.out]; exact max_int _ _), bool_eq (by rw [HSA.out]; simp), hbw.trans (hbU.mono hbw.size)⟩
            case measure => simp [intOf]; omega
      · have htk : l.take k = l := List.take_of_length_le (by omega)
        rw [htk] at hpl hml ⊢
        clear htk
        have hc := chk_all (l := l) h40
        have hc1 := @chk_pend l
        have hc2 := @chk_most l
        generalize hP : pendP l = P at *
        generalize hM : mostP l l = M at *
        generalize hA : l.all mayC = A at *
        clear hP hM hA
        by_cases p1 : 8 < P
        · have HC := Lib.hid (hc1 p1)
          clear hc hc1 hc2
          go_wp2
          go_ret
          exact ⟨ret_int HC.out.symm, hbr⟩
        · by_cases p2 : 12 < M
          · have HC := Lib.hid (hc2 p2)
            clear hc hc1 hc2
            go_wp2
            go_ret
            exact ⟨ret_int HC.out.symm, hbr⟩
          · have := hc p1 p2 A rfl
            clear hc hc1 hc2
            cases A
            · simp at this
              have HC := Lib.hid this
              clear this
              go_wp2
              go_ret
              exact ⟨ret_int HC.out.symm, hbr⟩
            · simp at this
              have HC := Lib.hid this
              clear this
              go_wp2
              go_ret
              exact ⟨ret_int HC.out.symm, hbr⟩
end Go.Proofs.YtaojblejnpemkaaDoor
namespace Go.Proofs.YtaojblejnpemkaaDoor
open Go.RowKit
set_option maxRecDepth 100000 in
set_option maxHeartbeats 8000000 in
theorem rcheck_any (a : Option Addr) (cap : Nat) (l : List Cl) (w : World) (hs : SlC w a cap l) :
    Calls Tryd.prog 20 #[.slice a l.length cap] w fun e w' => e = .returned (.int .i64 (chk l)) ∧ Below w.heap.size w w' := by
  have hr := hs.row
  have hle := hs.le
  have hmx := hs.max
  unfold maxLen at hmx
  go_enter Tryd.func20, Tryd.ntmps20
  refine wp_seq_k (fun K hK => ?_)
  have HK := Lib.hid hK
  clear hK
  go_wp2
  refine HK.out _ _ ?_
  clear HK
  refine wp_seq_k (fun K hK => ?_)
  have HK := Lib.hid hK
  clear hK
  go_wp2
  refine HK.out _ _ ?_
  clear HK
  go_wp2_with fail
  go_loopw [3, 4, 5, 6] (fun p o v i wr => ∃ k : Nat, k ≤ l.length ∧ i = .int .i64 k ∧ p = .int .i64 (pendP (l.take k)) ∧ o = .bool (!(l.take k).all mayC) ∧ v = .bool (decide (12 < mostP l (l.take k))) ∧ Below w.heap.size w wr) (fun _ _ _ i _ => l.length - (intOf i).toNat)
  case atStart => exact ⟨0, by omega, rfl, rfl, rfl, rfl, Below.refl _ _⟩
  case round =>
    obtain ⟨k, hk, rfl, rfl, rfl, rfl, hbr⟩ := hrel
    have hpl := pendP_le (l.take k)
    rw [List.length_take] at hpl
    by_cases hlt : k < l.length
    · obtain ⟨bb, off, rfl, hblt, ht0⟩ := hr.call (List.getElem?_eq_getElem hlt)
      obtain ⟨c0, c1, c2, c3, c4, c5, c6, c7, c8, c9⟩ := ht0.below hbr hblt
      have hsp : pendP (l.take (k + 1)) = pendP (l.take k) + if l[k].en == 0 then 1 else 0 := by rw [take_snoc' (List.getElem?_eq_getElem hlt), pendP_snoc]
      have hsm : decide (12 < mostP l (l.take (k + 1))) = (decide (12 < mostP l (l.take k)) || decide (12 < wideP l l[k].st)) := by
        rw [take_snoc' (List.getElem?_eq_getElem hlt), mostP_gt, mostP_gt, List.any_append]
        simp
      have hsa : (l.take (k + 1)).all mayC = ((l.take k).all mayC && mayC l[k]) := by rw [take_snoc' (List.getElem?_eq_getElem hlt), all_snoc]
      have hbs := hbr.size
      generalize l[k] = c at *
      obtain ⟨cli, ⟨kd, key, old, val⟩, ⟨er, fo, va⟩, st, en⟩ := c
      simp only at c0 c1 c2 c3 c4 c5 c6 c7 c8 c9 hsp hsm hsa
      have HSP := Lib.hid hsp
      have HSM := Lib.hid hsm
      have HSA := Lib.hid hsa
      clear hsp hsm hsa
      generalize pendP (l.take k) = P at *
      generalize decide (12 < mostP l (l.take k)) = V at *
      generalize (l.take k).all mayC = A at *
      have hc := rcmay_any ⟨cli, ⟨kd, key, old, val⟩, ⟨er, fo, va⟩, st, en⟩
      generalize mayC ⟨cli, ⟨kd, key, old, val⟩, ⟨er, fo, va⟩, st, en⟩ = mb at *
      have HC := Lib.hid hc
      clear hc
      obtain ⟨eb, q2⟩ : ∃ eb, (en == 0) = eb := ⟨_, rfl⟩
      obtain ⟨wo, rfl⟩ : ∃ wo : World, wo = wr := ⟨_, rfl⟩
      cases eb <;> cases A
      all_goals
        go_wp2_with (go_at_call 31; refine (HC.out _).mono ?_; rintro e w1 ⟨rfl, hb1⟩; have hbr := hbr.trans (hb1.mono hbs); clear hb1)
        have HQ2 := Lib.hid q2
        clear q2 c0 c1 c2 c3 c4 c5 c6 c7 c8 c9
        go_loopw [7, 8] (fun n j wx => ∃ q : Nat, q ≤ l.length ∧ j = .int .i64 q ∧ n = .int .i64 ((l.take q).countP (onB st)) ∧ Below w.heap.size w wx) (fun _ j _ => l.length - (intOf j).toNat)
        case atStart => exact ⟨0, by omega, rfl, rfl, hbr⟩
        case round =>
          obtain ⟨q, hq, rfl, rfl, hbx⟩ := hrel
          have hcl : (l.take q).countP (onB st) ≤ q := by have := List.countP_le_length (p := onB st) (l := l.take q); rw [List.length_take] at this; omega
          have hbxs := hbx.size
          by_cases hlq : q < l.length
          · obtain ⟨c0, c1, c2, c3, c4, c5, c6, c7, c8, c9⟩ := ht0.below hbx hblt
            clear c0 c1 c2 c3 c4 c5 c6 c7 c9
            obtain ⟨bb2, off2, hbb, _, ht1⟩ := hr.call (List.getElem?_eq_getElem hlq)
            cases hbb
            obtain ⟨d0, d1, d2, d3, d4, d5, d6, d7, d8, d9⟩ := ht1.below hbx hblt
            have hsn : (l.take (q + 1)).countP (onB st) = (l.take q).countP (onB st) + if onB st l[q] then 1 else 0 := by
              rw [take_snoc' (List.getElem?_eq_getElem hlq), List.countP_append, List.countP_singleton]
            clear ht1 d0 d1 d2 d3 d4 d5 d6 d7
            generalize l[q] = c at *
            obtain ⟨cli2, ⟨kd2, key2, old2, val2⟩, ⟨er2, fo2, va2⟩, st2, en2⟩ := c
            simp only at d8 d9
            generalize (l.take q).countP (onB st) = n at *
            by_cases q1 : st2 ≤ st
            · by_cases q3 : en2 = 0
              · have hb : onB st ⟨cli2, ⟨kd2, key2, old2, val2⟩, ⟨er2, fo2, va2⟩, st2, en2⟩ = true := by simp [onB, q1, q3]
                have HS : Hid ((l.take (q + 1)).countP (onB st) = n + 1) := Lib.hid (by rw [hsn, hb]; rfl)
                have q3b : (en2 == 0) = true := by simpa using q3
                clear hsn hb q3
                go_wp2_with fail
                go_quiet (fail)
                go_wp2
                go_roundw
                case rel => exact ⟨q + 1, by omega, by go_num, by rw [HS.out]; go_num, below_drewN hbx _⟩
                case measure => simp [intOf]; omega
              · have q3b : (en2 == 0) = false := by simpa using q3
                by_cases q4 : st ≤ en2
                · have hb : onB st ⟨cli2, ⟨kd2, key2, old2, val2⟩, ⟨er2, fo2, va2⟩, st2, en2⟩ = true := by simp [onB, q1, q4]
                  have HS : Hid ((l.take (q + 1)).countP (onB st) = n + 1) := Lib.hid (by rw [hsn, hb]; rfl)
                  clear hsn hb q3
                  go_wp2_with fail
                  go_quiet (fail)
                  go_wp2
                  go_roundw
                  case rel => exact ⟨q + 1, by omega, by go_num, by rw [HS.out]; go_num, below_drewN hbx _⟩
                  case measure => simp [intOf]; omega
                · have hb : onB st ⟨cli2, ⟨kd2, key2, old2, val2⟩, ⟨er2, fo2, va2⟩, st2, en2⟩ = false := by simp [onB, q3, q4]
                  have HS : Hid ((l.take (q + 1)).countP (onB st) = n) := Lib.hid (by rw [hsn, hb]; rfl)
                  have q4b : decide (st ≤ en2) = false := decide_eq_false q4
                  clear hsn hb q3
                  go_wp2_with fail
                  go_quiet (fail)
                  go_wp2
                  go_roundw
                  case rel => exact ⟨q + 1, by omega, by go_num, by rw [HS.out], below_drewN hbx _⟩
                  case measure => simp [intOf]; omega
            · have hb : onB st ⟨cli2, ⟨kd2, key2, old2, val2⟩, ⟨er2, fo2, va2⟩, st2, en2⟩ = false := by simp [onB, q1]
              have HS : Hid ((l.take (q + 1)).countP (onB st) = n) := Lib.hid (by rw [hsn, hb]; rfl)
              have q1b : decide (st2 ≤ st) = false := decide_eq_false q1
              clear hsn hb
              go_wp2_with fail
              go_quiet (fail)
              go_wp2
              go_roundw
              case rel => exact ⟨q + 1, by omega, by go_num, by rw [HS.out], below_drewN hbx _⟩
              case measure => simp [intOf]; omega
          · have HE : Hid ((l.take q).countP (onB st) = wideP l st) := Lib.hid (by rw [List.take_of_length_le (by omega)]; rfl)
            generalize (l.take q).countP (onB st) = n at *
            cases V
            all_goals
              go_wp2
              go_roundw
              case rel => exact ⟨k + 1, by omega, by go_num, int_eq (by rw [HSP.out, HQ2.out]; simp), bool_eq (by rw [HSA.out]; simp), bool_eq (by rw [HSM.out, ← HE.out]; simp <;> omega), hbx⟩
              case measure => simp [intOf]; omega
    · have htk : l.take k = l := List.take_of_length_le (by omega)
      rw [htk] at hpl ⊢
      clear htk
      have hc0 := @chk_long l
      have hc := @chk_all l
      have hc1 := @chk_pend l
      have hc2 := @chk_most l
      generalize hP : pendP l = P at *
      generalize hM : mostP l l = M at *
      generalize hA : l.all mayC = A at *
      clear hP hM hA
      by_cases p0 : 40 < l.length
      · have HC := Lib.hid (hc0 p0)
        clear hc hc0 hc1 hc2
        go_wp2
        go_ret
        exact ⟨ret_int HC.out.symm, hbr⟩
      · by_cases p1 : 8 < P
        · have HC := Lib.hid (hc1 p1)
          clear hc hc0 hc1 hc2
          go_wp2
          go_ret
          exact ⟨ret_int HC.out.symm, hbr⟩
        · by_cases p2 : 12 < M
          · have HC := Lib.hid (hc2 p2)
            have p2b : decide (12 < M) = true := decide_eq_true p2
            clear hc hc0 hc1 hc2
            go_wp2
            go_ret
            exact ⟨ret_int HC.out.symm, hbr⟩
          · have p2b : decide (12 < M) = false := decide_eq_false p2
            have := hc p0 p1 p2 A rfl
            clear hc hc0 hc1 hc2
            cases A
            all_goals
              simp at this
              have HC := Lib.hid this
              clear this
              go_wp2
              go_ret
              exact ⟨ret_int HC.out.symm, hbr⟩
end Go.Proofs.YtaojblejnpemkaaDoor
namespace Go.Proofs.YtaojblejnpemkaaDoor
open Go.RowKit
def LongR (n : Nat) (w : World) (e : Ending) (w' : World) : Prop := (∃ b : Bool, e = .returned (.bool b) ∧ (b = false → n ≤ 45)) ∧ Below w.heap.size w w'
set_option maxRecDepth 100000 in
set_option maxHeartbeats 4000000 in
theorem long_any (a : Option Addr) (cap : Nat) (l : List Cl) (w : World) (hs : SlC w a cap l) :
    Calls Tryd.prog 8 #[.slice a l.length cap, .int .i64 45] w (LongR l.length w) := by
  have hr := hs.row
  have hle := hs.le
  have hmx := hs.max
  unfold maxLen at hmx
  by_cases h45 : 45 < l.length
  · go_enter Tryd.func8, Tryd.ntmps8
    go_wp2
    go_ret
    exact ⟨⟨_, rfl, fun h => by cases h⟩, Below.refl _ _⟩
  · have h45' : l.length ≤ 45 := by omega
    go_enter Tryd.func8, Tryd.ntmps8
    refine wp_seq_k (fun K hK => ?_)
    have HK := Lib.hid hK
    clear hK
    go_wp2
    refine HK.out _ _ ?_
    clear HK
    refine wp_seq_k (fun K hK => ?_)
    have HK := Lib.hid hK
    clear hK
    go_wp2
    refine HK.out _ _ ?_
    clear HK
    go_wp2_with fail
    go_loopw [5] (fun i wr => ∃ k : Nat, k ≤ l.length ∧ i = .int .i64 k ∧ Below w.heap.size w wr) (fun i _ => l.length - (intOf i).toNat)
    case atStart => exact ⟨0, by omega, rfl, Below.refl _ _⟩
    case round =>
      obtain ⟨k, hk, rfl, hbr⟩ := hrel
      by_cases hlt : k < l.length
      · obtain ⟨bb, off, rfl, hblt, ht0⟩ := hr.call (List.getElem?_eq_getElem hlt)
        obtain ⟨c0, c1, c2, c3, c4, c5, c6, c7, c8, c9⟩ := ht0.below hbr hblt
        clear ht0 c0 c8 c9
        generalize l[k] = c at *
        obtain ⟨cli, ⟨kd, key, old, val⟩, ⟨er, fo, va⟩, st, en⟩ := c
        simp only at c1 c2 c3 c4 c5 c6 c7
        have hbs := hbr.size
        have h5 : 50 < key.size ∨ (¬ 50 < key.size ∧ 50 < old.size) ∨ (¬ 50 < key.size ∧ ¬ 50 < old.size ∧ 50 < val.size) ∨ (¬ 50 < key.size ∧ ¬ 50 < old.size ∧ ¬ 50 < val.size ∧ 50 < va.size) ∨ (¬ 50 < key.size ∧ ¬ 50 < old.size ∧ ¬ 50 < val.size ∧ ¬ 50 < va.size) := by omega
        rcases h5 with q1 | ⟨q1, q2⟩ | ⟨q1, q2, q3⟩ | ⟨q1, q2, q3, q4⟩ | ⟨q1, q2, q3, q4⟩
        · skip
          go_wp2_with fail
          have n1 := World.new_ne wr _ c1
          go_region_held3 (fun w' => w'.cell? ⟨bb, off + k * 10 + 1, none⟩ = some (.int .u8 kd) ∧ w'.cell? ⟨bb, off + k * 10 + 2, none⟩ = some (.string key) ∧ w'.cell? ⟨bb, off + k * 10 + 3, none⟩ = some (.string old) ∧ w'.cell? ⟨bb, off + k * 10 + 4, none⟩ = some (.string val) ∧ w'.cell? ⟨bb, off + k * 10 + 5, none⟩ = some (.int .i64 er) ∧ w'.cell? ⟨bb, off + k * 10 + 6, none⟩ = some (.bool fo) ∧ w'.cell? ⟨bb, off + k * 10 + 7, none⟩ = some (.string va))
            (first
              | exact ⟨c1, c2, c3, c4, c5, c6, c7⟩
              | go_keep)
            (fail)
          all_goals
            go_wp2
            go_ret
            exact ⟨⟨_, rfl, fun _ => h45'⟩, by (repeat' (first | (with_reducible exact Below.refl _ _) | (with_reducible assumption) | (with_reducible refine Below.alloc ?_ ?_ _) | (with_reducible refine Below.drew ?_) | (with_reducible refine below_drewN ?_ _) | (with_reducible refine Below.setCell ?_ ?_ _) | (with_reducible refine Below.trans ?_ (by assumption)) | go_size))⟩
        · skip
          go_wp2_with fail
          have n1 := World.new_ne wr _ c1
          go_region_held3 (fun w' => w'.cell? ⟨bb, off + k * 10 + 1, none⟩ = some (.int .u8 kd) ∧ w'.cell? ⟨bb, off + k * 10 + 2, none⟩ = some (.string key) ∧ w'.cell? ⟨bb, off + k * 10 + 3, none⟩ = some (.string old) ∧ w'.cell? ⟨bb, off + k * 10 + 4, none⟩ = some (.string val) ∧ w'.cell? ⟨bb, off + k * 10 + 5, none⟩ = some (.int .i64 er) ∧ w'.cell? ⟨bb, off + k * 10 + 6, none⟩ = some (.bool fo) ∧ w'.cell? ⟨bb, off + k * 10 + 7, none⟩ = some (.string va))
            (first
              | exact ⟨c1, c2, c3, c4, c5, c6, c7⟩
              | go_keep)
            (fail)
          all_goals
            go_wp2
            go_ret
            exact ⟨⟨_, rfl, fun _ => h45'⟩, by (repeat' (first | (with_reducible exact Below.refl _ _) | (with_reducible assumption) | (with_reducible refine Below.alloc ?_ ?_ _) | (with_reducible refine Below.drew ?_) | (with_reducible refine below_drewN ?_ _) | (with_reducible refine Below.setCell ?_ ?_ _) | (with_reducible refine Below.trans ?_ (by assumption)) | go_size))⟩
        · skip
          go_wp2_with fail
          have n1 := World.new_ne wr _ c1
          go_region_held3 (fun w' => w'.cell? ⟨bb, off + k * 10 + 1, none⟩ = some (.int .u8 kd) ∧ w'.cell? ⟨bb, off + k * 10 + 2, none⟩ = some (.string key) ∧ w'.cell? ⟨bb, off + k * 10 + 3, none⟩ = some (.string old) ∧ w'.cell? ⟨bb, off + k * 10 + 4, none⟩ = some (.string val) ∧ w'.cell? ⟨bb, off + k * 10 + 5, none⟩ = some (.int .i64 er) ∧ w'.cell? ⟨bb, off + k * 10 + 6, none⟩ = some (.bool fo) ∧ w'.cell? ⟨bb, off + k * 10 + 7, none⟩ = some (.string va))
            (first
              | exact ⟨c1, c2, c3, c4, c5, c6, c7⟩
              | go_keep)
            (fail)
          all_goals
            go_wp2
            go_ret
            exact ⟨⟨_, rfl, fun _ => h45'⟩, by (repeat' (first | (with_reducible exact Below.refl _ _) | (with_reducible assumption) | (with_reducible refine Below.alloc ?_ ?_ _) | (with_reducible refine Below.drew ?_) | (with_reducible refine below_drewN ?_ _) | (with_reducible refine Below.setCell ?_ ?_ _) | (with_reducible refine Below.trans ?_ (by assumption)) | go_size))⟩
        · skip
          go_wp2_with fail
          have n1 := World.new_ne wr _ c1
          go_region_held3 (fun w' => w'.cell? ⟨bb, off + k * 10 + 1, none⟩ = some (.int .u8 kd) ∧ w'.cell? ⟨bb, off + k * 10 + 2, none⟩ = some (.string key) ∧ w'.cell? ⟨bb, off + k * 10 + 3, none⟩ = some (.string old) ∧ w'.cell? ⟨bb, off + k * 10 + 4, none⟩ = some (.string val) ∧ w'.cell? ⟨bb, off + k * 10 + 5, none⟩ = some (.int .i64 er) ∧ w'.cell? ⟨bb, off + k * 10 + 6, none⟩ = some (.bool fo) ∧ w'.cell? ⟨bb, off + k * 10 + 7, none⟩ = some (.string va))
            (first
              | exact ⟨c1, c2, c3, c4, c5, c6, c7⟩
              | go_keep)
            (fail)
          all_goals
            go_wp2
            go_ret
            exact ⟨⟨_, rfl, fun _ => h45'⟩, by (repeat' (first | (with_reducible exact Below.refl _ _) | (with_reducible assumption) | (with_reducible refine Below.alloc ?_ ?_ _) | (with_reducible refine Below.drew ?_) | (with_reducible refine below_drewN ?_ _) | (with_reducible refine Below.setCell ?_ ?_ _) | (with_reducible refine Below.trans ?_ (by assumption)) | go_size))⟩
        · skip
          go_wp2_with fail
          have n1 := World.new_ne wr _ c1
          go_region_held3 (fun w' => w'.cell? ⟨bb, off + k * 10 + 1, none⟩ = some (.int .u8 kd) ∧ w'.cell? ⟨bb, off + k * 10 + 2, none⟩ = some (.string key) ∧ w'.cell? ⟨bb, off + k * 10 + 3, none⟩ = some (.string old) ∧ w'.cell? ⟨bb, off + k * 10 + 4, none⟩ = some (.string val) ∧ w'.cell? ⟨bb, off + k * 10 + 5, none⟩ = some (.int .i64 er) ∧ w'.cell? ⟨bb, off + k * 10 + 6, none⟩ = some (.bool fo) ∧ w'.cell? ⟨bb, off + k * 10 + 7, none⟩ = some (.string va))
            (first
              | exact ⟨c1, c2, c3, c4, c5, c6, c7⟩
              | go_keep)
            (fail)
          all_goals
            go_wp2
            go_roundw
            case rel => exact ⟨k + 1, by omega, by go_num, by (repeat' (first | (with_reducible exact Below.refl _ _) | (with_reducible assumption) | (with_reducible refine Below.alloc ?_ ?_ _) | (with_reducible refine Below.drew ?_) | (with_reducible refine below_drewN ?_ _) | (with_reducible refine Below.setCell ?_ ?_ _) | (with_reducible refine Below.trans ?_ (by assumption)) | go_size))⟩
            case measure => simp [intOf]; omega
      · go_wp2
        go_ret
        exact ⟨⟨_, rfl, fun _ => h45'⟩, hbr⟩
end Go.Proofs.YtaojblejnpemkaaDoor
namespace Go.Proofs.YtaojblejnpemkaaDoor
open Go.RowKit
theorem bit_get (m n : Nat) (hm : m < 2 ^ 40) : bits .and .u64 ((m : Int) / 2 ^ n) 1 = if m.testBit n then 1 else 0 := by
  have e : ((m : Int) / 2 ^ n) = ((m / 2 ^ n : Nat) : Int) := by push_cast; rfl
  have hd : m / 2 ^ n ≤ m := Nat.div_le_self _ _
  rw [e]
  have := u64_and_nat (m / 2 ^ n) 1 (by omega) (by omega)
  rw [show ((1 : Nat) : Int) = 1 from rfl] at this
  rw [this, Nat.and_one_is_mod, Nat.testBit_eq_decide_div_mod_eq]
  rcases Nat.mod_two_eq_zero_or_one (m / 2 ^ n) with h | h <;> simp [h]
theorem bit_set (m n : Nat) (hm : m < 2 ^ 40) (hn : n < 40) : bits .or .u64 (m : Int) (2 ^ n) = ((m ||| 2 ^ n : Nat) : Int) ∧ m ||| 2 ^ n < 2 ^ 40 := by
  have h2 : 2 ^ n < 2 ^ 40 := Nat.pow_lt_pow_right (by omega) hn
  have := u64_or_nat m (2 ^ n) (by omega) (by omega)
  rw [show ((2 ^ n : Nat) : Int) = 2 ^ n by push_cast; rfl] at this
  exact ⟨this, Nat.or_lt_two_pow hm h2⟩
theorem bit_shl (n : Nat) (hn : n < 40) : IntKind.u64.wrap (2 ^ min n 64) = 2 ^ n := by
  have h2 : 2 ^ n < 2 ^ 40 := Nat.pow_lt_pow_right (by omega) hn
  rw [show min n 64 = n by omega]
  have e : ((2 : Int) ^ n) = ((2 ^ n : Nat) : Int) := by push_cast; rfl
  rw [e]
  clear e
  generalize 2 ^ n = x at *
  exact IntWalk.u64_in _ (by omega)
theorem bit_or (m n : Nat) (hm : m < 2 ^ 40) (hn : n < 40) : bits .or .u64 (m : Int) (IntKind.u64.wrap (2 ^ n)) = ((m ||| 2 ^ n : Nat) : Int) := by
  have h := bit_shl n hn
  rw [show min n 64 = n by omega] at h
  rw [h]
  exact (bit_set m n hm hn).1
theorem bit_test (m n j : Nat) : (m ||| 2 ^ n).testBit j = (m.testBit j || decide (n = j)) := by
  rw [Nat.testBit_or, Nat.testBit_two_pow]
end Go.Proofs.YtaojblejnpemkaaDoor
