/- Texts that the claim leans on, part 8: J27, J28. -/
import Derived.Test.YtkkoookmnnmiiaaZ1
import Derived.Test.YtkkoookmnnmiiaaZ2
import Derived.Test.YtkkoookmnnmiiaaZ3
import Derived.Test.YtkkoookmnnmiiaaZ4
import Derived.Test.YtkkoookmnnmiiaaZ5
import Derived.Test.YtkkoookmnnmiiaaZ6
import Derived.Test.YtkkoookmnnmiiaaRows
import Derived.WalkKit
import Derived.WalkSpells
import Derived.WalkLawsBesides
import Derived.Handy
import Derived.Deep.QuietTactic
import Derived.BigQuiet
import Derived.Deep.DeepCutAuto
import Derived.Lib.Hide
import Derived.RegionTactic
import Derived.ChangeAlike
import Derived.Laws.ResultCell
import Derived.Outline
import Derived.LoopN
import Derived.Shelf.Abstract
import Derived.Shelf.RegionOpen
import Derived.OwnWalkIn
import Derived.TacticsInMore
import Derived.LoopNIn
import Derived.LoopIn
import Derived.Maps.AppendAt
import Derived.Maps.OwnIn
import Derived.Maps.Keyed
import Derived.Maps.Views
import Derived.Shelf.SlIterI.Nil
import Derived.Shelf.SortM.Plain
import Derived.Shelf.SortM.SortNone
import Derived.RangeFuncNested
import Derived.RangeFuncBound
import Derived.RangeFuncCalls
import Derived.RangeFuncLeaves
import Derived.RangeFuncBox
import Derived.RangeFuncRecord
import Derived.Maps.OwnSet
import Derived.Lib.SlKeysI
import Derived.Laws.Rows
import Derived.Deep.Quiet
import Derived.Deep.RegionHeld3
import Derived.ProofKit
import Derived.OpenShut
import Derived.Laws.Strings
import Derived.Laws.CopyOwn
import Derived.Laws.CopyRow
import Derived.Laws.NewBlocks
import Derived.Deep.RegionLaw
namespace Go.Proofs.Ytkkoookmnnmiiaa
open Go.RowKit

/-- Whether two of some lists agree. -/
def pairJ (ls : List PartA) (i k : Nat) : Bool := agreeJ (flatJ [(ls.getD i (none, 0, [])).2.2, (ls.getD k (none, 0, [])).2.2])
def prA (ls : List PartA) (i k : Nat) : Bool := (List.range i).all (fun j => (List.range (j + 1)).all (pairJ ls j)) && (List.range k).all (pairJ ls i)
section
variable {ls : List PartA}
theorem prA_zero : prA ls 0 0 = true := by simp [prA]
theorem prA_succ (i k : Nat) : prA ls i (k + 1) = (prA ls i k && pairJ ls i k) := by
  unfold prA
  rw [List.range_succ (n := k), List.all_append]
  simp [Bool.and_assoc]
theorem prA_next (i : Nat) : prA ls (i + 1) 0 = prA ls i (i + 1) := by
  unfold prA
  simp only [List.range_succ, List.all_append, List.all_cons, List.all_nil, Bool.and_true, List.range_zero]
theorem prA_all : prA ls ls.length 0 = agreeJ (flatJ (lstA ls)) := by
  have hg : ∀ i (hi : i < ls.length), (ls.getD i (none, 0, [])).2.2 = (lstA ls)[i]'(by unfold lstA; simpa using hi) := fun i hi => by
    rw [List.getD_eq_getElem?_getD, List.getElem?_eq_getElem hi]
    unfold lstA
    simp
  have hl : (lstA ls).length = ls.length := by simp [lstA]
  rw [Bool.eq_iff_iff, pairs_all]
  unfold prA
  simp only [List.range_zero, List.all_nil, Bool.and_true]
  rw [List.all_eq_true]
  constructor
  · intro h i k hi hk
    have h1 := List.all_eq_true.1 (h i (List.mem_range.2 (by omega))) k (List.mem_range.2 (by omega))
    unfold pairJ at h1
    rw [hg i (by omega), hg k (by omega)] at h1
    exact h1
  · intro h i hi
    have hi := List.mem_range.1 hi
    rw [List.all_eq_true]
    intro k hk
    have hk := List.mem_range.1 hk
    unfold pairJ
    rw [hg i hi, hg k (by omega)]
    exact h i k (by omega) (by omega)
/-- The lists, read from one on. -/
def turnP (ls : List PartA) (n i : Nat) : List PartA := (List.range i).map (fun j => ls.getD ((n + j) % ls.length) (none, 0, []))
theorem turn_zero (n : Nat) : turnP ls n 0 = [] := rfl
theorem turn_len (n i : Nat) : (turnP ls n i).length = i := by simp [turnP]
theorem turn_succ (n i : Nat) (h : (n + i) % ls.length < ls.length) : turnP ls n (i + 1) = turnP ls n i ++ [ls[(n + i) % ls.length]] := by
  unfold turnP
  rw [List.range_succ, List.map_append]
  simp [List.getD_eq_getElem?_getD, List.getElem?_eq_getElem h]
theorem turn_mem {n i : Nat} (h0 : 0 < ls.length) {x : PartA} (hx : x ∈ turnP ls n i) : x ∈ ls := by
  unfold turnP at hx
  obtain ⟨j, _, rfl⟩ := List.mem_map.1 hx
  have := Nat.mod_lt (n + j) h0
  rw [List.getD_eq_getElem?_getD, List.getElem?_eq_getElem this]
  exact List.getElem_mem _
theorem turn_lst {n : Nat} (h0 : 0 < ls.length) : lstA (turnP ls n ls.length) = rotJ (lstA ls) n := by
  have hl : (lstA ls).length = ls.length := by simp [lstA]
  unfold rotJ
  rw [hl]
  unfold turnP
  conv => lhs; unfold lstA
  rw [List.map_map]
  refine List.map_congr_left fun j _ => ?_
  have := Nat.mod_lt (n + j) h0
  simp only [Function.comp]
  rw [List.getD_eq_getElem?_getD, List.getElem?_eq_getElem this, List.getD_eq_getElem?_getD, List.getElem?_eq_getElem (by rw [hl]; exact this)]
  unfold lstA
  simp
theorem turn_told2 {n : Nat} (h0 : 0 < ls.length) (hn : n < ls.length) : agreeJ (flatJ (lstA (turnP ls n ls.length))) = agreeJ (flatJ (lstA ls)) ∧ firstOdd (flatJ (lstA (turnP ls n ls.length))) = firstOdd (flatJ (lstA ls)) := by
  have hl : (lstA ls).length = ls.length := by simp [lstA]
  rw [turn_lst h0]
  exact rot_told (by omega) (by omega)
/-- One list out of a row of them. -/
theorem PartsA.at {w : World} {a : Option Addr} (h : PartsA w a ls) {j : Nat} (hj : j < ls.length) : ∃ b off, a = some ⟨b, off, none⟩ ∧ w.cell? ⟨b, off + j, none⟩ = some (.slice ls[j].1 ls[j].2.2.length ls[j].2.1) := by
  obtain ⟨b, off, rfl, hc⟩ := h.row.at (k := j) (by simpa using hj)
  exact ⟨b, off, rfl, hc j _ (by rw [List.getElem?_map, List.getElem?_eq_getElem hj]; rfl)⟩
end
theorem rot_at (x : Int) {n : Nat} (h0 : 0 < n) (hn : n ≤ 1000000) : ∃ r : Nat, r < n ∧ wrap64 ((IntKind.u64.wrap x).tmod n) = r := by
  have h1 := wrap_u64_nonneg x
  generalize IntKind.u64.wrap x = y at *
  have h2 : y.tmod n = y % n := Int.tmod_eq_emod_of_nonneg h1
  have h3 := Int.emod_nonneg y (show (n : Int) ≠ 0 by omega)
  have h4 := Int.emod_lt_of_pos y (show (0 : Int) < n by omega)
  rw [h2]
  generalize y % (n : Int) = z at *
  unfold wrap64
  exact ⟨z.toNat, by omega, by omega⟩
theorem tmod_nat {r k : Nat} (n : Nat) (hr : r ≤ 1000000) (hk : k ≤ 1000000) : (wrap64 ((r : Int) + (k : Int))).tmod n = (((r + k) % n : Nat) : Int) := by
  rw [show wrap64 ((r : Int) + (k : Int)) = (r : Int) + k by unfold wrap64; omega]
  rw [Int.tmod_eq_emod_of_nonneg (by omega), Int.natCast_emod, Int.natCast_add]
theorem firstG {a : Option Addr} {ls : List PartA} {w : World} (h : PartsA w a ls) (cap : Nat) (hlen : ls.length ≤ 1000000) (hlen2 : ∀ x ∈ ls, x.2.2.length ≤ 1000000) (hok : ∀ x ∈ ls, ∀ y ∈ x.2.2, okI y) {g : Int} (hg : firstOdd (flatJ (lstA ls)) = g) : Calls Try.prog 14 #[.slice a ls.length cap] w fun e w' => e = .returned (.int .i64 g) ∧ Below w.heap.size w w' := by
  subst hg
  exact first_any h cap hlen hlen2 hok
/-- Two lists in a row that was laid just now. -/
theorem pair_parts {w : World} {T : TypeId} {x y : PartA} (hx : SlA w x.1 x.2.1 x.2.2) (hy : SlA w y.1 y.2.1 y.2.2) : PartsA (w.alloc (.cells #[.slice x.1 x.2.2.length x.2.1, .slice y.1 y.2.2.length y.2.1] T)) (some ⟨w.heap.size, 0, none⟩) [x, y] := by
  have hb : Below w.heap.size w (w.alloc (.cells #[.slice x.1 x.2.2.length x.2.1, .slice y.1 y.2.2.length y.2.1] T)) := (Below.refl _ _).alloc (Nat.le_refl _) _
  refine ⟨row_block (heap_alloc_new w _) rfl, fun z hz => ?_⟩
  simp only [List.mem_cons, List.not_mem_nil, or_false] at hz
  rcases hz with rfl | rfl
  · exact hx.below hb
  · exact hy.below hb
theorem agreeP {w : World} {T : TypeId} {x y : PartA} (hx : SlA w x.1 x.2.1 x.2.2) (hy : SlA w y.1 y.2.1 y.2.2) (h1 : x.2.2.length ≤ 1000000) (h2 : y.2.2.length ≤ 1000000) (k1 : ∀ u ∈ x.2.2, okI u) (k2 : ∀ u ∈ y.2.2, okI u) {g : Bool} (hg : agreeJ (flatJ [x.2.2, y.2.2]) = g) : Calls Try.prog 13 #[.slice (some ⟨w.heap.size, 0, none⟩) 2 2] (w.alloc (.cells #[.slice x.1 x.2.2.length x.2.1, .slice y.1 y.2.2.length y.2.1] T)) fun e w' => e = .returned (.bool g) ∧ Below w.heap.size w w' := by
  have hz : ∀ z ∈ [x, y], z.2.2.length ≤ 1000000 := fun z hz => by
    simp only [List.mem_cons, List.not_mem_nil, or_false] at hz
    rcases hz with rfl | rfl <;> assumption
  have hk : ∀ z ∈ [x, y], ∀ u ∈ z.2.2, okI u := fun z hz => by
    simp only [List.mem_cons, List.not_mem_nil, or_false] at hz
    rcases hz with rfl | rfl <;> assumption
  refine (agreeG (pair_parts hx hy) 2 (by simp) hz hk (g := g) hg).mono ?_
  rintro e w' ⟨rfl, hb⟩
  exact ⟨rfl, ((Below.refl _ _).alloc (Nat.le_refl _) _).trans (hb.mono (by simp))⟩
theorem agreePd {w : World} {T : TypeId} {x y : PartA} (hx : SlA w x.1 x.2.1 x.2.2) (hy : SlA w y.1 y.2.1 y.2.2) (h1 : x.2.2.length ≤ 1000000) (h2 : y.2.2.length ≤ 1000000) (k1 : ∀ u ∈ x.2.2, okI u) (k2 : ∀ u ∈ y.2.2, okI u) {g : Bool} (hg : agreeJ (flatJ [x.2.2, y.2.2]) = g) : Calls Try.prog 13 #[.slice (some ⟨w.heap.size, 0, none⟩) 2 2] (w.alloc (.cells #[.slice x.1 x.2.2.length x.2.1, .slice y.1 y.2.2.length y.2.1] T)).drew fun e w' => e = .returned (.bool g) ∧ Below w.heap.size w w' := by
  have hz : ∀ z ∈ [x, y], z.2.2.length ≤ 1000000 := fun z hz => by
    simp only [List.mem_cons, List.not_mem_nil, or_false] at hz
    rcases hz with rfl | rfl <;> assumption
  have hk : ∀ z ∈ [x, y], ∀ u ∈ z.2.2, okI u := fun z hz => by
    simp only [List.mem_cons, List.not_mem_nil, or_false] at hz
    rcases hz with rfl | rfl <;> assumption
  refine (agreeG ((pair_parts (T := T) hx hy).below (Below.refl _ _).drew) 2 (by simp) hz hk (g := g) hg).mono ?_
  rintro e w' ⟨rfl, hb⟩
  exact ⟨rfl, ((Below.refl _ _).alloc (Nat.le_refl _) _).drew.trans (hb.mono (by simp))⟩
theorem keepJ {x y : World} (hb : Below x.heap.size x y) {p : Addr} {v : Value} (hc : x.cell? p = some v) : y.cell? p = some v := (hb.cell (World.block_lt_of_cell? x p hc)).trans hc
end Go.Proofs.Ytkkoookmnnmiiaa

namespace Go.Proofs.Ytkkoookmnnmiiaa
open Go.RowKit

set_option maxRecDepth 100000 in
set_option maxHeartbeats 4000000 in
theorem pairs_law (a : Option Addr) (cap : Nat) (ls : List PartA) (fr : Int) (w : World) (hs : PartsA w a ls) (hlen : ls.length ≤ 9223372036854775807) (hok : ∀ x ∈ ls, ∀ y ∈ x.2.2, okI y) :
    Calls Try.prog 4 #[.slice a ls.length cap, .int .i64 fr] w fun e w' => e = .returned (.bool true) ∧ Below w.heap.size w w' := by
  have HOK := Lib.hid hok
  clear hok
  have HS := Lib.hid hs
  have HGR := fun w1 (h : Below w.heap.size w w1) => greatJ_any (hs.below h) cap hlen (fun x hx => by
    have := (hs.each x hx).le; have := (hs.each x hx).mx; unfold maxLen at *; omega)
  clear hs
  go_enter Try.func4, Try.ntmps4
  go_wp2_with fail
  go_at_call 8
  refine (awake_any _).mono ?_
  rintro e w1 ⟨rfl, hb1⟩
  go_wp2_with fail
  go_at_call 15
  refine (HGR w1 hb1).mono ?_
  rintro e w2 ⟨⟨r, rfl, hr⟩, hb2⟩
  have hw2 := hb1.trans (hb2.mono hb1.size)
  clear HGR hb1 hb2
  cases r
  case true =>
    go_wp2
    go_ret
    exact ⟨rfl, hw2⟩
  case false =>
    have h200 := hr rfl
    have HL2 : ∀ x ∈ ls, x.2.2.length ≤ 1000000 := fun x hx => by
      obtain ⟨j, hj, rfl⟩ := List.getElem_of_mem hx
      have := h200.2 j hj
      omega
    have h200 := h200.1
    have H2 := Lib.hid HL2
    clear hr HL2
    by_cases h0 : ls.length = 0
    · have hi0 : ((ls.length : Int) == 0) = true := by rw [beq_iff_eq]; omega
      go_wp2
      go_ret
      exact ⟨rfl, hw2⟩
    · have hi0 : ((ls.length : Int) == 0) = false := by rw [beq_eq_false_iff_ne]; omega
      by_cases h12 : 12 < ls.length
      · go_wp2
        go_ret
        exact ⟨rfl, hw2⟩
      · go_wp2
        have H0 := Lib.hid (show 0 < ls.length by omega)
        clear h12 hi0 h0
        go_loopw [5, 6] (fun al i wr => ∃ k : Nat, k ≤ ls.length ∧ i = .int .i64 k ∧ al = .bool (prA ls k 0) ∧ Below w.heap.size w wr) (fun _ i _ => ls.length - (Go.RowKit.intOf i).toNat)
        case atStart => exact ⟨0, by omega, rfl, by rw [prA_zero], hw2⟩
        case round =>
          obtain ⟨i, hi, rfl, rfl, hbr⟩ := hrel
          by_cases hlt : i < ls.length
          · have HPN := Lib.hid (prA_next (ls := ls) i)
            go_wp2
            go_loopw [5, 7] (fun al k wr2 => ∃ j : Nat, j ≤ i + 1 ∧ k = .int .i64 j ∧ al = .bool (prA ls i j) ∧ Below w.heap.size w wr2) (fun _ k _ => ls.length - (Go.RowKit.intOf k).toNat)
            case atStart => exact ⟨0, by omega, rfl, rfl, hbr⟩
            case round =>
              obtain ⟨j, hj, rfl, rfl, hbr2⟩ := hrel
              by_cases hltj : j < i + 1
              · have HPS := Lib.hid (prA_succ (ls := ls) i j)
                obtain ⟨q, hq⟩ : ∃ q, prA ls i j = q := ⟨_, rfl⟩
                rw [hq] at HPS
                rw [hq]
                clear hq
                cases q
                case false =>
                  go_wp2
                  go_region
                  all_goals go_wp2
                  all_goals go_roundw
                  case rel => exact ⟨j + 1, by omega, by go_num, by rw [HPS.out]; rfl, hbr2.drew⟩
                  case measure => simp [Go.RowKit.intOf]; omega
                case true =>
                  have hP := HS.out.below hbr2
                  have hjl : j < ls.length := by omega
                  obtain ⟨b, off, rfl, cx⟩ := hP.at hlt
                  obtain ⟨b2, o2, e2, cy⟩ := hP.at hjl
                  cases e2
                  have hx := hP.each _ (List.getElem_mem hlt)
                  have hy := hP.each _ (List.getElem_mem hjl)
                  have lx := H2.out _ (List.getElem_mem hlt)
                  have ly := H2.out _ (List.getElem_mem hjl)
                  have kx := HOK.out _ (List.getElem_mem hlt)
                  have ky := HOK.out _ (List.getElem_mem hjl)
                  obtain ⟨g, hg⟩ : ∃ g, pairJ ls i j = g := ⟨_, rfl⟩
                  rw [hg] at HPS
                  have hg2 : agreeJ (flatJ [ls[i].2.2, ls[j].2.2]) = g := by
                    rw [← hg]
                    unfold pairJ
                    rw [List.getD_eq_getElem?_getD, List.getElem?_eq_getElem hlt, List.getD_eq_getElem?_getD, List.getElem?_eq_getElem hjl]
                    rfl
                  have HG := Lib.hid hg2
                  have HX := Lib.hid hx
                  have HY := Lib.hid hy
                  have KX := Lib.hid kx
                  have KY := Lib.hid ky
                  clear hg hg2 hP hx hy kx ky
                  generalize ls[i] = x at *
                  generalize ls[j] = y at *
                  obtain ⟨x1, xc, xl⟩ := x
                  obtain ⟨y1, yc, yl⟩ := y
                  simp only at cx cy lx ly
                  go_wp2_with fail
                  go_region_held3 (fun w' => w'.cell? ⟨b, off + i, none⟩ = some (.slice x1 xl.length xc) ∧ w'.cell? ⟨b, off + j, none⟩ = some (.slice y1 yl.length yc))
                    (first
                      | exact ⟨cx, cy⟩
                      | (go_split_ands; refine ⟨?_, ?_⟩ <;> exact keepJ hbq (by assumption))
                      | go_keep)
                    ((first
                      | (go_at_call 16; refine (row_any _ _).mono ?_; rintro e w' ⟨rfl, rfl⟩)
                      | (go_at_call 13; refine (agreePd (x := (x1, xc, xl)) (y := (y1, yc, yl)) HX.out HY.out lx ly KX.out KY.out HG.out).mono ?_; rintro e wq ⟨rfl, hbq⟩)))
                  all_goals go_wp2
                  all_goals go_roundw
                  case rel => exact ⟨j + 1, by omega, by go_num, by rw [HPS.out]; rfl, hbr2.trans (hbq.mono hbr2.size)⟩
                  case measure => simp [Go.RowKit.intOf]; omega
              · obtain rfl : j = i + 1 := by omega
                go_wp2
                go_roundw
                case rel => exact ⟨i + 1, by omega, by go_num, by rw [HPN.out], hbr2⟩
                case measure => simp [Go.RowKit.intOf]; omega
          · obtain rfl : i = ls.length := by omega
            rw [prA_all]
            obtain ⟨g, hg⟩ : ∃ g, agreeJ (flatJ (lstA ls)) = g := ⟨_, rfl⟩
            rw [hg]
            have HG := Lib.hid hg
            clear hg
            have hlm : ls.length ≤ 12 := by omega
            clear hw2
            have h0 : ¬ ls.length = 0 := by have := H0.out; omega
            obtain ⟨r, hr, hre⟩ := rot_at fr H0.out (by omega)
            generalize wr = wp at *
            have HR := Lib.hid hr
            have HRE := Lib.hid hre
            clear hr hre
            go_wp2
            rw [HRE.out]
            go_loopw [8, 9] (fun t i wr2 => ∃ (k : Nat) (v : Value), t = v ∧ k ≤ ls.length ∧ i = .int .i64 k ∧ wr2.ownsRow wp.heap.size 29 1 v k ((turnP ls r k).map partA) ∧ Below wp.heap.size wp wr2) (fun _ i _ => ls.length - (Go.RowKit.intOf i).toNat)
            case atStart => exact ⟨0, _, rfl, by omega, rfl, World.ownsRow_nil _ _ _ _, Below.refl _ _⟩
            case round =>
              obtain ⟨k, v, rfl, hk, rfl, hown, hbr2⟩ := hrel
              by_cases hlt : k < ls.length
              · have hmod := tmod_nat ls.length (show r ≤ 1000000 by have := HR.out; omega) (show k ≤ 1000000 by omega)
                have hml := Nat.mod_lt (r + k) (show ls.length > 0 by omega)
                have HTS := Lib.hid (turn_succ (ls := ls) r k hml)
                obtain ⟨b, off, rfl, cx⟩ := ((HS.out.below hbr).below hbr2).at hml
                generalize (r + k) % ls.length = q at *
                generalize ls[q] = x at *
                obtain ⟨x1, xc, xl⟩ := x
                simp only at cx
                have hbs := hbr2.size
                have hbn := fun j hj => (hown.lt j hj).1
                go_wp2_with (at_builtin; refine wpList_append1 rfl _ _ 26 29 elSlA rfl wp.heap.size _ k _ rfl hown #[.slice x1 xl.length xc] rfl (by simp; rfl) 29 rfl (by omega) (by omega) hbs ?_; intro v' w' hown' hb' _)
                go_roundw
                case rel => exact ⟨k + 1, _, rfl, by omega, by go_num, by rw [HTS.out, List.map_append]; exact hown', hbr2.trans hb'⟩
                case measure => simp [Go.RowKit.intOf]; omega
              · obtain rfl : k = ls.length := by omega
                have hbw := hbr.trans (hbr2.mono hbr.size)
                obtain ⟨at_, ct, rfl, hRt, _⟩ := Row.of_owns hown
                have hPt : PartsA wr at_ (turnP ls r ls.length) := ⟨hRt, fun y hy => (HS.out.each y (turn_mem H0.out hy)).below hbw⟩
                have hT2 := turn_told2 (n := r) H0.out HR.out
                have hTl := turn_len (ls := ls) r ls.length
                have hTm := fun y (hy : y ∈ turnP ls r ls.length) => turn_mem H0.out hy
                obtain ⟨f0, hf0⟩ : ∃ f0, firstOdd (flatJ (lstA ls)) = f0 := ⟨_, rfl⟩
                have hz : g = true → f0 = 0 := fun h => by rw [← hf0]; exact agree_first (HG.out.trans h)
                have CA := fun w' (h : Below w.heap.size w w') => agreeG (HS.out.below h) cap (show ls.length ≤ 1000000 by omega) H2.out HOK.out HG.out
                have CF := fun w' (h : Below w.heap.size w w') => firstG (HS.out.below h) cap (show ls.length ≤ 1000000 by omega) H2.out HOK.out hf0
                have CTA := fun w' (h : Below wr.heap.size wr w') => agreeG (hPt.below h) ct (by rw [hTl]; omega) (fun y hy => H2.out y (hTm y hy)) (fun y hy => HOK.out y (hTm y hy)) (hT2.1.trans HG.out)
                have CTF := fun w' (h : Below wr.heap.size wr w') => firstG (hPt.below h) ct (by rw [hTl]; omega) (fun y hy => H2.out y (hTm y hy)) (fun y hy => HOK.out y (hTm y hy)) (hT2.2.trans hf0)
                rw [hTl] at CTA CTF
                clear hT2 hTl hTm hf0 hPt hRt hown
                go_wp2_with fail
                go_at_call 13
                refine (CA wr hbw).mono ?_
                rintro e wA ⟨rfl, hA⟩
                have hgg : (g == g) = true := by simp
                go_wp2_with fail
                go_at_call 13
                refine (CTA wA hA).mono ?_
                rintro e wB ⟨rfl, hB⟩
                have hB2 := hA.trans (hB.mono hA.size)
                go_wp2_with fail
                go_at_call 14
                refine (CTF wB hB2).mono ?_
                rintro e wC ⟨rfl, hC⟩
                have hC2 := hB2.trans (hC.mono hB2.size)
                have hwC := hbw.trans (hC2.mono hbw.size)
                go_wp2_with fail
                go_at_call 14
                refine (CF wC hwC).mono ?_
                rintro e wD ⟨rfl, hD⟩
                have hwD := hwC.trans (hD.mono hwC.size)
                cases g
                case false =>
                  go_wp2
                  go_ret
                  exact ⟨rfl, hwD⟩
                case true =>
                  obtain rfl := hz rfl
                  go_wp2_with fail
                  go_at_call 14
                  refine (CF wD hwD).mono ?_
                  rintro e wE ⟨rfl, hE⟩
                  go_wp2
                  go_ret
                  exact ⟨rfl, hwD.trans (hE.mono hwD.size)⟩
end Go.Proofs.Ytkkoookmnnmiiaa

