/- Texts that the claim leans on, part 6: J24, J14, J10, J20, J12, J13, J21, J25. -/
import Derived.Test.YtkkoookmnnmiiaaZ1
import Derived.Test.YtkkoookmnnmiiaaZ2
import Derived.Test.YtkkoookmnnmiiaaZ3
import Derived.Test.YtkkoookmnnmiiaaZ4
import Derived.Test.YtkkoookmnnmiiaaZ5
import Derived.Test.YtkkoookmnnmiiaaRows
import Derived.WalkKit
import Derived.WalkSpells
import Derived.WalkLawsBesides
import Derived.Handy
import Derived.Deep.QuietTactic
import Derived.BigQuiet
import Derived.Deep.DeepCutAuto
import Derived.Lib.Hide
import Derived.RegionTactic
import Derived.ChangeAlike
import Derived.Laws.ResultCell
import Derived.Outline
import Derived.LoopN
import Derived.Shelf.Abstract
import Derived.Shelf.RegionOpen
import Derived.OwnWalkIn
import Derived.TacticsInMore
import Derived.LoopNIn
import Derived.LoopIn
import Derived.Maps.AppendAt
import Derived.Maps.OwnIn
import Derived.Maps.Keyed
import Derived.Maps.Views
import Derived.Shelf.SlIterI.Nil
import Derived.Shelf.SortM.Plain
import Derived.Shelf.SortM.SortNone
import Derived.RangeFuncNested
import Derived.RangeFuncBound
import Derived.RangeFuncCalls
import Derived.RangeFuncLeaves
import Derived.RangeFuncBox
import Derived.RangeFuncRecord
import Derived.Maps.OwnSet
import Derived.Lib.SlKeysI
import Derived.Laws.Rows
import Derived.Deep.Quiet
import Derived.Deep.RegionHeld3
import Derived.ProofKit
import Derived.OpenShut
import Derived.Laws.Strings
import Derived.Laws.CopyOwn
import Derived.Laws.CopyRow
import Derived.Laws.NewBlocks
import Derived.Deep.RegionLaw
namespace Go.Proofs.Ytkkoookmnnmiiaa
open Go.RowKit

def isF (f : List Ap) (x : Ap) : Bool := (firstJ f x.idx).isSome
/-- How many of the first ones were there before. -/
def cntM (f b : List Ap) (i : Nat) : Nat := ((b.take i).filter (isF f)).length
section
variable {f m : List Ap}
theorem cnt_zero (f b : List Ap) : cntM f b 0 = 0 := by simp [cntM]
theorem cnt_all (f g : List Ap) : cntM f (chosenJ (f ++ g)) (chosenJ (f ++ g)).length = (chosenJ f).length := by
  unfold cntM
  rw [List.take_length]
  exact congrArg List.length (chosen_more f g).symm
theorem cnt_le (f g : List Ap) (i : Nat) : cntM f (chosenJ (f ++ g)) i ≤ (chosenJ f).length := by
  have h1 := chosen_more f g
  have h2 := filter_le (isF f) (chosenJ (f ++ g)) i
  unfold cntM
  rw [h1]
  exact h2
theorem cnt_yes {g : List Ap} {i : Nat} (hi : i < (chosenJ (f ++ g)).length) (h : isF f (chosenJ (f ++ g))[i] = true) : ∃ hc : cntM f (chosenJ (f ++ g)) i < (chosenJ f).length, (chosenJ f)[cntM f (chosenJ (f ++ g)) i] = (chosenJ (f ++ g))[i] ∧ cntM f (chosenJ (f ++ g)) (i + 1) = cntM f (chosenJ (f ++ g)) i + 1 := by
  have h1 := filter_at (isF f) (chosenJ (f ++ g)) i hi h
  have h2 : (chosenJ f)[cntM f (chosenJ (f ++ g)) i]? = some (chosenJ (f ++ g))[i] := by
    rw [chosen_more f g]
    exact h1
  obtain ⟨hc, he⟩ := List.getElem?_eq_some_iff.1 h2
  refine ⟨hc, he, ?_⟩
  have h3 := filter_succ (isF f) (chosenJ (f ++ g)) i hi
  rw [if_pos h] at h3
  exact h3
theorem cnt_no {g : List Ap} {i : Nat} (hi : i < (chosenJ (f ++ g)).length) (h : isF f (chosenJ (f ++ g))[i] = false) : cntM f (chosenJ (f ++ g)) (i + 1) = cntM f (chosenJ (f ++ g)) i := by
  have h3 := filter_succ (isF f) (chosenJ (f ++ g)) i hi
  rw [if_neg (by rw [h]; decide)] at h3
  exact h3
theorem old_ne {g : List Ap} {i c : Nat} (hi : i < (chosenJ (f ++ g)).length) (hc : c < (chosenJ f).length) (h : isF f (chosenJ (f ++ g))[i] = false) : eqA (chosenJ f)[c] (chosenJ (f ++ g))[i] = false := by
  cases he : eqA (chosenJ f)[c] (chosenJ (f ++ g))[i] with
  | false => rfl
  | true =>
    have e := eqA_iff.1 he
    have h1 := chosen_mem (List.getElem_mem hc)
    rw [e] at h1
    unfold isF at h
    rw [h1] at h
    cases h
theorem new_in {i : Nat} (hi : i < (chosenJ (f ++ m.filter (fun x => !noneE x.e))).length) (h : isF f (chosenJ (f ++ m.filter (fun x => !noneE x.e)))[i] = false) (y : Ap) (hy : (chosenJ (f ++ m.filter (fun x => !noneE x.e)))[i]'hi = y) : m.any (fun z => eqA z y) = true := by
  refine List.any_eq_true.2 ⟨y, ?_, eqA_iff.2 rfl⟩
  rw [← hy]
  exact more_new (List.getElem_mem hi) h
theorem any_snoc {p : Ap → Bool} {k : Nat} (hk : k < m.length) : (m.take (k + 1)).any p = ((m.take k).any p || p m[k]) := by
  rw [List.take_succ_eq_append_getElem hk, List.any_append]
  simp
theorem any_none (p : Ap → Bool) : (m.take 0).any p = false := by simp
theorem lst_snoc (ls : List PartA) (x : PartA) : flatJ (lstA (ls ++ [x])) = flatJ (lstA ls) ++ x.2.2.filter (fun x => !noneE x.e) := by
  unfold lstA
  rw [List.map_append]
  exact flat_snoc _ _
end
/-- What the loop over what was chosen wants. -/
structure MoreS (m A B : List Ap) (c : Nat → Nat) (p : Ap → Bool) : Prop where
  zero : c 0 = 0
  all : c B.length = A.length
  le : ∀ i, c i ≤ A.length
  yes : ∀ i (hi : i < B.length), p B[i] = true → ∃ hc : c i < A.length, A[c i] = B[i] ∧ c (i + 1) = c i + 1
  no : ∀ i (hi : i < B.length), p B[i] = false → c (i + 1) = c i
  old : ∀ i (hi : i < B.length) k (hk : k < A.length), p B[i] = false → eqA A[k] B[i] = false
  new : ∀ i (hi : i < B.length), p B[i] = false → ∀ y, B[i]'hi = y → m.any (fun z => eqA z y) = true
theorem more_s (f m : List Ap) : MoreS m (chosenJ f) (chosenJ (f ++ m.filter (fun x => !noneE x.e))) (cntM f (chosenJ (f ++ m.filter (fun x => !noneE x.e)))) (isF f) :=
  ⟨cnt_zero _ _, cnt_all _ _, cnt_le _ _, fun _ hi h => cnt_yes hi h, fun _ hi h => cnt_no hi h, fun _ hi _ hk h => old_ne hi hk h, fun _ hi h y hy => new_in hi h y hy⟩

section
variable {P : Program}
/-- 'append(s, x...)' onto a row of one's own: x of whatever length the reach allows. -/
theorem wpList_append_rowW {w : World} {ops : Array Oper} {rest : List Oper} {o : Oper} {a : Act} {Q : Exit → Act → World → Prop} (hgd : o.guard = none) (s x : Operand) (t e : TypeId) {size bytes : Nat} (hT : ElemT P t e size bytes)
    (ho : o.op = .call { callee := .builtin .append, args := #[s, x], argTypes := #[t, t] })
    (base : Nat) (v : Value) (n : Nat) (xs : List Value) (hs : a.eval s = v) (hown : w.ownsRow base e size v n xs)
    (ad : Option Addr) (m c : Nat) (news : List Value) (hx : a.eval x = .slice ad m c) (hl : news.length = m * size) (hrow : Row w ad news) (h1 : ∀ u ∈ news, u.oneCell' = true)
    (hn : n + m ≤ maxLen) (hby : (n + m) * bytes ≤ 140737488355328) (hbase : base ≤ w.heap.size) (hbn : ∀ k, v.ownBlock = some k → base ≤ k)
    (h : ∀ v' w', w'.ownsRow base e size v' (n + m) (xs ++ news) → Below base w w' → wpList P ops Q rest (a.put o.dst v') w') : wpList P ops Q (o :: rest) a w := by
  by_cases hm : m = 0
  · subst hm
    have hnil : news = [] := List.eq_nil_of_length_eq_zero (by simpa using hl)
    subst hnil
    obtain ⟨ba, cap, hv, _, hnc, _⟩ := Row.of_owns hown
    subst hv
    refine wpList_run hgd (exec_append s x t t ho _ _ hs hx (run_append_nothing (P := P) w t o.type e hT ba n cap hnc ad c)) (h _ _ ?_ (Below.refl _ _))
    simpa using hown
  · obtain ⟨i, z, ht, hi, hz, hsize, hbytes, hzs, hsz⟩ := hT.ex
    have hpos : 0 < news.length := by rw [hl]; exact Nat.mul_pos (by omega) hsz
    obtain ⟨b, off, rfl, hc⟩ := hrow.at hpos
    refine wpList_append_own _ hgd s x t ho base e i z size bytes ht hi hz hsize hbytes hzs hsz v n xs hs hown ⟨b, off, none⟩ m c news hx hl (fun j u hj => ?_) h1 hn hby hbase fun v' w' h2 h3 _ => h v' w' h2 ((Below.refl _ _).grown h3 hbase hbn)
    rw [addr_add]
    exact hc j u hj
end
theorem elSlA : ElemT Try.prog 26 29 1 24 := ElemT.of (.slice none 0 0) Try.underlying26 (by kernel_rfl) rfl (by decide)
theorem parts_one {ls : List PartA} : ∀ u ∈ ls.map partA, u.oneCell' = true := by
  intro u hu
  obtain ⟨x, _, rfl⟩ := List.mem_map.1 hu
  rfl
theorem parts_snoc {w : World} {a : Option Addr} {ls : List PartA} {x : PartA} (hr : Row w a (ls.map partA ++ [partA x])) (h : ∀ y ∈ ls, SlA w y.1 y.2.1 y.2.2) (hx : SlA w x.1 x.2.1 x.2.2) : PartsA w a (ls ++ [x]) := by
  refine ⟨by rw [List.map_append]; exact hr, fun y hy => ?_⟩
  rcases List.mem_append.1 hy with hy | hy
  · exact h y hy
  · rw [List.mem_singleton] at hy
    rw [hy]
    exact hx
theorem agreeG {a : Option Addr} {ls : List PartA} {w : World} (h : PartsA w a ls) (cap : Nat) (hlen : ls.length ≤ 1000000) (hlen2 : ∀ x ∈ ls, x.2.2.length ≤ 1000000) (hok : ∀ x ∈ ls, ∀ y ∈ x.2.2, okI y) {g : Bool} (hg : agreeJ (flatJ (lstA ls)) = g) : Calls Try.prog 13 #[.slice a ls.length cap] w fun e w' => e = .returned (.bool g) ∧ Below w.heap.size w w' := by
  subst hg
  exact agree_any h cap hlen hlen2 hok
theorem chosen_bound {ls : List PartA} (hlen : ls.length ≤ 1000000) (hlen2 : ∀ x ∈ ls, x.2.2.length ≤ 1000000) : (chosenJ (flatJ (lstA ls))).length ≤ 1000000000000 := by
  have hfb : (flatJ (lstA ls)).length ≤ 1000000 * 1000000 := by
    refine Nat.le_trans (flat_len_le _) (Nat.le_trans (flat_le (L := lstA ls) (b := 1000000) fun x hx => ?_) (Nat.mul_le_mul_right _ (by unfold lstA; rw [List.length_map]; exact hlen)))
    obtain ⟨y, hy, rfl⟩ := List.mem_map.1 hx
    exact hlen2 _ hy
  rw [chosen_len]
  exact Nat.le_trans (keys_len _) hfb
theorem chosenG {a : Option Addr} {ls : List PartA} {w : World} (h : PartsA w a ls) (cap : Nat) (hlen : ls.length ≤ 1000000) (hlen2 : ∀ x ∈ ls, x.2.2.length ≤ 1000000) (hok : ∀ x ∈ ls, ∀ y ∈ x.2.2, okI y) {r : List Ap} (hr : chosenJ (flatJ (lstA ls)) = r) : Calls Try.prog 12 #[.slice a ls.length cap] w fun e w' => (∃ a' c', e = .returned (.slice a' r.length c') ∧ Row w' a' (aps r)) ∧ Below w.heap.size w w' := by
  subst hr
  refine (chosen_any h cap hlen hlen2 hok).mono ?_
  rintro e w' ⟨v, rfl, hrow, hb⟩
  obtain ⟨a', c', rfl, hR, _⟩ := Row.of_owns hrow
  exact ⟨⟨a', c', rfl, hR⟩, hb⟩
end Go.Proofs.Ytkkoookmnnmiiaa

namespace Go.Proofs.Ytkkoookmnnmiiaa
open Go.RowKit

def GreatR (ls : List PartA) (e : Ending) : Prop := ∃ r, e = .returned (.bool r) ∧ (r = false → ls.length ≤ 200 ∧ ∀ j (hj : j < ls.length), ls[j].2.2.length ≤ 200)
set_option maxRecDepth 100000 in
set_option maxHeartbeats 2000000 in
theorem greatJ_any {a : Option Addr} {ls : List PartA} {w : World} (h : PartsA w a ls) (cap : Nat) (hlen : ls.length ≤ 9223372036854775807) (hlen2 : ∀ x ∈ ls, x.2.2.length ≤ 9223372036854775807) : Calls Try.prog 15 #[.slice a ls.length cap] w fun e w' => GreatR ls e ∧ Below w.heap.size w w' := by
  go_enter Try.func15, Try.ntmps15
  go_wp2
  go_loopw [3, 4] (fun n i wr => ∃ k s : Nat, k ≤ ls.length ∧ i = .int .i64 k ∧ n = .int .i64 ((ls.length + s : Nat) : Int) ∧ ls.length + s ≤ 9223372036854775807 ∧ Hid (ls.length + s ≤ 200 → ∀ j (hj : j < ls.length), j < k → ls[j].2.2.length ≤ s) ∧ Below w.heap.size w wr) (fun _ i _ => ls.length - (Go.RowKit.intOf i).toNat)
  case atStart => exact ⟨0, 0, by omega, rfl, by simp, by omega, Lib.hid (fun _ j hj h => absurd h (by omega)), Below.refl _ _⟩
  case round =>
    obtain ⟨k, s, hk, rfl, rfl, hs, hT, hbr⟩ := hrel
    by_cases hlt : k < ls.length
    · by_cases hn : ls.length + s ≤ 200
      · obtain ⟨rb, ro, rfl, hcs⟩ := (h.below hbr).row.at (k := k) (by rw [List.length_map]; exact hlt)
        have hxs := h.each _ (List.getElem_mem hlt)
        have hx1 := hlen2 _ (List.getElem_mem hlt)
        have hst : ∀ s2 : Nat, s ≤ s2 → ls[k].2.2.length ≤ s2 → ∀ j (hj : j < ls.length), j < k + 1 → ls[j].2.2.length ≤ s2 := fun s2 h1 h2 j hj h3 => by
          rcases Nat.lt_succ_iff_lt_or_eq.1 h3 with h4 | rfl
          · exact Nat.le_trans (hT.out hn j hj h4) h1
          · exact h2
        have hcw : ∀ W, Below w.heap.size w W → W.cell? ⟨rb, ro + k, none⟩ = some (.slice ls[k].1 ls[k].2.2.length ls[k].2.1) := fun W hW => by
          obtain ⟨rb2, ro2, e, hcs2⟩ := (h.below hW).row.at (k := k) (by rw [List.length_map]; exact hlt)
          injection e with e
          injection e with e1 e2
          rw [e1, e2]
          exact hcs2 k (partA ls[k]) (by rw [List.getElem?_map, List.getElem?_eq_getElem hlt]; rfl)
        have HST := Lib.hid hst
        have HI1 := Lib.hid (show k + 1 ≤ ls.length by omega)
        clear hst hcs
        generalize ls[k] = x at *
        obtain ⟨xa, xc, xl⟩ := x
        simp only at hxs hx1 hcw HST
        go_wp2
        go_loopw [3, 5] (fun n j wr2 => ∃ j0 : Nat, j0 ≤ xl.length ∧ j = .int .i64 j0 ∧ n = .int .i64 ((ls.length + (s + j0) : Nat) : Int) ∧ ls.length + (s + j0) ≤ 201 ∧ Below w.heap.size w wr2) (fun _ j _ => xl.length - (Go.RowKit.intOf j).toNat)
        case atStart => exact ⟨0, by omega, rfl, by simp, by omega, hbr⟩
        case round =>
          clear hT hbr
          obtain ⟨j, hj, rfl, rfl, hs2, hbr⟩ := hrel
          have hck := hcw _ hbr
          by_cases hlt2 : j < xl.length
          · by_cases hn2 : ls.length + (s + j) ≤ 200
            · obtain ⟨b2, o2, rfl, hb2, c0, c1, c2, c3, c4, c5, c6, c7⟩ := ap_cells (hxs.below hbr).row hlt2
              have HI2 := Lib.hid (show j + 1 ≤ xl.length by omega)
              generalize xl[j] = y at *
              obtain ⟨yi, ⟨kd, cl, sq, ⟨ok, key, old, val⟩⟩⟩ := y
              simp only at c0 c1 c2 c3 c4 c5 c6 c7
              have hbO : Below w.heap.size w (wr.alloc (Obj.cells #[.int .u8 ok, .string key, .string old, .string val] 32)) := hbr.alloc (by have := hbr.size; omega) _
              by_cases g1 : (50 : Int) < (key.size : Int)
              · go_wp2
                go_ret
                exact ⟨⟨true, rfl, fun h => (by cases h)⟩, hbO⟩
              · by_cases g2 : (50 : Int) < (old.size : Int)
                · go_wp2
                  go_ret
                  exact ⟨⟨true, rfl, fun h => (by cases h)⟩, hbO⟩
                · by_cases g3 : (50 : Int) < (val.size : Int)
                  · go_wp2
                    go_ret
                    exact ⟨⟨true, rfl, fun h => (by cases h)⟩, hbO⟩
                  · go_wp2
                    go_roundw
                    case rel => exact ⟨j + 1, HI2.out, by go_num, by go_num, by omega, hbO⟩
                    case measure => have := HI2.out; simp [Go.RowKit.intOf]; omega
            · go_wp2
              go_roundw
              case rel => exact ⟨k + 1, s + j, HI1.out, by go_num, by go_num, by omega, Lib.hid (fun h => absurd h hn2), hbr⟩
              case measure => have := HI1.out; simp [Go.RowKit.intOf]; omega
          · obtain rfl : j = xl.length := by omega
            go_wp2
            go_roundw
            case rel => exact ⟨k + 1, s + xl.length, HI1.out, by go_num, by go_num, by omega, Lib.hid (fun h => HST.out _ (by omega) (by omega)), hbr⟩
            case measure => have := HI1.out; simp [Go.RowKit.intOf]; omega
      · go_wp2
        go_ret
        exact ⟨⟨true, ret_bool (by simp <;> omega), fun h => (by cases h)⟩, hbr⟩
    · obtain rfl : k = ls.length := by omega
      by_cases hn : ls.length + s ≤ 200
      · go_wp2
        go_ret
        exact ⟨⟨false, ret_bool (by simp <;> omega), fun _ => ⟨by omega, fun j hj => Nat.le_trans (hT.out hn j hj hj) (by omega)⟩⟩, hbr⟩
      · go_wp2
        go_ret
        exact ⟨⟨true, ret_bool (by simp <;> omega), fun h => (by cases h)⟩, hbr⟩
end Go.Proofs.Ytkkoookmnnmiiaa

namespace Go.Proofs.Ytkkoookmnnmiiaa
open Go.RowKit

def kJ : Tx := ⟨#[107]⟩
def noteJ (i s : Int) : Ap := ⟨i, if 0 < s then ⟨2, 0, s, ⟨3, kJ, ⟨#[]⟩, ⟨#[]⟩⟩⟩ else zeroE⟩
set_option maxRecDepth 100000 in
theorem row_any (v : Value) (w : World) : Calls Try.prog 16 #[v] w fun e w' => e = .returned v ∧ w' = w := by
  go_enter Try.func16, Try.ntmps16
  go_wp2
  go_ret
  exact ⟨rfl, rfl⟩
set_option maxRecDepth 100000 in
theorem noteJ_any (i s : Int) (w : World) : Calls Try.prog 27 #[.int .i64 i, .int .i64 s] w fun e w' => e = .returned (.agg (apA (noteJ i s))) ∧ Below w.heap.size w w' := by
  by_cases hs : 0 < s
  · have hn : noteJ i s = ⟨i, ⟨2, 0, s, ⟨3, kJ, ⟨#[]⟩, ⟨#[]⟩⟩⟩⟩ := by unfold noteJ; rw [if_pos hs]
    rw [hn]
    go_enter Try.func27, Try.ntmps27
    go_wp2
    refine bodyPost_ret (results_c1 rfl rfl (run_loadVar_all Try.isAgg36 Try.sizeOf36 (tr_al _ (heap_alloc_new w (Obj.cells #[.int .i64 i, .int .u8 2, .int .i64 0, .int .i64 s, .int .u8 3, .string ⟨#[107]⟩, .string ⟨#[]⟩, .string ⟨#[]⟩] 36))) rfl)) rfl ⟨rfl, by (repeat' (first | (with_reducible exact Below.refl _ _) | (with_reducible assumption) | (with_reducible refine Below.alloc ?_ ?_ _) | (with_reducible refine Below.drew ?_) | (with_reducible refine below_drewN ?_ _) | (with_reducible refine Below.setCell ?_ ?_ _) | (with_reducible refine Below.trans ?_ (by assumption)) | go_size))⟩
  · have hn : noteJ i s = ⟨i, zeroE⟩ := by unfold noteJ; rw [if_neg hs]
    rw [hn]
    go_enter Try.func27, Try.ntmps27
    go_wp2
    refine bodyPost_ret (results_c1 rfl rfl (run_loadVar_all Try.isAgg36 Try.sizeOf36 (tr_al _ (heap_alloc_new w (Obj.cells #[.int .i64 i, .int .u8 0, .int .i64 0, .int .i64 0, .int .u8 0, .string ⟨#[]⟩, .string ⟨#[]⟩, .string ⟨#[]⟩] 36))) rfl)) rfl ⟨rfl, by (repeat' (first | (with_reducible exact Below.refl _ _) | (with_reducible assumption) | (with_reducible refine Below.alloc ?_ ?_ _) | (with_reducible refine Below.drew ?_) | (with_reducible refine below_drewN ?_ _) | (with_reducible refine Below.setCell ?_ ?_ _) | (with_reducible refine Below.trans ?_ (by assumption)) | go_size))⟩
end Go.Proofs.Ytkkoookmnnmiiaa

namespace Go.Proofs.Ytkkoookmnnmiiaa
open Go.RowKit

def pJ (i s : Int) : Ap := ⟨i, ⟨2, 0, s, ⟨3, kJ, ⟨#[]⟩, ⟨#[]⟩⟩⟩⟩
def oJ (i : Int) : Ap := ⟨i, zeroE⟩
theorem row_block {w : World} {b : Nat} {cs : Array Value} {T : TypeId} {xs : List Value} (h : w.heap[b]? = some (.cells cs T (0, 0))) (hx : xs = cs.toList) : Row w (some ⟨b, 0, none⟩) xs :=
  .inr ⟨b, 0, rfl, fun i u hu => by rw [Nat.zero_add]; exact blk_cell h i u (by rw [hx] at hu; simpa using hu)⟩
theorem parts2 {w : World} {q b1 b2 : Nat} {T : TypeId} {l1 l2 : List Ap} (hq : w.heap[q]? = some (.cells #[.slice (some ⟨b1, 0, none⟩) l1.length l1.length, .slice (some ⟨b2, 0, none⟩) l2.length l2.length] T (0, 0)))
    (h1 : Row w (some ⟨b1, 0, none⟩) (aps l1)) (h2 : Row w (some ⟨b2, 0, none⟩) (aps l2)) (m1 : l1.length ≤ 1000) (m2 : l2.length ≤ 1000) : PartsA w (some ⟨q, 0, none⟩) [(some ⟨b1, 0, none⟩, l1.length, l1), (some ⟨b2, 0, none⟩, l2.length, l2)] := by
  refine ⟨row_block hq rfl, fun x hx => ?_⟩
  simp only [List.mem_cons, List.not_mem_nil, or_false] at hx
  rcases hx with rfl | rfl
  · exact ⟨h1, Nat.le_refl _, by simp only; unfold maxLen; omega, fun h => by cases h⟩
  · exact ⟨h2, Nat.le_refl _, by simp only; unfold maxLen; omega, fun h => by cases h⟩
def f2J : List Ap := flatJ [[pJ 1 7, pJ 2 8], [pJ 2 8, pJ 3 7]]
def f3J : List Ap := flatJ [[pJ 1 7, pJ 2 8], [pJ 2 7]]
def f4J : List Ap := flatJ [[oJ 8, pJ 9 7], [pJ 8 8]]
theorem say2 : agreeJ f2J = true ∧ firstOdd f2J = 0 := by decide +kernel
theorem say3 : agreeJ f3J = false ∧ firstOdd f3J = 2 := by decide +kernel
theorem say4 : agreeJ f4J = true ∧ firstOdd f4J = 0 := by decide +kernel
theorem ch2 : chosenJ f2J = [pJ 1 7, pJ 2 8, pJ 3 7] := by rfl
theorem ch3 : chosenJ f3J = [pJ 1 7, pJ 2 8] := by rfl
theorem f4_is : f4J = [pJ 9 7, pJ 8 8] := by
  have h1 : noneE (oJ 8).e = true := by decide +kernel
  have h2 : noneE (pJ 9 7).e = false := by decide +kernel
  have h3 : noneE (pJ 8 8).e = false := by decide +kernel
  unfold f4J flatJ
  simp [h1, h2, h3]
theorem ch4 : chosenJ f4J = [pJ 8 8, pJ 9 7] := by
  rw [f4_is]
  rfl
theorem right1 : rightJ [pJ 1 7, pJ 2 8] = true ∧ rightJ [pJ 1 7, pJ 3 8] = false ∧ rightJ [pJ 1 7, oJ 8, pJ 9 8] = true ∧ rightJ [pJ 1 7, oJ 1] = false := by decide +kernel
end Go.Proofs.Ytkkoookmnnmiiaa

namespace Go.Proofs.Ytkkoookmnnmiiaa
open Go.RowKit

theorem right_at {l : List Ap} : rightJ l = true ↔ ∀ k (hk : k < l.length), okR l k l[k] = true := by
  unfold rightJ
  rw [List.all_eq_true]
  constructor
  · intro h k hk
    have := h k (List.mem_range.2 hk)
    rwa [List.getD_eq_getElem?_getD, List.getElem?_eq_getElem hk] at this
  · intro h k hk
    have hk := List.mem_range.1 hk
    rw [List.getD_eq_getElem?_getD, List.getElem?_eq_getElem hk]
    exact h k hk
theorem right_no {l : List Ap} {k : Nat} (hk : k < l.length) (h : okR l k l[k] = false) : rightJ l = false := by
  cases e : rightJ l with
  | false => rfl
  | true =>
    rw [right_at.1 e k hk] at h
    cases h
/-- What the first look says of an entry. -/
def okF (x : Ap) : Bool := decide (1 ≤ x.idx) && (decide (x.idx ≤ big40) && (noneE x.e || mayE x.e))
theorem okR_zero (l : List Ap) (x : Ap) : okR l 0 x = okF x := by
  unfold okR okF
  simp
theorem okR_succ {l : List Ap} {j : Nat} (hj : j < l.length) (x : Ap) : okR l (j + 1) x = (okF x && (decide (l[j].idx < x.idx) && (noneE x.e || decide (x.idx ≤ l[j].idx + 1)))) := by
  unfold okR okF
  rw [Nat.add_sub_cancel, List.getD_eq_getElem?_getD, List.getElem?_eq_getElem hj]
  simp
theorem okF_le {x : Ap} (h : okF x = true) : 1 ≤ x.idx ∧ x.idx ≤ 1099511627776 := by
  unfold okF at h
  simp only [Bool.and_eq_true, decide_eq_true_eq] at h
  exact ⟨h.1, h.2.1⟩
theorem okR_F {l : List Ap} {k : Nat} {x : Ap} (h : okR l k x = true) : okF x = true := by
  unfold okR at h
  rw [Bool.and_eq_true] at h
  exact h.1
end Go.Proofs.Ytkkoookmnnmiiaa

namespace Go.Proofs.Ytkkoookmnnmiiaa
open Go.RowKit

set_option maxRecDepth 100000 in
set_option maxHeartbeats 2000000 in
theorem right_any {a : Option Addr} {l : List Ap} {c : Nat} {w : World} (ha : Row w a (aps l)) (hl : l.length ≤ 1000000000000) : Calls Try.prog 11 #[.slice a l.length c] w fun e w' => e = .returned (.bool (rightJ l)) ∧ Below w.heap.size w w' := by
  have HNO := Lib.hid (fun (k : Nat) (hk : k < l.length) => right_no (l := l) hk)
  have HYES := Lib.hid (right_at (l := l))
  go_enter Try.func11, Try.ntmps11
  go_wp2
  go_loopw [8] (fun i wr => ∃ k : Nat, k ≤ l.length ∧ i = .int .i64 k ∧ Hid (∀ j (hj : j < l.length), j < k → okR l j l[j] = true) ∧ Below w.heap.size w wr) (fun i _ => l.length - (Go.RowKit.intOf i).toNat)
  case atStart => exact ⟨0, by omega, rfl, Lib.hid (fun j hj h => absurd h (by omega)), Below.refl _ _⟩
  case round =>
    obtain ⟨k, hk, rfl, hT, hbr⟩ := hrel
    by_cases hlt : k < l.length
    · obtain ⟨b, off, rfl, hb1, c0, c1, c2, c3, c4, c5, c6, c7⟩ := ap_cells (ha.below0 hbr) hlt
      have HI1 := Lib.hid (show k + 1 ≤ l.length by omega)
      have HAB := Lib.hid (fun W (h : Below w.heap.size w W) => ha.below0 h)
      have HF := Lib.hid (show okF l[k] = (decide (1 ≤ l[k].idx) && (decide (l[k].idx ≤ big40) && (noneE l[k].e || mayE l[k].e))) from rfl)
      have HNK := Lib.hid (fun h : okR l k l[k] = false => HNO.out k hlt h)
      have HST := Lib.hid (fun (h : okR l k l[k] = true) j (hj : j < l.length) (h2 : j < k + 1) => show okR l j l[j] = true by
        rcases Nat.lt_succ_iff_lt_or_eq.1 h2 with h3 | rfl
        · exact hT.out j hj h3
        · exact h)
      have HNF := Lib.hid (fun h : okF l[k] = false => show okR l k l[k] = false by
        cases e : okR l k l[k] with
        | false => rfl
        | true => rw [okR_F e] at h; cases h)
      have HZ := Lib.hid (fun (h : k = 0) => show okR l k l[k] = okF l[k] by subst h; exact okR_zero l _)
      have HPR := Lib.hid (fun (j : Nat) (h : k = j + 1) => show ∃ (p : Int), 1 ≤ p ∧ p ≤ 1099511627776 ∧ (∀ W, Below w.heap.size w W → W.cell? ⟨b, off + j * 8, none⟩ = some (.int .i64 p)) ∧ okR l k l[k] = (okF l[k] && (decide (p < l[k].idx) && (noneE l[k].e || decide (l[k].idx ≤ p + 1)))) by
        have hj : j < l.length := by omega
        have hp := okF_le (okR_F (hT.out j hj (by omega)))
        refine ⟨l[j].idx, hp.1, hp.2, fun W hW => ?_, by subst h; exact okR_succ hj _⟩
        obtain ⟨b2, o2, e, _, e0, _⟩ := ap_cells (HAB.out W hW) hj
        injection e with e
        injection e with e1 e2
        rw [e1, e2]
        exact e0)
      have hno := fun w => jnone_any l[k].e w
      have hma := fun w => emay_any l[k].e w _ rfl
      obtain ⟨bn, hn⟩ : ∃ bn, noneE l[k].e = bn := ⟨_, rfl⟩
      obtain ⟨bm, hm⟩ : ∃ bm, mayE l[k].e = bm := ⟨_, rfl⟩
      have HN2 := Lib.hid hn
      have HM2 := Lib.hid hm
      have Hbr := Lib.hid hbr
      clear hT hn hm hbr
      generalize l[k] = y at *
      obtain ⟨yi, ⟨kd, cl, sq, ⟨ok, key, old, val⟩⟩⟩ := y
      simp only at c0 c1 c2 c3 c4 c5 c6 c7
      have hno2 : ∀ w, Calls Try.prog 30 #[.agg #[.int .u8 kd, .int .i64 cl, .int .i64 sq, .int .u8 ok, .string key, .string old, .string val]] w fun en w' => en = .returned (.bool bn) ∧ Below w.heap.size w w' := fun w => by
        have := hno w
        rw [HN2.out] at this
        exact this
      have hma2 : ∀ w, Calls Try.prog 29 #[.agg #[.int .u8 kd, .int .i64 cl, .int .i64 sq, .int .u8 ok, .string key, .string old, .string val]] w fun en w' => en = .returned (.bool bm) ∧ Below w.heap.size w w' := fun w => by
        have := hma w
        rw [HM2.out] at this
        exact this
      clear hno hma
      have HB : Hid (Below w.heap.size wr (wr.alloc (Obj.cells #[.int .i64 yi, .int .u8 kd, .int .i64 cl, .int .i64 sq, .int .u8 ok, .string key, .string old, .string val] 36))) := Lib.hid ((blw wr (Obj.cells #[.int .i64 yi, .int .u8 kd, .int .i64 cl, .int .i64 sq, .int .u8 ok, .string key, .string old, .string val] 36)).mono (by have := Hbr.out.size; omega))
      have q0 := heap_alloc_new wr (Obj.cells #[.int .i64 yi, .int .u8 kd, .int .i64 cl, .int .i64 sq, .int .u8 ok, .string key, .string old, .string val] 36)
      have d0 := blk_cell q0 0 _ rfl
      have d1 := blk_cell q0 1 _ rfl
      have d2 := blk_cell q0 2 _ rfl
      have d3 := blk_cell q0 3 _ rfl
      have d4 := blk_cell q0 4 _ rfl
      have d5 := blk_cell q0 5 _ rfl
      have d6 := blk_cell q0 6 _ rfl
      have d7 := blk_cell q0 7 _ rfl
      by_cases h1 : yi < 1
      · go_wp2
        go_ret
        have e1 : decide (1 ≤ yi) = false := by rw [decide_eq_false_iff_not]; omega
        exact ⟨ret_bool (HNK.out (HNF.out (by rw [HF.out]; rw [e1]; simp))).symm, Hbr.out.trans HB.out⟩
      · by_cases h2 : 1099511627776 < yi
        · go_wp2
          go_ret
          have e1 : decide (yi ≤ big40) = false := by rw [decide_eq_false_iff_not]; unfold big40; omega
          exact ⟨ret_bool (HNK.out (HNF.out (by rw [HF.out]; rw [e1]; simp))).symm, Hbr.out.trans HB.out⟩
        · cases bn
          case false =>
            cases bm
            case false =>
              go_wp2_with (first | (go_at_call 30; refine (hno2 _).mono ?_; rintro e w3 ⟨rfl, hb3⟩; have q0 := tr_bl hb3 q0; have d0 := blk_cell q0 0 _ rfl; have d1 := blk_cell q0 1 _ rfl; have d2 := blk_cell q0 2 _ rfl; have d3 := blk_cell q0 3 _ rfl; have d4 := blk_cell q0 4 _ rfl; have d5 := blk_cell q0 5 _ rfl; have d6 := blk_cell q0 6 _ rfl; have d7 := blk_cell q0 7 _ rfl; have hHB := HB.out.trans (hb3.mono (by have := HB.out.size; have := Hbr.out.size; omega)); have HB := Lib.hid hHB; clear hHB hb3) | (go_at_call 29; refine (hma2 _).mono ?_; rintro e w3 ⟨rfl, hb3⟩; have q0 := tr_bl hb3 q0; have d0 := blk_cell q0 0 _ rfl; have d1 := blk_cell q0 1 _ rfl; have d2 := blk_cell q0 2 _ rfl; have d3 := blk_cell q0 3 _ rfl; have d4 := blk_cell q0 4 _ rfl; have d5 := blk_cell q0 5 _ rfl; have d6 := blk_cell q0 6 _ rfl; have d7 := blk_cell q0 7 _ rfl; have hHB := HB.out.trans (hb3.mono (by have := HB.out.size; have := Hbr.out.size; omega)); have HB := Lib.hid hHB; clear hHB hb3))
              go_ret
              exact ⟨ret_bool (HNK.out (HNF.out (by rw [HF.out, HN2.out, HM2.out]; simp))).symm, Hbr.out.trans HB.out⟩
            case true =>
              by_cases hk0 : k = 0
              · subst hk0
                simp only [Nat.zero_mul, Nat.add_zero] at c0 c1 c2 c3 c4 c5 c6 c7
                go_wp2_with (first | (go_at_call 30; refine (hno2 _).mono ?_; rintro e w3 ⟨rfl, hb3⟩; have q0 := tr_bl hb3 q0; have d0 := blk_cell q0 0 _ rfl; have d1 := blk_cell q0 1 _ rfl; have d2 := blk_cell q0 2 _ rfl; have d3 := blk_cell q0 3 _ rfl; have d4 := blk_cell q0 4 _ rfl; have d5 := blk_cell q0 5 _ rfl; have d6 := blk_cell q0 6 _ rfl; have d7 := blk_cell q0 7 _ rfl; have hHB := HB.out.trans (hb3.mono (by have := HB.out.size; have := Hbr.out.size; omega)); have HB := Lib.hid hHB; clear hHB hb3) | (go_at_call 29; refine (hma2 _).mono ?_; rintro e w3 ⟨rfl, hb3⟩; have q0 := tr_bl hb3 q0; have d0 := blk_cell q0 0 _ rfl; have d1 := blk_cell q0 1 _ rfl; have d2 := blk_cell q0 2 _ rfl; have d3 := blk_cell q0 3 _ rfl; have d4 := blk_cell q0 4 _ rfl; have d5 := blk_cell q0 5 _ rfl; have d6 := blk_cell q0 6 _ rfl; have d7 := blk_cell q0 7 _ rfl; have hHB := HB.out.trans (hb3.mono (by have := HB.out.size; have := Hbr.out.size; omega)); have HB := Lib.hid hHB; clear hHB hb3))
                have e1 : decide (1 ≤ yi) = true := by rw [decide_eq_true_eq]; omega
                have e2 : decide (yi ≤ big40) = true := by rw [decide_eq_true_eq]; unfold big40; omega
                go_roundw
                case rel => exact ⟨0 + 1, HI1.out, by go_num, Lib.hid (HST.out (by rw [HZ.out (by trivial), HF.out, HN2.out, HM2.out]; simp [e1, e2])), Hbr.out.trans HB.out⟩
                case measure => have := HI1.out; simp [Go.RowKit.intOf]; omega
              · obtain ⟨j, rfl⟩ : ∃ j, k = j + 1 := ⟨k - 1, by omega⟩
                have hki : (((j + 1 : Nat) : Int) == 0) = false := by rw [beq_eq_false_iff_ne]; omega
                obtain ⟨p, hp1, hp2, hpr, hok⟩ := HPR.out j rfl
                have HOK := Lib.hid hok
                clear hok
                have pc := hpr _ (Hbr.out.trans HB.out)
                by_cases hle : yi ≤ p
                · go_wp2_with (first | (go_at_call 30; refine (hno2 _).mono ?_; rintro e w3 ⟨rfl, hb3⟩; have q0 := tr_bl hb3 q0; have d0 := blk_cell q0 0 _ rfl; have d1 := blk_cell q0 1 _ rfl; have d2 := blk_cell q0 2 _ rfl; have d3 := blk_cell q0 3 _ rfl; have d4 := blk_cell q0 4 _ rfl; have d5 := blk_cell q0 5 _ rfl; have d6 := blk_cell q0 6 _ rfl; have d7 := blk_cell q0 7 _ rfl; have hHB := HB.out.trans (hb3.mono (by have := HB.out.size; have := Hbr.out.size; omega)); have HB := Lib.hid hHB; have pc := hpr _ (Hbr.out.trans hHB); clear hHB hb3) | (go_at_call 29; refine (hma2 _).mono ?_; rintro e w3 ⟨rfl, hb3⟩; have q0 := tr_bl hb3 q0; have d0 := blk_cell q0 0 _ rfl; have d1 := blk_cell q0 1 _ rfl; have d2 := blk_cell q0 2 _ rfl; have d3 := blk_cell q0 3 _ rfl; have d4 := blk_cell q0 4 _ rfl; have d5 := blk_cell q0 5 _ rfl; have d6 := blk_cell q0 6 _ rfl; have d7 := blk_cell q0 7 _ rfl; have hHB := HB.out.trans (hb3.mono (by have := HB.out.size; have := Hbr.out.size; omega)); have HB := Lib.hid hHB; have pc := hpr _ (Hbr.out.trans hHB); clear hHB hb3))
                  go_ret
                  have e1 : decide (p < yi) = false := by rw [decide_eq_false_iff_not]; omega
                  exact ⟨ret_bool (HNK.out (by rw [HOK.out]; rw [e1]; simp)).symm, Hbr.out.trans HB.out⟩
                · by_cases hgt : p + 1 < yi
                  · go_wp2_with (first | (go_at_call 30; refine (hno2 _).mono ?_; rintro e w3 ⟨rfl, hb3⟩; have q0 := tr_bl hb3 q0; have d0 := blk_cell q0 0 _ rfl; have d1 := blk_cell q0 1 _ rfl; have d2 := blk_cell q0 2 _ rfl; have d3 := blk_cell q0 3 _ rfl; have d4 := blk_cell q0 4 _ rfl; have d5 := blk_cell q0 5 _ rfl; have d6 := blk_cell q0 6 _ rfl; have d7 := blk_cell q0 7 _ rfl; have hHB := HB.out.trans (hb3.mono (by have := HB.out.size; have := Hbr.out.size; omega)); have HB := Lib.hid hHB; have pc := hpr _ (Hbr.out.trans hHB); clear hHB hb3) | (go_at_call 29; refine (hma2 _).mono ?_; rintro e w3 ⟨rfl, hb3⟩; have q0 := tr_bl hb3 q0; have d0 := blk_cell q0 0 _ rfl; have d1 := blk_cell q0 1 _ rfl; have d2 := blk_cell q0 2 _ rfl; have d3 := blk_cell q0 3 _ rfl; have d4 := blk_cell q0 4 _ rfl; have d5 := blk_cell q0 5 _ rfl; have d6 := blk_cell q0 6 _ rfl; have d7 := blk_cell q0 7 _ rfl; have hHB := HB.out.trans (hb3.mono (by have := HB.out.size; have := Hbr.out.size; omega)); have HB := Lib.hid hHB; have pc := hpr _ (Hbr.out.trans hHB); clear hHB hb3))
                    go_ret
                    have e1 : decide (yi ≤ p + 1) = false := by rw [decide_eq_false_iff_not]; omega
                    exact ⟨ret_bool (HNK.out (by rw [HOK.out, HN2.out]; rw [e1]; simp)).symm, Hbr.out.trans HB.out⟩
                  · go_wp2_with (first | (go_at_call 30; refine (hno2 _).mono ?_; rintro e w3 ⟨rfl, hb3⟩; have q0 := tr_bl hb3 q0; have d0 := blk_cell q0 0 _ rfl; have d1 := blk_cell q0 1 _ rfl; have d2 := blk_cell q0 2 _ rfl; have d3 := blk_cell q0 3 _ rfl; have d4 := blk_cell q0 4 _ rfl; have d5 := blk_cell q0 5 _ rfl; have d6 := blk_cell q0 6 _ rfl; have d7 := blk_cell q0 7 _ rfl; have hHB := HB.out.trans (hb3.mono (by have := HB.out.size; have := Hbr.out.size; omega)); have HB := Lib.hid hHB; have pc := hpr _ (Hbr.out.trans hHB); clear hHB hb3) | (go_at_call 29; refine (hma2 _).mono ?_; rintro e w3 ⟨rfl, hb3⟩; have q0 := tr_bl hb3 q0; have d0 := blk_cell q0 0 _ rfl; have d1 := blk_cell q0 1 _ rfl; have d2 := blk_cell q0 2 _ rfl; have d3 := blk_cell q0 3 _ rfl; have d4 := blk_cell q0 4 _ rfl; have d5 := blk_cell q0 5 _ rfl; have d6 := blk_cell q0 6 _ rfl; have d7 := blk_cell q0 7 _ rfl; have hHB := HB.out.trans (hb3.mono (by have := HB.out.size; have := Hbr.out.size; omega)); have HB := Lib.hid hHB; have pc := hpr _ (Hbr.out.trans hHB); clear hHB hb3))
                    have e1 : decide (1 ≤ yi) = true := by rw [decide_eq_true_eq]; omega
                    have e2 : decide (yi ≤ big40) = true := by rw [decide_eq_true_eq]; unfold big40; omega
                    have e3 : decide (p < yi) = true := by rw [decide_eq_true_eq]; omega
                    have e4 : decide (yi ≤ p + 1) = true := by rw [decide_eq_true_eq]; omega
                    go_roundw
                    case rel => exact ⟨j + 1 + 1, HI1.out, by go_num, Lib.hid (HST.out (by rw [HOK.out, HF.out, HN2.out, HM2.out]; simp [e1, e2, e3, e4])), Hbr.out.trans HB.out⟩
                    case measure => have := HI1.out; simp [Go.RowKit.intOf]; omega
          case true =>
            by_cases hk0 : k = 0
            · subst hk0
              simp only [Nat.zero_mul, Nat.add_zero] at c0 c1 c2 c3 c4 c5 c6 c7
              go_wp2_with (first | (go_at_call 30; refine (hno2 _).mono ?_; rintro e w3 ⟨rfl, hb3⟩; have q0 := tr_bl hb3 q0; have d0 := blk_cell q0 0 _ rfl; have d1 := blk_cell q0 1 _ rfl; have d2 := blk_cell q0 2 _ rfl; have d3 := blk_cell q0 3 _ rfl; have d4 := blk_cell q0 4 _ rfl; have d5 := blk_cell q0 5 _ rfl; have d6 := blk_cell q0 6 _ rfl; have d7 := blk_cell q0 7 _ rfl; have hHB := HB.out.trans (hb3.mono (by have := HB.out.size; have := Hbr.out.size; omega)); have HB := Lib.hid hHB; clear hHB hb3))
              have e1 : decide (1 ≤ yi) = true := by rw [decide_eq_true_eq]; omega
              have e2 : decide (yi ≤ big40) = true := by rw [decide_eq_true_eq]; unfold big40; omega
              go_roundw
              case rel => exact ⟨0 + 1, HI1.out, by go_num, Lib.hid (HST.out (by rw [HZ.out (by trivial), HF.out, HN2.out, HM2.out]; simp [e1, e2])), Hbr.out.trans HB.out⟩
              case measure => have := HI1.out; simp [Go.RowKit.intOf]; omega
            · obtain ⟨j, rfl⟩ : ∃ j, k = j + 1 := ⟨k - 1, by omega⟩
              have hki : (((j + 1 : Nat) : Int) == 0) = false := by rw [beq_eq_false_iff_ne]; omega
              obtain ⟨p, hp1, hp2, hpr, hok⟩ := HPR.out j rfl
              have HOK := Lib.hid hok
              clear hok
              have pc := hpr _ (Hbr.out.trans HB.out)
              by_cases hle : yi ≤ p
              · go_wp2_with (first | (go_at_call 30; refine (hno2 _).mono ?_; rintro e w3 ⟨rfl, hb3⟩; have q0 := tr_bl hb3 q0; have d0 := blk_cell q0 0 _ rfl; have d1 := blk_cell q0 1 _ rfl; have d2 := blk_cell q0 2 _ rfl; have d3 := blk_cell q0 3 _ rfl; have d4 := blk_cell q0 4 _ rfl; have d5 := blk_cell q0 5 _ rfl; have d6 := blk_cell q0 6 _ rfl; have d7 := blk_cell q0 7 _ rfl; have hHB := HB.out.trans (hb3.mono (by have := HB.out.size; have := Hbr.out.size; omega)); have HB := Lib.hid hHB; have pc := hpr _ (Hbr.out.trans hHB); clear hHB hb3))
                go_ret
                have e1 : decide (p < yi) = false := by rw [decide_eq_false_iff_not]; omega
                exact ⟨ret_bool (HNK.out (by rw [HOK.out]; rw [e1]; simp)).symm, Hbr.out.trans HB.out⟩
              · go_wp2_with (first | (go_at_call 30; refine (hno2 _).mono ?_; rintro e w3 ⟨rfl, hb3⟩; have q0 := tr_bl hb3 q0; have d0 := blk_cell q0 0 _ rfl; have d1 := blk_cell q0 1 _ rfl; have d2 := blk_cell q0 2 _ rfl; have d3 := blk_cell q0 3 _ rfl; have d4 := blk_cell q0 4 _ rfl; have d5 := blk_cell q0 5 _ rfl; have d6 := blk_cell q0 6 _ rfl; have d7 := blk_cell q0 7 _ rfl; have hHB := HB.out.trans (hb3.mono (by have := HB.out.size; have := Hbr.out.size; omega)); have HB := Lib.hid hHB; have pc := hpr _ (Hbr.out.trans hHB); clear hHB hb3))
                have e1 : decide (1 ≤ yi) = true := by rw [decide_eq_true_eq]; omega
                have e2 : decide (yi ≤ big40) = true := by rw [decide_eq_true_eq]; unfold big40; omega
                have e3 : decide (p < yi) = true := by rw [decide_eq_true_eq]; omega
                go_roundw
                case rel => exact ⟨j + 1 + 1, HI1.out, by go_num, Lib.hid (HST.out (by rw [HOK.out, HF.out, HN2.out, HM2.out]; simp [e1, e2, e3])), Hbr.out.trans HB.out⟩
                case measure => have := HI1.out; simp [Go.RowKit.intOf]; omega
    · obtain rfl : k = l.length := by omega
      go_wp2
      go_ret
      exact ⟨ret_bool (HYES.out.2 fun j hj => hT.out j hj hj).symm, hbr⟩
end Go.Proofs.Ytkkoookmnnmiiaa

namespace Go.Proofs.Ytkkoookmnnmiiaa
open Go.RowKit

theorem note_zero (i : Int) (w : World) : Calls Try.prog 27 #[.int .i64 i, .int .i64 0] w fun e w' => e = .returned (.agg #[.int .i64 i, .int .u8 0, .int .i64 0, .int .i64 0, .int .u8 0, .string ⟨#[]⟩, .string ⟨#[]⟩, .string ⟨#[]⟩]) ∧ Below w.heap.size w w' := noteJ_any i 0 w
theorem note_pos (i s : Int) (hs : 0 < s) (w : World) : Calls Try.prog 27 #[.int .i64 i, .int .i64 s] w fun e w' => e = .returned (.agg #[.int .i64 i, .int .u8 2, .int .i64 0, .int .i64 s, .int .u8 3, .string ⟨#[107]⟩, .string ⟨#[]⟩, .string ⟨#[]⟩]) ∧ Below w.heap.size w w' := by
  have h := noteJ_any i s w
  have e : noteJ i s = ⟨i, ⟨2, 0, s, ⟨3, kJ, ⟨#[]⟩, ⟨#[]⟩⟩⟩⟩ := by unfold noteJ; rw [if_pos hs]
  rw [e] at h
  exact h
theorem new_next (w : World) (x p : Obj) : ((w.alloc x).alloc p).heap[w.heap.size + 1]? = some p := by
  have := heap_alloc_new (w.alloc x) p
  rwa [World.size_alloc] at this
theorem below_all {w wA wB wC wD wE wF wG wH : World} {x1 x2 y2 x3 y3 x4 x5 y4 : Obj} (hA : Below w.heap.size w wA) (hB : Below wA.heap.size wA wB) (hC : Below (wB.alloc x1).heap.size (wB.alloc x1) wC) (hD : Below wC.heap.size wC wD) (hE : Below ((wD.alloc x2).alloc y2).heap.size ((wD.alloc x2).alloc y2) wE)
    (hF : Below ((wE.alloc x3).alloc y3).heap.size ((wE.alloc x3).alloc y3) wF) (hG : Below wF.heap.size wF wG) (hH : Below (wG.alloc x4).heap.size (wG.alloc x4) wH) : Below w.heap.size w ((wH.alloc x5).alloc y4) := by
  have t : ∀ {a b c : World}, Below a.heap.size a b → Below b.heap.size b c → Below a.heap.size a c := fun h k => h.trans (k.mono h.size)
  have l : ∀ {a b : World} (o : Obj), Below a.heap.size a b → Below a.heap.size a (b.alloc o) := fun o h => h.alloc h.size o
  exact l _ (l _ (t (l _ (t (t (l _ (l _ (t (l _ (l _ (t (t (l _ (t hA hB)) hC) hD))) hE))) hF) hG)) hH))
theorem lst2 (x y : PartA) : flatJ (lstA [x, y]) = flatJ [x.2.2, y.2.2] := rfl
section
variable {wZ wK : World} {a a1 a2 : Option Addr} {c c1 c2 : Nat} {l1 l2 : List Ap}
theorem small2 {x y : PartA} (h1 : x.2.2.length ≤ 1000) (h2 : y.2.2.length ≤ 1000) : ∀ z ∈ [x, y], z.2.2.length ≤ 1000000 := by
  intro z hz
  simp only [List.mem_cons, List.not_mem_nil, or_false] at hz
  rcases hz with rfl | rfl <;> omega
theorem oks2 {x y : PartA} (h1 : ∀ u ∈ x.2.2, okI u) (h2 : ∀ u ∈ y.2.2, okI u) : ∀ z ∈ [x, y], ∀ u ∈ z.2.2, okI u := by
  intro z hz
  simp only [List.mem_cons, List.not_mem_nil, or_false] at hz
  rcases hz with rfl | rfl
  · exact h1
  · exact h2
theorem agr2 (L : PartsA wZ a [(a1, c1, l1), (a2, c2, l2)]) (z : Below wZ.heap.size wZ wK) (m1 : l1.length ≤ 1000) (m2 : l2.length ≤ 1000) (k1 : ∀ u ∈ l1, okI u) (k2 : ∀ u ∈ l2, okI u) (r : Bool) (hr : agreeJ (flatJ [l1, l2]) = r) :
    Calls Try.prog 13 #[.slice a 2 c] wK fun e w' => e = .returned (.bool r) ∧ Below wZ.heap.size wZ w' := by
  subst hr
  refine (agree_any (L.below z) c (show 2 ≤ 1000000 by decide) (small2 m1 m2) (oks2 k1 k2)).mono ?_
  rintro e w' ⟨rfl, hb⟩
  exact ⟨rfl, z.trans (hb.mono z.size)⟩
theorem fst2 (L : PartsA wZ a [(a1, c1, l1), (a2, c2, l2)]) (z : Below wZ.heap.size wZ wK) (m1 : l1.length ≤ 1000) (m2 : l2.length ≤ 1000) (k1 : ∀ u ∈ l1, okI u) (k2 : ∀ u ∈ l2, okI u) (r : Int) (hr : firstOdd (flatJ [l1, l2]) = r) :
    Calls Try.prog 14 #[.slice a 2 c] wK fun e w' => e = .returned (.int .i64 r) ∧ Below wZ.heap.size wZ w' := by
  subst hr
  refine (first_any (L.below z) c (show 2 ≤ 1000000 by decide) (small2 m1 m2) (oks2 k1 k2)).mono ?_
  rintro e w' ⟨rfl, hb⟩
  exact ⟨rfl, z.trans (hb.mono z.size)⟩
theorem cho2 (L : PartsA wZ a [(a1, c1, l1), (a2, c2, l2)]) (z : Below wZ.heap.size wZ wK) (m1 : l1.length ≤ 1000) (m2 : l2.length ≤ 1000) (k1 : ∀ u ∈ l1, okI u) (k2 : ∀ u ∈ l2, okI u) (r : List Ap) (hr : chosenJ (flatJ [l1, l2]) = r) :
    Calls Try.prog 12 #[.slice a 2 c] wK fun e w' => (∃ a' c', e = .returned (.slice a' r.length c') ∧ Row w' a' (aps r)) ∧ Below wZ.heap.size wZ w' := by
  subst hr
  refine (chosen_any (L.below z) c (show 2 ≤ 1000000 by decide) (small2 m1 m2) (oks2 k1 k2)).mono ?_
  rintro e w' ⟨v, rfl, hrow, hb⟩
  obtain ⟨a', c', rfl, hR, _⟩ := Row.of_owns hrow
  exact ⟨⟨a', c', rfl, hR⟩, z.trans (hb.mono z.size)⟩
theorem sam2 (ha : Row wK a (aps l1)) (hb : Row wK a1 (aps l1)) (hl : l1.length ≤ 1000) (z : Below wZ.heap.size wZ wK) : Calls Try.prog 28 #[.slice a l1.length c, .slice a1 l1.length c1] wK fun e w' => e = .returned (.bool true) ∧ Below wZ.heap.size wZ w' := by
  refine (same_any ha hb (by omega)).mono ?_
  rintro e w' ⟨⟨r, rfl, hr⟩, h2⟩
  rw [hr.2 rfl]
  exact ⟨rfl, z.trans (h2.mono z.size)⟩
theorem rig2 (ha : Row wK a (aps l1)) (hl : l1.length ≤ 1000) (z : Below wZ.heap.size wZ wK) (r : Bool) (hr : rightJ l1 = r) : Calls Try.prog 11 #[.slice a l1.length c] wK fun e w' => e = .returned (.bool r) ∧ Below wZ.heap.size wZ w' := by
  subst hr
  refine (right_any ha (by omega)).mono ?_
  rintro e w' ⟨rfl, h2⟩
  exact ⟨rfl, z.trans (h2.mono z.size)⟩
theorem nxt {wN : World} (z : Below wZ.heap.size wZ wK) (h : Below wK.heap.size wK wN) : Below wZ.heap.size wZ wN := z.trans (h.mono z.size)
end
set_option maxRecDepth 100000 in
set_option maxHeartbeats 2000000 in
theorem awake_any (w : World) : Calls Try.prog 8 #[] w fun e w' => e = .returned (.bool true) ∧ Below w.heap.size w w' := by
  go_enter Try.func8, Try.ntmps8
  go_wp2_with fail
  go_at_call 27
  refine (note_pos _ _ (by decide) _).mono ?_
  rintro e wA ⟨rfl, hwA⟩
  go_wp2_with fail
  go_at_call 27
  refine (note_pos _ _ (by decide) _).mono ?_
  rintro e wB ⟨rfl, hwB⟩
  go_wp2_with fail
  go_at_call 27
  refine (note_pos _ _ (by decide) _).mono ?_
  rintro e wC ⟨rfl, hwC⟩
  go_wp2_with fail
  go_at_call 27
  refine (note_pos _ _ (by decide) _).mono ?_
  rintro e wD ⟨rfl, hwD⟩
  go_wp2_with fail
  go_at_call 16
  refine (row_any _ _).mono ?_
  rintro e wR ⟨rfl, rfl⟩
  go_wp2_with fail
  go_at_call 27
  refine (note_pos _ _ (by decide) _).mono ?_
  rintro e wE ⟨rfl, hwE⟩
  go_wp2_with fail
  go_at_call 16
  refine (row_any _ _).mono ?_
  rintro e wR ⟨rfl, rfl⟩
  go_wp2_with fail
  go_at_call 27
  refine (note_zero _ _).mono ?_
  rintro e wF ⟨rfl, hwF⟩
  go_wp2_with fail
  go_at_call 27
  refine (note_pos _ _ (by decide) _).mono ?_
  rintro e wG ⟨rfl, hwG⟩
  go_wp2_with fail
  go_at_call 27
  refine (note_pos _ _ (by decide) _).mono ?_
  rintro e wH ⟨rfl, hwH⟩
  go_wp2_with fail
  go_at_call 16
  refine (row_any _ _).mono ?_
  rintro e wR ⟨rfl, rfl⟩
  go_wp2_with fail
  have b1 : ((wH.alloc (Obj.cells #[.int .i64 8, .int .u8 2, .int .i64 0, .int .i64 8, .int .u8 3, .string ⟨#[107]⟩, .string ⟨#[]⟩, .string ⟨#[]⟩] 36)).alloc (Obj.cells #[.slice (some ⟨wG.heap.size, 0, none⟩) 2 2, .slice (some ⟨wH.heap.size, 0, none⟩) 1 1] 29)).heap[wB.heap.size]? = some (Obj.cells #[.int .i64 1, .int .u8 2, .int .i64 0, .int .i64 7, .int .u8 3, .string ⟨#[107]⟩, .string ⟨#[]⟩, .string ⟨#[]⟩, .int .i64 2, .int .u8 2, .int .i64 0, .int .i64 8, .int .u8 3, .string ⟨#[107]⟩, .string ⟨#[]⟩, .string ⟨#[]⟩] 36) := (tr_al (Obj.cells #[.slice (some ⟨wG.heap.size, 0, none⟩) 2 2, .slice (some ⟨wH.heap.size, 0, none⟩) 1 1] 29) (tr_al (Obj.cells #[.int .i64 8, .int .u8 2, .int .i64 0, .int .i64 8, .int .u8 3, .string ⟨#[107]⟩, .string ⟨#[]⟩, .string ⟨#[]⟩] 36) (tr_bl hwH (tr_al (Obj.cells #[.int .i64 8, .int .u8 0, .int .i64 0, .int .i64 0, .int .u8 0, .string ⟨#[]⟩, .string ⟨#[]⟩, .string ⟨#[]⟩, .int .i64 9, .int .u8 2, .int .i64 0, .int .i64 7, .int .u8 3, .string ⟨#[107]⟩, .string ⟨#[]⟩, .string ⟨#[]⟩] 36) (tr_bl hwG (tr_bl hwF (tr_al (Obj.cells #[.slice (some ⟨wB.heap.size, 0, none⟩) 2 2, .slice (some ⟨wE.heap.size, 0, none⟩) 1 1] 29) (tr_al (Obj.cells #[.int .i64 2, .int .u8 2, .int .i64 0, .int .i64 7, .int .u8 3, .string ⟨#[107]⟩, .string ⟨#[]⟩, .string ⟨#[]⟩] 36) (tr_bl hwE (tr_al (Obj.cells #[.slice (some ⟨wB.heap.size, 0, none⟩) 2 2, .slice (some ⟨wD.heap.size, 0, none⟩) 2 2] 29) (tr_al (Obj.cells #[.int .i64 2, .int .u8 2, .int .i64 0, .int .i64 8, .int .u8 3, .string ⟨#[107]⟩, .string ⟨#[]⟩, .string ⟨#[]⟩, .int .i64 3, .int .u8 2, .int .i64 0, .int .i64 7, .int .u8 3, .string ⟨#[107]⟩, .string ⟨#[]⟩, .string ⟨#[]⟩] 36) (tr_bl hwD (tr_bl hwC (heap_alloc_new wB (Obj.cells #[.int .i64 1, .int .u8 2, .int .i64 0, .int .i64 7, .int .u8 3, .string ⟨#[107]⟩, .string ⟨#[]⟩, .string ⟨#[]⟩, .int .i64 2, .int .u8 2, .int .i64 0, .int .i64 8, .int .u8 3, .string ⟨#[107]⟩, .string ⟨#[]⟩, .string ⟨#[]⟩] 36)))))))))))))))
  have b2 : ((wH.alloc (Obj.cells #[.int .i64 8, .int .u8 2, .int .i64 0, .int .i64 8, .int .u8 3, .string ⟨#[107]⟩, .string ⟨#[]⟩, .string ⟨#[]⟩] 36)).alloc (Obj.cells #[.slice (some ⟨wG.heap.size, 0, none⟩) 2 2, .slice (some ⟨wH.heap.size, 0, none⟩) 1 1] 29)).heap[wD.heap.size]? = some (Obj.cells #[.int .i64 2, .int .u8 2, .int .i64 0, .int .i64 8, .int .u8 3, .string ⟨#[107]⟩, .string ⟨#[]⟩, .string ⟨#[]⟩, .int .i64 3, .int .u8 2, .int .i64 0, .int .i64 7, .int .u8 3, .string ⟨#[107]⟩, .string ⟨#[]⟩, .string ⟨#[]⟩] 36) := (tr_al (Obj.cells #[.slice (some ⟨wG.heap.size, 0, none⟩) 2 2, .slice (some ⟨wH.heap.size, 0, none⟩) 1 1] 29) (tr_al (Obj.cells #[.int .i64 8, .int .u8 2, .int .i64 0, .int .i64 8, .int .u8 3, .string ⟨#[107]⟩, .string ⟨#[]⟩, .string ⟨#[]⟩] 36) (tr_bl hwH (tr_al (Obj.cells #[.int .i64 8, .int .u8 0, .int .i64 0, .int .i64 0, .int .u8 0, .string ⟨#[]⟩, .string ⟨#[]⟩, .string ⟨#[]⟩, .int .i64 9, .int .u8 2, .int .i64 0, .int .i64 7, .int .u8 3, .string ⟨#[107]⟩, .string ⟨#[]⟩, .string ⟨#[]⟩] 36) (tr_bl hwG (tr_bl hwF (tr_al (Obj.cells #[.slice (some ⟨wB.heap.size, 0, none⟩) 2 2, .slice (some ⟨wE.heap.size, 0, none⟩) 1 1] 29) (tr_al (Obj.cells #[.int .i64 2, .int .u8 2, .int .i64 0, .int .i64 7, .int .u8 3, .string ⟨#[107]⟩, .string ⟨#[]⟩, .string ⟨#[]⟩] 36) (tr_bl hwE (tr_al (Obj.cells #[.slice (some ⟨wB.heap.size, 0, none⟩) 2 2, .slice (some ⟨wD.heap.size, 0, none⟩) 2 2] 29) (heap_alloc_new wD (Obj.cells #[.int .i64 2, .int .u8 2, .int .i64 0, .int .i64 8, .int .u8 3, .string ⟨#[107]⟩, .string ⟨#[]⟩, .string ⟨#[]⟩, .int .i64 3, .int .u8 2, .int .i64 0, .int .i64 7, .int .u8 3, .string ⟨#[107]⟩, .string ⟨#[]⟩, .string ⟨#[]⟩] 36))))))))))))
  have p2 : ((wH.alloc (Obj.cells #[.int .i64 8, .int .u8 2, .int .i64 0, .int .i64 8, .int .u8 3, .string ⟨#[107]⟩, .string ⟨#[]⟩, .string ⟨#[]⟩] 36)).alloc (Obj.cells #[.slice (some ⟨wG.heap.size, 0, none⟩) 2 2, .slice (some ⟨wH.heap.size, 0, none⟩) 1 1] 29)).heap[wD.heap.size + 1]? = some (Obj.cells #[.slice (some ⟨wB.heap.size, 0, none⟩) 2 2, .slice (some ⟨wD.heap.size, 0, none⟩) 2 2] 29) := (tr_al (Obj.cells #[.slice (some ⟨wG.heap.size, 0, none⟩) 2 2, .slice (some ⟨wH.heap.size, 0, none⟩) 1 1] 29) (tr_al (Obj.cells #[.int .i64 8, .int .u8 2, .int .i64 0, .int .i64 8, .int .u8 3, .string ⟨#[107]⟩, .string ⟨#[]⟩, .string ⟨#[]⟩] 36) (tr_bl hwH (tr_al (Obj.cells #[.int .i64 8, .int .u8 0, .int .i64 0, .int .i64 0, .int .u8 0, .string ⟨#[]⟩, .string ⟨#[]⟩, .string ⟨#[]⟩, .int .i64 9, .int .u8 2, .int .i64 0, .int .i64 7, .int .u8 3, .string ⟨#[107]⟩, .string ⟨#[]⟩, .string ⟨#[]⟩] 36) (tr_bl hwG (tr_bl hwF (tr_al (Obj.cells #[.slice (some ⟨wB.heap.size, 0, none⟩) 2 2, .slice (some ⟨wE.heap.size, 0, none⟩) 1 1] 29) (tr_al (Obj.cells #[.int .i64 2, .int .u8 2, .int .i64 0, .int .i64 7, .int .u8 3, .string ⟨#[107]⟩, .string ⟨#[]⟩, .string ⟨#[]⟩] 36) (tr_bl hwE (new_next wD (Obj.cells #[.int .i64 2, .int .u8 2, .int .i64 0, .int .i64 8, .int .u8 3, .string ⟨#[107]⟩, .string ⟨#[]⟩, .string ⟨#[]⟩, .int .i64 3, .int .u8 2, .int .i64 0, .int .i64 7, .int .u8 3, .string ⟨#[107]⟩, .string ⟨#[]⟩, .string ⟨#[]⟩] 36) (Obj.cells #[.slice (some ⟨wB.heap.size, 0, none⟩) 2 2, .slice (some ⟨wD.heap.size, 0, none⟩) 2 2] 29)))))))))))
  have b3 : ((wH.alloc (Obj.cells #[.int .i64 8, .int .u8 2, .int .i64 0, .int .i64 8, .int .u8 3, .string ⟨#[107]⟩, .string ⟨#[]⟩, .string ⟨#[]⟩] 36)).alloc (Obj.cells #[.slice (some ⟨wG.heap.size, 0, none⟩) 2 2, .slice (some ⟨wH.heap.size, 0, none⟩) 1 1] 29)).heap[wE.heap.size]? = some (Obj.cells #[.int .i64 2, .int .u8 2, .int .i64 0, .int .i64 7, .int .u8 3, .string ⟨#[107]⟩, .string ⟨#[]⟩, .string ⟨#[]⟩] 36) := (tr_al (Obj.cells #[.slice (some ⟨wG.heap.size, 0, none⟩) 2 2, .slice (some ⟨wH.heap.size, 0, none⟩) 1 1] 29) (tr_al (Obj.cells #[.int .i64 8, .int .u8 2, .int .i64 0, .int .i64 8, .int .u8 3, .string ⟨#[107]⟩, .string ⟨#[]⟩, .string ⟨#[]⟩] 36) (tr_bl hwH (tr_al (Obj.cells #[.int .i64 8, .int .u8 0, .int .i64 0, .int .i64 0, .int .u8 0, .string ⟨#[]⟩, .string ⟨#[]⟩, .string ⟨#[]⟩, .int .i64 9, .int .u8 2, .int .i64 0, .int .i64 7, .int .u8 3, .string ⟨#[107]⟩, .string ⟨#[]⟩, .string ⟨#[]⟩] 36) (tr_bl hwG (tr_bl hwF (tr_al (Obj.cells #[.slice (some ⟨wB.heap.size, 0, none⟩) 2 2, .slice (some ⟨wE.heap.size, 0, none⟩) 1 1] 29) (heap_alloc_new wE (Obj.cells #[.int .i64 2, .int .u8 2, .int .i64 0, .int .i64 7, .int .u8 3, .string ⟨#[107]⟩, .string ⟨#[]⟩, .string ⟨#[]⟩] 36)))))))))
  have p3 : ((wH.alloc (Obj.cells #[.int .i64 8, .int .u8 2, .int .i64 0, .int .i64 8, .int .u8 3, .string ⟨#[107]⟩, .string ⟨#[]⟩, .string ⟨#[]⟩] 36)).alloc (Obj.cells #[.slice (some ⟨wG.heap.size, 0, none⟩) 2 2, .slice (some ⟨wH.heap.size, 0, none⟩) 1 1] 29)).heap[wE.heap.size + 1]? = some (Obj.cells #[.slice (some ⟨wB.heap.size, 0, none⟩) 2 2, .slice (some ⟨wE.heap.size, 0, none⟩) 1 1] 29) := (tr_al (Obj.cells #[.slice (some ⟨wG.heap.size, 0, none⟩) 2 2, .slice (some ⟨wH.heap.size, 0, none⟩) 1 1] 29) (tr_al (Obj.cells #[.int .i64 8, .int .u8 2, .int .i64 0, .int .i64 8, .int .u8 3, .string ⟨#[107]⟩, .string ⟨#[]⟩, .string ⟨#[]⟩] 36) (tr_bl hwH (tr_al (Obj.cells #[.int .i64 8, .int .u8 0, .int .i64 0, .int .i64 0, .int .u8 0, .string ⟨#[]⟩, .string ⟨#[]⟩, .string ⟨#[]⟩, .int .i64 9, .int .u8 2, .int .i64 0, .int .i64 7, .int .u8 3, .string ⟨#[107]⟩, .string ⟨#[]⟩, .string ⟨#[]⟩] 36) (tr_bl hwG (tr_bl hwF (new_next wE (Obj.cells #[.int .i64 2, .int .u8 2, .int .i64 0, .int .i64 7, .int .u8 3, .string ⟨#[107]⟩, .string ⟨#[]⟩, .string ⟨#[]⟩] 36) (Obj.cells #[.slice (some ⟨wB.heap.size, 0, none⟩) 2 2, .slice (some ⟨wE.heap.size, 0, none⟩) 1 1] 29))))))))
  have b4 : ((wH.alloc (Obj.cells #[.int .i64 8, .int .u8 2, .int .i64 0, .int .i64 8, .int .u8 3, .string ⟨#[107]⟩, .string ⟨#[]⟩, .string ⟨#[]⟩] 36)).alloc (Obj.cells #[.slice (some ⟨wG.heap.size, 0, none⟩) 2 2, .slice (some ⟨wH.heap.size, 0, none⟩) 1 1] 29)).heap[wG.heap.size]? = some (Obj.cells #[.int .i64 8, .int .u8 0, .int .i64 0, .int .i64 0, .int .u8 0, .string ⟨#[]⟩, .string ⟨#[]⟩, .string ⟨#[]⟩, .int .i64 9, .int .u8 2, .int .i64 0, .int .i64 7, .int .u8 3, .string ⟨#[107]⟩, .string ⟨#[]⟩, .string ⟨#[]⟩] 36) := (tr_al (Obj.cells #[.slice (some ⟨wG.heap.size, 0, none⟩) 2 2, .slice (some ⟨wH.heap.size, 0, none⟩) 1 1] 29) (tr_al (Obj.cells #[.int .i64 8, .int .u8 2, .int .i64 0, .int .i64 8, .int .u8 3, .string ⟨#[107]⟩, .string ⟨#[]⟩, .string ⟨#[]⟩] 36) (tr_bl hwH (heap_alloc_new wG (Obj.cells #[.int .i64 8, .int .u8 0, .int .i64 0, .int .i64 0, .int .u8 0, .string ⟨#[]⟩, .string ⟨#[]⟩, .string ⟨#[]⟩, .int .i64 9, .int .u8 2, .int .i64 0, .int .i64 7, .int .u8 3, .string ⟨#[107]⟩, .string ⟨#[]⟩, .string ⟨#[]⟩] 36)))))
  have b5 : ((wH.alloc (Obj.cells #[.int .i64 8, .int .u8 2, .int .i64 0, .int .i64 8, .int .u8 3, .string ⟨#[107]⟩, .string ⟨#[]⟩, .string ⟨#[]⟩] 36)).alloc (Obj.cells #[.slice (some ⟨wG.heap.size, 0, none⟩) 2 2, .slice (some ⟨wH.heap.size, 0, none⟩) 1 1] 29)).heap[wH.heap.size]? = some (Obj.cells #[.int .i64 8, .int .u8 2, .int .i64 0, .int .i64 8, .int .u8 3, .string ⟨#[107]⟩, .string ⟨#[]⟩, .string ⟨#[]⟩] 36) := (tr_al (Obj.cells #[.slice (some ⟨wG.heap.size, 0, none⟩) 2 2, .slice (some ⟨wH.heap.size, 0, none⟩) 1 1] 29) (heap_alloc_new wH (Obj.cells #[.int .i64 8, .int .u8 2, .int .i64 0, .int .i64 8, .int .u8 3, .string ⟨#[107]⟩, .string ⟨#[]⟩, .string ⟨#[]⟩] 36)))
  have p4 : ((wH.alloc (Obj.cells #[.int .i64 8, .int .u8 2, .int .i64 0, .int .i64 8, .int .u8 3, .string ⟨#[107]⟩, .string ⟨#[]⟩, .string ⟨#[]⟩] 36)).alloc (Obj.cells #[.slice (some ⟨wG.heap.size, 0, none⟩) 2 2, .slice (some ⟨wH.heap.size, 0, none⟩) 1 1] 29)).heap[wH.heap.size + 1]? = some (Obj.cells #[.slice (some ⟨wG.heap.size, 0, none⟩) 2 2, .slice (some ⟨wH.heap.size, 0, none⟩) 1 1] 29) := (new_next wH (Obj.cells #[.int .i64 8, .int .u8 2, .int .i64 0, .int .i64 8, .int .u8 3, .string ⟨#[107]⟩, .string ⟨#[]⟩, .string ⟨#[]⟩] 36) (Obj.cells #[.slice (some ⟨wG.heap.size, 0, none⟩) 2 2, .slice (some ⟨wH.heap.size, 0, none⟩) 1 1] 29))
  have z : Below w.heap.size w ((wH.alloc (Obj.cells #[.int .i64 8, .int .u8 2, .int .i64 0, .int .i64 8, .int .u8 3, .string ⟨#[107]⟩, .string ⟨#[]⟩, .string ⟨#[]⟩] 36)).alloc (Obj.cells #[.slice (some ⟨wG.heap.size, 0, none⟩) 2 2, .slice (some ⟨wH.heap.size, 0, none⟩) 1 1] 29)) := below_all hwA hwB hwC hwD hwE hwF hwG hwH
  clear hwA hwB hwC hwD hwE hwF hwG hwH
  generalize ((wH.alloc (Obj.cells #[.int .i64 8, .int .u8 2, .int .i64 0, .int .i64 8, .int .u8 3, .string ⟨#[107]⟩, .string ⟨#[]⟩, .string ⟨#[]⟩] 36)).alloc (Obj.cells #[.slice (some ⟨wG.heap.size, 0, none⟩) 2 2, .slice (some ⟨wH.heap.size, 0, none⟩) 1 1] 29)) = wZ at *
  generalize wB.heap.size = qb at *
  generalize wD.heap.size = qd at *
  generalize wE.heap.size = qe at *
  generalize wG.heap.size = qg at *
  generalize wH.heap.size = qh at *
  have R1 : Row wZ (some ⟨qb, 0, none⟩) (aps [pJ 1 7, pJ 2 8]) := row_block b1 rfl
  have L2 := parts2 (l1 := [pJ 1 7, pJ 2 8]) (l2 := [pJ 2 8, pJ 3 7]) p2 R1 (row_block b2 rfl) (by decide) (by decide)
  have L3 := parts2 (l1 := [pJ 1 7, pJ 2 8]) (l2 := [pJ 2 7]) p3 R1 (row_block b3 rfl) (by decide) (by decide)
  have L4 := parts2 (l1 := [oJ 8, pJ 9 7]) (l2 := [pJ 8 8]) p4 (row_block b4 rfl) (row_block b5 rfl) (by decide) (by decide)
  have z0 := Below.refl wZ.heap.size wZ
  have R1w := Lib.hid R1
  have L2w := Lib.hid L2
  have L3w := Lib.hid L3
  have L4w := Lib.hid L4
  have zz := Lib.hid z
  clear R1 L2 L3 L4 b1 b2 p2 b3 p3 b4 b5 p4 z
  go_wp2_with fail
  go_at_call 13
  refine (agr2 L2w.out z0 (by decide) (by decide) (by decide) (by decide) true say2.1).mono ?_
  rintro e k1 ⟨rfl, z1⟩
  go_wp2_with fail
  go_at_call 14
  refine (fst2 L2w.out z1 (by decide) (by decide) (by decide) (by decide) 0 say2.2).mono ?_
  rintro e k2 ⟨rfl, z2⟩
  go_wp2_with fail
  go_at_call 12
  refine (cho2 L2w.out z2 (by decide) (by decide) (by decide) (by decide) _ ch2).mono ?_
  rintro e k3 ⟨⟨ca, cc, rfl, cR⟩, z3⟩
  have y3 := Below.refl k3.heap.size k3
  go_wp2_with fail
  go_at_call 27
  refine (note_pos _ _ (by decide) _).mono ?_
  rintro e k4 ⟨rfl, hN⟩
  have z4 := nxt z3 hN
  have y4 := nxt y3 hN
  clear hN
  go_wp2_with fail
  go_at_call 27
  refine (note_pos _ _ (by decide) _).mono ?_
  rintro e k5 ⟨rfl, hN⟩
  have z5 := nxt z4 hN
  have y5 := nxt y4 hN
  clear hN
  go_wp2_with fail
  go_at_call 27
  refine (note_pos _ _ (by decide) _).mono ?_
  rintro e k6 ⟨rfl, hN⟩
  have z6 := nxt z5 hN
  have y6 := nxt y5 hN
  clear hN
  go_wp2_with fail
  go_at_call 28
  refine (sam2 (l1 := [pJ 1 7, pJ 2 8, pJ 3 7]) (cR.below0 (y6.alloc y6.size (Obj.cells #[.int .i64 1, .int .u8 2, .int .i64 0, .int .i64 7, .int .u8 3, .string ⟨#[107]⟩, .string ⟨#[]⟩, .string ⟨#[]⟩, .int .i64 2, .int .u8 2, .int .i64 0, .int .i64 8, .int .u8 3, .string ⟨#[107]⟩, .string ⟨#[]⟩, .string ⟨#[]⟩, .int .i64 3, .int .u8 2, .int .i64 0, .int .i64 7, .int .u8 3, .string ⟨#[107]⟩, .string ⟨#[]⟩, .string ⟨#[]⟩] 36))) (row_block (heap_alloc_new k6 (Obj.cells #[.int .i64 1, .int .u8 2, .int .i64 0, .int .i64 7, .int .u8 3, .string ⟨#[107]⟩, .string ⟨#[]⟩, .string ⟨#[]⟩, .int .i64 2, .int .u8 2, .int .i64 0, .int .i64 8, .int .u8 3, .string ⟨#[107]⟩, .string ⟨#[]⟩, .string ⟨#[]⟩, .int .i64 3, .int .u8 2, .int .i64 0, .int .i64 7, .int .u8 3, .string ⟨#[107]⟩, .string ⟨#[]⟩, .string ⟨#[]⟩] 36)) rfl) (by decide) (z6.alloc z6.size (Obj.cells #[.int .i64 1, .int .u8 2, .int .i64 0, .int .i64 7, .int .u8 3, .string ⟨#[107]⟩, .string ⟨#[]⟩, .string ⟨#[]⟩, .int .i64 2, .int .u8 2, .int .i64 0, .int .i64 8, .int .u8 3, .string ⟨#[107]⟩, .string ⟨#[]⟩, .string ⟨#[]⟩, .int .i64 3, .int .u8 2, .int .i64 0, .int .i64 7, .int .u8 3, .string ⟨#[107]⟩, .string ⟨#[]⟩, .string ⟨#[]⟩] 36))).mono ?_
  rintro e k7 ⟨rfl, z7⟩
  go_wp2_with fail
  go_at_call 13
  refine (agr2 L3w.out z7 (by decide) (by decide) (by decide) (by decide) false say3.1).mono ?_
  rintro e k8 ⟨rfl, z8⟩
  go_wp2_with fail
  go_at_call 14
  refine (fst2 L3w.out z8 (by decide) (by decide) (by decide) (by decide) 2 say3.2).mono ?_
  rintro e k9 ⟨rfl, z9⟩
  go_wp2_with fail
  go_at_call 12
  refine (cho2 L3w.out z9 (by decide) (by decide) (by decide) (by decide) _ ch3).mono ?_
  rintro e k10 ⟨⟨ca, cc, rfl, cR⟩, z10⟩
  have y10 := Below.refl k10.heap.size k10
  go_wp2_with fail
  go_at_call 28
  refine (sam2 (l1 := [pJ 1 7, pJ 2 8]) cR (R1w.out.below0 z10) (by decide) z10).mono ?_
  rintro e k11 ⟨rfl, z11⟩
  go_wp2_with fail
  go_at_call 13
  refine (agr2 L4w.out z11 (by decide) (by decide) (by decide) (by decide) true say4.1).mono ?_
  rintro e k12 ⟨rfl, z12⟩
  go_wp2_with fail
  go_at_call 14
  refine (fst2 L4w.out z12 (by decide) (by decide) (by decide) (by decide) 0 say4.2).mono ?_
  rintro e k13 ⟨rfl, z13⟩
  go_wp2_with fail
  go_at_call 12
  refine (cho2 L4w.out z13 (by decide) (by decide) (by decide) (by decide) _ ch4).mono ?_
  rintro e k14 ⟨⟨ca, cc, rfl, cR⟩, z14⟩
  have y14 := Below.refl k14.heap.size k14
  go_wp2_with fail
  go_at_call 27
  refine (note_pos _ _ (by decide) _).mono ?_
  rintro e k15 ⟨rfl, hN⟩
  have z15 := nxt z14 hN
  have y15 := nxt y14 hN
  clear hN
  go_wp2_with fail
  go_at_call 27
  refine (note_pos _ _ (by decide) _).mono ?_
  rintro e k16 ⟨rfl, hN⟩
  have z16 := nxt z15 hN
  have y16 := nxt y15 hN
  clear hN
  go_wp2_with fail
  go_at_call 28
  refine (sam2 (l1 := [pJ 8 8, pJ 9 7]) (cR.below0 (y16.alloc y16.size (Obj.cells #[.int .i64 8, .int .u8 2, .int .i64 0, .int .i64 8, .int .u8 3, .string ⟨#[107]⟩, .string ⟨#[]⟩, .string ⟨#[]⟩, .int .i64 9, .int .u8 2, .int .i64 0, .int .i64 7, .int .u8 3, .string ⟨#[107]⟩, .string ⟨#[]⟩, .string ⟨#[]⟩] 36))) (row_block (heap_alloc_new k16 (Obj.cells #[.int .i64 8, .int .u8 2, .int .i64 0, .int .i64 8, .int .u8 3, .string ⟨#[107]⟩, .string ⟨#[]⟩, .string ⟨#[]⟩, .int .i64 9, .int .u8 2, .int .i64 0, .int .i64 7, .int .u8 3, .string ⟨#[107]⟩, .string ⟨#[]⟩, .string ⟨#[]⟩] 36)) rfl) (by decide) (z16.alloc z16.size (Obj.cells #[.int .i64 8, .int .u8 2, .int .i64 0, .int .i64 8, .int .u8 3, .string ⟨#[107]⟩, .string ⟨#[]⟩, .string ⟨#[]⟩, .int .i64 9, .int .u8 2, .int .i64 0, .int .i64 7, .int .u8 3, .string ⟨#[107]⟩, .string ⟨#[]⟩, .string ⟨#[]⟩] 36))).mono ?_
  rintro e k17 ⟨rfl, z17⟩
  go_wp2_with fail
  go_at_call 11
  refine (rig2 (l1 := [pJ 1 7, pJ 2 8]) (R1w.out.below0 z17) (by decide) z17 true right1.1).mono ?_
  rintro e k18 ⟨rfl, z18⟩
  go_wp2_with fail
  go_at_call 27
  refine (note_pos _ _ (by decide) _).mono ?_
  rintro e k19 ⟨rfl, hN⟩
  have z19 := nxt z18 hN
  clear hN
  go_wp2_with fail
  go_at_call 27
  refine (note_pos _ _ (by decide) _).mono ?_
  rintro e k20 ⟨rfl, hN⟩
  have z20 := nxt z19 hN
  clear hN
  go_wp2_with fail
  go_at_call 11
  refine (rig2 (l1 := [pJ 1 7, pJ 3 8]) (row_block (heap_alloc_new k20 (Obj.cells #[.int .i64 1, .int .u8 2, .int .i64 0, .int .i64 7, .int .u8 3, .string ⟨#[107]⟩, .string ⟨#[]⟩, .string ⟨#[]⟩, .int .i64 3, .int .u8 2, .int .i64 0, .int .i64 8, .int .u8 3, .string ⟨#[107]⟩, .string ⟨#[]⟩, .string ⟨#[]⟩] 36)) rfl) (by decide) (z20.alloc z20.size (Obj.cells #[.int .i64 1, .int .u8 2, .int .i64 0, .int .i64 7, .int .u8 3, .string ⟨#[107]⟩, .string ⟨#[]⟩, .string ⟨#[]⟩, .int .i64 3, .int .u8 2, .int .i64 0, .int .i64 8, .int .u8 3, .string ⟨#[107]⟩, .string ⟨#[]⟩, .string ⟨#[]⟩] 36)) false right1.2.1).mono ?_
  rintro e k21 ⟨rfl, z21⟩
  go_wp2_with fail
  go_at_call 27
  refine (note_pos _ _ (by decide) _).mono ?_
  rintro e k22 ⟨rfl, hN⟩
  have z22 := nxt z21 hN
  clear hN
  go_wp2_with fail
  go_at_call 27
  refine (note_zero _ _).mono ?_
  rintro e k23 ⟨rfl, hN⟩
  have z23 := nxt z22 hN
  clear hN
  go_wp2_with fail
  go_at_call 27
  refine (note_pos _ _ (by decide) _).mono ?_
  rintro e k24 ⟨rfl, hN⟩
  have z24 := nxt z23 hN
  clear hN
  go_wp2_with fail
  go_at_call 11
  refine (rig2 (l1 := [pJ 1 7, oJ 8, pJ 9 8]) (row_block (heap_alloc_new k24 (Obj.cells #[.int .i64 1, .int .u8 2, .int .i64 0, .int .i64 7, .int .u8 3, .string ⟨#[107]⟩, .string ⟨#[]⟩, .string ⟨#[]⟩, .int .i64 8, .int .u8 0, .int .i64 0, .int .i64 0, .int .u8 0, .string ⟨#[]⟩, .string ⟨#[]⟩, .string ⟨#[]⟩, .int .i64 9, .int .u8 2, .int .i64 0, .int .i64 8, .int .u8 3, .string ⟨#[107]⟩, .string ⟨#[]⟩, .string ⟨#[]⟩] 36)) rfl) (by decide) (z24.alloc z24.size (Obj.cells #[.int .i64 1, .int .u8 2, .int .i64 0, .int .i64 7, .int .u8 3, .string ⟨#[107]⟩, .string ⟨#[]⟩, .string ⟨#[]⟩, .int .i64 8, .int .u8 0, .int .i64 0, .int .i64 0, .int .u8 0, .string ⟨#[]⟩, .string ⟨#[]⟩, .string ⟨#[]⟩, .int .i64 9, .int .u8 2, .int .i64 0, .int .i64 8, .int .u8 3, .string ⟨#[107]⟩, .string ⟨#[]⟩, .string ⟨#[]⟩] 36)) true right1.2.2.1).mono ?_
  rintro e k25 ⟨rfl, z25⟩
  go_wp2_with fail
  go_at_call 27
  refine (note_pos _ _ (by decide) _).mono ?_
  rintro e k26 ⟨rfl, hN⟩
  have z26 := nxt z25 hN
  clear hN
  go_wp2_with fail
  go_at_call 27
  refine (note_zero _ _).mono ?_
  rintro e k27 ⟨rfl, hN⟩
  have z27 := nxt z26 hN
  clear hN
  go_wp2_with fail
  go_at_call 11
  refine (rig2 (l1 := [pJ 1 7, oJ 1]) (row_block (heap_alloc_new k27 (Obj.cells #[.int .i64 1, .int .u8 2, .int .i64 0, .int .i64 7, .int .u8 3, .string ⟨#[107]⟩, .string ⟨#[]⟩, .string ⟨#[]⟩, .int .i64 1, .int .u8 0, .int .i64 0, .int .i64 0, .int .u8 0, .string ⟨#[]⟩, .string ⟨#[]⟩, .string ⟨#[]⟩] 36)) rfl) (by decide) (z27.alloc z27.size (Obj.cells #[.int .i64 1, .int .u8 2, .int .i64 0, .int .i64 7, .int .u8 3, .string ⟨#[107]⟩, .string ⟨#[]⟩, .string ⟨#[]⟩, .int .i64 1, .int .u8 0, .int .i64 0, .int .i64 0, .int .u8 0, .string ⟨#[]⟩, .string ⟨#[]⟩, .string ⟨#[]⟩] 36)) false right1.2.2.2).mono ?_
  rintro e k28 ⟨rfl, z28⟩
  go_wp2_with fail
  go_ret
  exact ⟨rfl, nxt zz.out z28⟩
end Go.Proofs.Ytkkoookmnnmiiaa

namespace Go.Proofs.Ytkkoookmnnmiiaa
open Go.RowKit

set_option maxRecDepth 100000 in
set_option maxHeartbeats 4000000 in
theorem more_law (a : Option Addr) (cap : Nat) (ls : List PartA) (b : Option Addr) (bcap : Nat) (m : List Ap) (w : World) (hs : PartsA w a ls) (hm : SlA w b bcap m) (hlen : ls.length * 24 ≤ 140737488351232) (hok : ∀ x ∈ ls, ∀ y ∈ x.2.2, okI y) (hok2 : ∀ y ∈ m, okI y) :
    Calls Try.prog 5 #[.slice a ls.length cap, .slice b m.length bcap] w fun e w' => e = .returned (.bool true) ∧ Below w.heap.size w w' := by
  have HOK := Lib.hid (show ∀ x ∈ ls ++ [(b, bcap, m)], ∀ y ∈ x.2.2, okI y from fun x hx => by
    rcases List.mem_append.1 hx with h | h
    · exact hok x h
    · rw [List.mem_singleton] at h; rw [h]; exact hok2)
  have HO1 := Lib.hid hok
  clear hok hok2
  go_enter Try.func5, Try.ntmps5
  have hsr := hs.row
  have hse := hs.each
  have HM := Lib.hid hm
  clear hs
  have hll : (ls.map partA).length = ls.length * 1 := by simp
  have hLl : 0 + ls.length + 1 = (ls ++ [(b, bcap, m)]).length := by simp
  have HLL := Lib.hid hLl
  clear hLl
  go_wp2_with (first
    | (go_at_call 8; refine (awake_any _).mono ?_; rintro e w1 ⟨rfl, hb1⟩)
    | (at_builtin; refine wpList_append_rowW rfl _ _ 26 29 elSlA rfl w1.heap.size _ 0 [] rfl (World.ownsRow_nil _ _ _ _) a ls.length cap (ls.map partA) rfl hll (hsr.below0 hb1) parts_one (by unfold maxLen; omega) (by omega) (Nat.le_refl _) (fun k hk => by cases hk) ?_; intro v2 w2 hA2 hb2)
    | (at_builtin; refine wpList_append_rowW rfl _ _ 26 29 elSlA rfl w1.heap.size _ _ _ rfl (hA2.alloc (Obj.cells #[.slice b m.length bcap] 29)) (some ⟨w2.heap.size, 0, none⟩) 1 1 [partA (b, bcap, m)] rfl rfl (row_block (heap_alloc_new w2 (Obj.cells #[.slice b m.length bcap] 29)) rfl) (by simp [partA]; rfl) (by unfold maxLen; omega) (by omega) (by have := hb2.size; simp; omega) (fun k hk => (hA2.lt k hk).1) ?_; intro v3 w3 hA3 hb3))
  have hLl := HLL.out
  rw [hLl] at hA3
  obtain ⟨a3, c3, rfl, hR3, _⟩ := Row.of_owns hA3
  have hb13 : Below w1.heap.size w1 w3 := hb2.trans (((blw w2 (Obj.cells #[.slice b m.length bcap] 29)).mono hb2.size).trans (hb3.mono (by have := hb2.size; omega)))
  have hw3 : Below w.heap.size w w3 := hb1.trans (hb13.mono hb1.size)
  have hP3 : PartsA w3 a3 (ls ++ [(b, bcap, m)]) := parts_snoc hR3 (fun y hy => (hse y hy).below hw3) (HM.out.below hw3)
  have HLF := Lib.hid (lst_snoc ls (b, bcap, m))
  have HGR := greatJ_any hP3 c3 (by rw [← hLl]; omega) (fun x hx => by
    have := (hP3.each x hx).le; have := (hP3.each x hx).mx; unfold maxLen at *; omega)
  clear hA3 hb2 hb3 hA2 hb13 hR3 hll
  obtain ⟨L, hL⟩ : ∃ L, ls ++ [(b, bcap, m)] = L := ⟨_, rfl⟩
  rw [hL] at hP3 HGR HLF HOK
  rw [hL]
  have HL := Lib.hid hL
  clear hL hLl
  go_wp2_with fail
  go_at_call 15
  refine HGR.mono ?_
  rintro e w4 ⟨⟨r, rfl, hr⟩, hb4⟩
  have hw4 := hw3.trans (hb4.mono hw3.size)
  cases r
  case true =>
    go_wp2
    go_ret
    exact ⟨rfl, hw4⟩
  case false =>
    have h200 := hr rfl
    have hlenL : L.length ≤ 1000000 := by omega
    have HL2 : ∀ x ∈ L, x.2.2.length ≤ 1000000 := fun x hx => by
      obtain ⟨j, hj, rfl⟩ := List.getElem_of_mem hx
      have := h200.2 j hj
      omega
    have hml : m.length ≤ 1000000 := by
      have := HL2 (b, bcap, m) (by rw [← HL.out]; simp)
      exact this
    have hlenl : ls.length ≤ 1000000 := by
      have := congrArg List.length HL.out
      rw [List.length_append] at this
      omega
    have HO2 := HOK.out
    have hl2 : ∀ x ∈ ls, x.2.2.length ≤ 1000000 := fun x hx => HL2 x (by rw [← HL.out]; exact List.mem_append_left _ hx)
    have hPl : PartsA w a ls := ⟨hsr, hse⟩
    have HS := more_s (flatJ (lstA ls)) m
    have HB1 := chosen_bound hlenl hl2
    have HB2 := chosen_bound hlenL HL2
    have hLF := HLF.out
    have HO1' := HO1.out
    have hHM := HM.out
    obtain ⟨A, hA⟩ : ∃ A, chosenJ (flatJ (lstA ls)) = A := ⟨_, rfl⟩
    obtain ⟨B, hB⟩ : ∃ B, chosenJ (flatJ (lstA L)) = B := ⟨_, rfl⟩
    rw [hA, ← hLF, hB] at HS
    rw [hA] at HB1
    rw [hB] at HB2
    have hag : agreeJ (flatJ (lstA L)) = true → agreeJ (flatJ (lstA ls)) = true := fun h => agree_less (by rw [hLF] at h; exact h)
    generalize cntM (flatJ (lstA ls)) B = c at HS
    generalize isF (flatJ (lstA ls)) = p at HS
    obtain ⟨g, hg⟩ : ∃ g, agreeJ (flatJ (lstA L)) = g := ⟨_, rfl⟩
    have HAG := Lib.hid hag
    have HG := Lib.hid hg
    have HA := Lib.hid hA
    have HB := Lib.hid hB
    have H2 := Lib.hid HL2
    have H2l := Lib.hid hl2
    have HPl := Lib.hid hPl
    have HP3 := Lib.hid (hP3.below hb4)
    have HO2' := Lib.hid HO2
    have HSH := Lib.hid HS
    clear hag hg hA hB hsr hse hPl hP3 HLF hLF HL HO2 HL2 hl2 hr h200 hb1 hb4 HGR hlen HLL HS
    cases g
    case false =>
      go_wp2_with fail
      go_at_call 13
      refine (agreeG HP3.out c3 hlenL H2.out HO2'.out HG.out).mono ?_
      rintro e w5 ⟨rfl, hb5⟩
      have hw5 := hw4.trans (hb5.mono hw4.size)
      go_wp2_with fail
      go_at_call 12
      refine (chosenG (HPl.out.below hw5) cap hlenl H2l.out HO1.out HA.out).mono ?_
      rintro e w6 ⟨⟨aA, cA, rfl, hRA⟩, hb6⟩
      have hw6 := hw5.trans (hb6.mono hw5.size)
      go_wp2_with fail
      go_at_call 12
      refine (chosenG (HP3.out.below (hb5.trans (hb6.mono hb5.size))) c3 hlenL H2.out HO2'.out HB.out).mono ?_
      rintro e w7 ⟨⟨aB, cB, rfl, hRB⟩, hb7⟩
      have hw7 := hw6.trans (hb7.mono hw6.size)
      have hRA7 := hRA.below0 hb7
      have hRm := HM.out.row.below0 hw7
      clear hb5 hb6 hb7 hw4 hw5 hw6 hRA HPl HP3 H2 H2l HO2' HO1 HA HB HAG HG HM hm hHM
      go_wp2
      go_loopw [8, 9] (fun t i wr => ∃ k : Nat, k ≤ B.length ∧ i = .int .i64 k ∧ t = .int .i64 (c k) ∧ Below w7.heap.size w7 wr) (fun _ i _ => B.length - (Go.RowKit.intOf i).toNat)
      case atStart => exact ⟨0, by omega, rfl, by rw [HSH.out.zero]; rfl, Below.refl _ _⟩
      case round =>
        obtain ⟨k, hk, rfl, rfl, hbr⟩ := hrel
        have hcA := HSH.out.le k
        by_cases hlt : k < B.length
        · have HI1 := Lib.hid (show k + 1 ≤ B.length by omega)
          by_cases hp : p B[k] = true
          · obtain ⟨hc, he, hn⟩ := HSH.out.yes k hlt hp
            obtain ⟨b1, o1, rfl, hbl1, x0, x1, x2, x3, x4, x5, x6, x7⟩ := ap_cells (hRA7.below0 hbr) hc
            obtain ⟨b2, o2, rfl, hbl2, y0, y1, y2, y3, y4, y5, y6, y7⟩ := ap_cells (hRB.below0 hbr) hlt
            rw [he] at x0 x1 x2 x3 x4 x5 x6 x7
            have HN := Lib.hid hn
            clear hp he hn
            generalize B[k] = y at *
            have hne := fun w => run_eqA y y w
            rw [eqA_iff.2 rfl] at hne
            have hgu := fun p q w => run_gqA p q (apA y) (apA y) w
            generalize c k = ck at *
            obtain ⟨i1, ⟨kd, cl, sq, ⟨ok, key, old, val⟩⟩⟩ := y
            simp only at x0 x1 x2 x3 x4 x5 x6 x7 y0 y1 y2 y3 y4 y5 y6 y7
            simp only [apA] at hne hgu
            go_wp2
            go_region
            all_goals go_wp2
            all_goals go_roundw
            case rel => exact ⟨k + 1, HI1.out, by go_num, by rw [HN.out]; go_num, hbr.drew⟩
            case measure => have := HI1.out; simp [Go.RowKit.intOf]; omega
          · have hp' : p B[k] = false := by simpa using hp
            have HN := Lib.hid (HSH.out.no k hlt hp')
            obtain ⟨y, hy⟩ : ∃ y, B[k]'hlt = y := ⟨_, rfl⟩
            have hnew := HSH.out.new k hlt hp' y hy
            by_cases hc : c k < A.length
            · have hold := HSH.out.old k hlt (c k) hc hp'
              obtain ⟨b1, o1, rfl, hbl1, x0, x1, x2, x3, x4, x5, x6, x7⟩ := ap_cells (hRA7.below0 hbr) hc
              obtain ⟨b2, o2, rfl, hbl2, y0, y1, y2, y3, y4, y5, y6, y7⟩ := ap_cells (hRB.below0 hbr) hlt
              rw [hy] at hold y0 y1 y2 y3 y4 y5 y6 y7
              have HNEW := Lib.hid hnew
              have HY := Lib.hid hy
              clear hp hp' hnew hy
              generalize A[c k] = x at *
              have hne := fun w => run_eqA x y w
              rw [hold] at hne
              have hgu := fun p q w => run_gqA p q (apA x) (apA y) w
              clear hold
              generalize c k = ck at *
              simp only [apA] at hne hgu
              go_wp2
              go_region
              all_goals
                go_wp2
                go_loopw [10, 11] (fun fd i wr2 => ∃ j : Nat, j ≤ m.length ∧ i = .int .i64 j ∧ fd = .bool ((m.take j).any (fun z => eqA z y)) ∧ Below w7.heap.size w7 wr2) (fun _ i _ => m.length - (Go.RowKit.intOf i).toNat)
                case atStart => exact ⟨0, by omega, rfl, by rw [any_none], hbr.drew⟩
                case round =>
                  obtain ⟨j, hj, rfl, rfl, hbr2⟩ := hrel
                  by_cases hltj : j < m.length
                  · have hsn := any_snoc (p := fun z => eqA z y) hltj
                    obtain ⟨b3, o3, rfl, hbl3, u0, u1, u2, u3, u4, u5, u6, u7⟩ := ap_cells (hRm.below0 hbr2) hltj
                    obtain ⟨b4, o4, e4, hbl4, z0, z1, z2, z3, z4, z5, z6, z7⟩ := ap_cells (hRB.below0 hbr2) hlt
                    rw [HY.out] at z0 z1 z2 z3 z4 z5 z6 z7
                    generalize (m.take j).any (fun z => eqA z y) = q at *
                    have HSN := Lib.hid hsn
                    clear hsn
                    cases q
                    case true =>
                      have HSN2 := Lib.hid (show (m.take (j + 1)).any (fun z => eqA z y) = true by rw [HSN.out]; rfl)
                      go_wp2
                      go_region
                      all_goals go_wp2
                      all_goals go_roundw
                      case rel => exact ⟨j + 1, by omega, by go_num, by rw [HSN2.out], hbr2.drew⟩
                      case measure => simp [Go.RowKit.intOf]; omega
                    case false =>
                      obtain ⟨r, hr⟩ : ∃ r, eqA m[j] y = r := ⟨_, rfl⟩
                      have HSN2 := Lib.hid (show (m.take (j + 1)).any (fun z => eqA z y) = r by rw [HSN.out, ← hr]; rfl)
                      have hne := fun w => run_eqA m[j] y w
                      rw [hr] at hne
                      have hgu := fun p q w => run_gqA p q (apA m[j]) (apA y) w
                      clear hr HSN
                      generalize m[j] = z at *
                      simp only [apA] at hne hgu
                      cases e4
                      go_wp2
                      go_region
                      all_goals go_wp2
                      all_goals go_roundw
                      case rel => exact ⟨j + 1, by omega, by go_num, by rw [HSN2.out], hbr2.drew⟩
                      case measure => simp [Go.RowKit.intOf]; omega
                  · obtain rfl : j = m.length := by omega
                    rw [List.take_length, HNEW.out]
                    go_wp2
                    go_roundw
                    case rel => exact ⟨k + 1, HI1.out, by go_num, by rw [HN.out], hbr2⟩
                    case measure => have := HI1.out; simp [Go.RowKit.intOf]; omega
            · have HNEW := Lib.hid hnew
              have HY := Lib.hid hy
              clear hp hp' hnew hy
              generalize c k = ck at *
              have hdrew : ∃ w8, wr = w8 := ⟨_, rfl⟩
              go_wp2
              go_region
              all_goals
                go_wp2
                go_loopw [10, 11] (fun fd i wr2 => ∃ j : Nat, j ≤ m.length ∧ i = .int .i64 j ∧ fd = .bool ((m.take j).any (fun z => eqA z y)) ∧ Below w7.heap.size w7 wr2) (fun _ i _ => m.length - (Go.RowKit.intOf i).toNat)
                case atStart => exact ⟨0, by omega, rfl, by rw [any_none], hbr.drew⟩
                case round =>
                  obtain ⟨j, hj, rfl, rfl, hbr2⟩ := hrel
                  by_cases hltj : j < m.length
                  · have hsn := any_snoc (p := fun z => eqA z y) hltj
                    obtain ⟨b3, o3, rfl, hbl3, u0, u1, u2, u3, u4, u5, u6, u7⟩ := ap_cells (hRm.below0 hbr2) hltj
                    obtain ⟨b4, o4, e4, hbl4, z0, z1, z2, z3, z4, z5, z6, z7⟩ := ap_cells (hRB.below0 hbr2) hlt
                    rw [HY.out] at z0 z1 z2 z3 z4 z5 z6 z7
                    generalize (m.take j).any (fun z => eqA z y) = q at *
                    have HSN := Lib.hid hsn
                    clear hsn
                    cases q
                    case true =>
                      have HSN2 := Lib.hid (show (m.take (j + 1)).any (fun z => eqA z y) = true by rw [HSN.out]; rfl)
                      go_wp2
                      go_region
                      all_goals go_wp2
                      all_goals go_roundw
                      case rel => exact ⟨j + 1, by omega, by go_num, by rw [HSN2.out], hbr2.drew⟩
                      case measure => simp [Go.RowKit.intOf]; omega
                    case false =>
                      obtain ⟨r, hr⟩ : ∃ r, eqA m[j] y = r := ⟨_, rfl⟩
                      have HSN2 := Lib.hid (show (m.take (j + 1)).any (fun z => eqA z y) = r by rw [HSN.out, ← hr]; rfl)
                      have hne := fun w => run_eqA m[j] y w
                      rw [hr] at hne
                      have hgu := fun p q w => run_gqA p q (apA m[j]) (apA y) w
                      clear hr HSN
                      generalize m[j] = z at *
                      simp only [apA] at hne hgu
                      cases e4
                      go_wp2
                      go_region
                      all_goals go_wp2
                      all_goals go_roundw
                      case rel => exact ⟨j + 1, by omega, by go_num, by rw [HSN2.out], hbr2.drew⟩
                      case measure => simp [Go.RowKit.intOf]; omega
                  · obtain rfl : j = m.length := by omega
                    rw [List.take_length, HNEW.out]
                    go_wp2
                    go_roundw
                    case rel => exact ⟨k + 1, HI1.out, by go_num, by rw [HN.out], hbr2⟩
                    case measure => have := HI1.out; simp [Go.RowKit.intOf]; omega
        · obtain rfl : k = B.length := by omega
          have hce := HSH.out.all
          rw [hce]
          clear hce
          go_wp2
          go_ret
          exact ⟨ret_bool (by simp), hw7.trans (hbr.mono hw7.size)⟩
    case true =>
      go_wp2_with fail
      go_at_call 13
      refine (agreeG HP3.out c3 hlenL H2.out HO2'.out HG.out).mono ?_
      rintro e w5a ⟨rfl, hb5a⟩
      go_wp2_with fail
      go_at_call 13
      refine (agreeG (HPl.out.below (hw4.trans (hb5a.mono hw4.size))) cap hlenl H2l.out HO1.out (HAG.out HG.out)).mono ?_
      rintro e w5 ⟨rfl, hb5b⟩
      have hb5 := hb5a.trans (hb5b.mono hb5a.size)
      clear hb5a hb5b
      have hw5 := hw4.trans (hb5.mono hw4.size)
      go_wp2_with fail
      go_at_call 12
      refine (chosenG (HPl.out.below hw5) cap hlenl H2l.out HO1.out HA.out).mono ?_
      rintro e w6 ⟨⟨aA, cA, rfl, hRA⟩, hb6⟩
      have hw6 := hw5.trans (hb6.mono hw5.size)
      go_wp2_with fail
      go_at_call 12
      refine (chosenG (HP3.out.below (hb5.trans (hb6.mono hb5.size))) c3 hlenL H2.out HO2'.out HB.out).mono ?_
      rintro e w7 ⟨⟨aB, cB, rfl, hRB⟩, hb7⟩
      have hw7 := hw6.trans (hb7.mono hw6.size)
      have hRA7 := hRA.below0 hb7
      have hRm := HM.out.row.below0 hw7
      clear hb5 hb6 hb7 hw4 hw5 hw6 hRA HPl HP3 H2 H2l HO2' HO1 HA HB HAG HG HM hm hHM
      go_wp2
      go_loopw [8, 9] (fun t i wr => ∃ k : Nat, k ≤ B.length ∧ i = .int .i64 k ∧ t = .int .i64 (c k) ∧ Below w7.heap.size w7 wr) (fun _ i _ => B.length - (Go.RowKit.intOf i).toNat)
      case atStart => exact ⟨0, by omega, rfl, by rw [HSH.out.zero]; rfl, Below.refl _ _⟩
      case round =>
        obtain ⟨k, hk, rfl, rfl, hbr⟩ := hrel
        have hcA := HSH.out.le k
        by_cases hlt : k < B.length
        · have HI1 := Lib.hid (show k + 1 ≤ B.length by omega)
          by_cases hp : p B[k] = true
          · obtain ⟨hc, he, hn⟩ := HSH.out.yes k hlt hp
            obtain ⟨b1, o1, rfl, hbl1, x0, x1, x2, x3, x4, x5, x6, x7⟩ := ap_cells (hRA7.below0 hbr) hc
            obtain ⟨b2, o2, rfl, hbl2, y0, y1, y2, y3, y4, y5, y6, y7⟩ := ap_cells (hRB.below0 hbr) hlt
            rw [he] at x0 x1 x2 x3 x4 x5 x6 x7
            have HN := Lib.hid hn
            clear hp he hn
            generalize B[k] = y at *
            have hne := fun w => run_eqA y y w
            rw [eqA_iff.2 rfl] at hne
            have hgu := fun p q w => run_gqA p q (apA y) (apA y) w
            generalize c k = ck at *
            obtain ⟨i1, ⟨kd, cl, sq, ⟨ok, key, old, val⟩⟩⟩ := y
            simp only at x0 x1 x2 x3 x4 x5 x6 x7 y0 y1 y2 y3 y4 y5 y6 y7
            simp only [apA] at hne hgu
            go_wp2
            go_region
            all_goals go_wp2
            all_goals go_roundw
            case rel => exact ⟨k + 1, HI1.out, by go_num, by rw [HN.out]; go_num, hbr.drew⟩
            case measure => have := HI1.out; simp [Go.RowKit.intOf]; omega
          · have hp' : p B[k] = false := by simpa using hp
            have HN := Lib.hid (HSH.out.no k hlt hp')
            obtain ⟨y, hy⟩ : ∃ y, B[k]'hlt = y := ⟨_, rfl⟩
            have hnew := HSH.out.new k hlt hp' y hy
            by_cases hc : c k < A.length
            · have hold := HSH.out.old k hlt (c k) hc hp'
              obtain ⟨b1, o1, rfl, hbl1, x0, x1, x2, x3, x4, x5, x6, x7⟩ := ap_cells (hRA7.below0 hbr) hc
              obtain ⟨b2, o2, rfl, hbl2, y0, y1, y2, y3, y4, y5, y6, y7⟩ := ap_cells (hRB.below0 hbr) hlt
              rw [hy] at hold y0 y1 y2 y3 y4 y5 y6 y7
              have HNEW := Lib.hid hnew
              have HY := Lib.hid hy
              clear hp hp' hnew hy
              generalize A[c k] = x at *
              have hne := fun w => run_eqA x y w
              rw [hold] at hne
              have hgu := fun p q w => run_gqA p q (apA x) (apA y) w
              clear hold
              generalize c k = ck at *
              simp only [apA] at hne hgu
              go_wp2
              go_region
              all_goals
                go_wp2
                go_loopw [10, 11] (fun fd i wr2 => ∃ j : Nat, j ≤ m.length ∧ i = .int .i64 j ∧ fd = .bool ((m.take j).any (fun z => eqA z y)) ∧ Below w7.heap.size w7 wr2) (fun _ i _ => m.length - (Go.RowKit.intOf i).toNat)
                case atStart => exact ⟨0, by omega, rfl, by rw [any_none], hbr.drew⟩
                case round =>
                  obtain ⟨j, hj, rfl, rfl, hbr2⟩ := hrel
                  by_cases hltj : j < m.length
                  · have hsn := any_snoc (p := fun z => eqA z y) hltj
                    obtain ⟨b3, o3, rfl, hbl3, u0, u1, u2, u3, u4, u5, u6, u7⟩ := ap_cells (hRm.below0 hbr2) hltj
                    obtain ⟨b4, o4, e4, hbl4, z0, z1, z2, z3, z4, z5, z6, z7⟩ := ap_cells (hRB.below0 hbr2) hlt
                    rw [HY.out] at z0 z1 z2 z3 z4 z5 z6 z7
                    generalize (m.take j).any (fun z => eqA z y) = q at *
                    have HSN := Lib.hid hsn
                    clear hsn
                    cases q
                    case true =>
                      have HSN2 := Lib.hid (show (m.take (j + 1)).any (fun z => eqA z y) = true by rw [HSN.out]; rfl)
                      go_wp2
                      go_region
                      all_goals go_wp2
                      all_goals go_roundw
                      case rel => exact ⟨j + 1, by omega, by go_num, by rw [HSN2.out], hbr2.drew⟩
                      case measure => simp [Go.RowKit.intOf]; omega
                    case false =>
                      obtain ⟨r, hr⟩ : ∃ r, eqA m[j] y = r := ⟨_, rfl⟩
                      have HSN2 := Lib.hid (show (m.take (j + 1)).any (fun z => eqA z y) = r by rw [HSN.out, ← hr]; rfl)
                      have hne := fun w => run_eqA m[j] y w
                      rw [hr] at hne
                      have hgu := fun p q w => run_gqA p q (apA m[j]) (apA y) w
                      clear hr HSN
                      generalize m[j] = z at *
                      simp only [apA] at hne hgu
                      cases e4
                      go_wp2
                      go_region
                      all_goals go_wp2
                      all_goals go_roundw
                      case rel => exact ⟨j + 1, by omega, by go_num, by rw [HSN2.out], hbr2.drew⟩
                      case measure => simp [Go.RowKit.intOf]; omega
                  · obtain rfl : j = m.length := by omega
                    rw [List.take_length, HNEW.out]
                    go_wp2
                    go_roundw
                    case rel => exact ⟨k + 1, HI1.out, by go_num, by rw [HN.out], hbr2⟩
                    case measure => have := HI1.out; simp [Go.RowKit.intOf]; omega
            · have HNEW := Lib.hid hnew
              have HY := Lib.hid hy
              clear hp hp' hnew hy
              generalize c k = ck at *
              have hdrew : ∃ w8, wr = w8 := ⟨_, rfl⟩
              go_wp2
              go_region
              all_goals
                go_wp2
                go_loopw [10, 11] (fun fd i wr2 => ∃ j : Nat, j ≤ m.length ∧ i = .int .i64 j ∧ fd = .bool ((m.take j).any (fun z => eqA z y)) ∧ Below w7.heap.size w7 wr2) (fun _ i _ => m.length - (Go.RowKit.intOf i).toNat)
                case atStart => exact ⟨0, by omega, rfl, by rw [any_none], hbr.drew⟩
                case round =>
                  obtain ⟨j, hj, rfl, rfl, hbr2⟩ := hrel
                  by_cases hltj : j < m.length
                  · have hsn := any_snoc (p := fun z => eqA z y) hltj
                    obtain ⟨b3, o3, rfl, hbl3, u0, u1, u2, u3, u4, u5, u6, u7⟩ := ap_cells (hRm.below0 hbr2) hltj
                    obtain ⟨b4, o4, e4, hbl4, z0, z1, z2, z3, z4, z5, z6, z7⟩ := ap_cells (hRB.below0 hbr2) hlt
                    rw [HY.out] at z0 z1 z2 z3 z4 z5 z6 z7
                    generalize (m.take j).any (fun z => eqA z y) = q at *
                    have HSN := Lib.hid hsn
                    clear hsn
                    cases q
                    case true =>
                      have HSN2 := Lib.hid (show (m.take (j + 1)).any (fun z => eqA z y) = true by rw [HSN.out]; rfl)
                      go_wp2
                      go_region
                      all_goals go_wp2
                      all_goals go_roundw
                      case rel => exact ⟨j + 1, by omega, by go_num, by rw [HSN2.out], hbr2.drew⟩
                      case measure => simp [Go.RowKit.intOf]; omega
                    case false =>
                      obtain ⟨r, hr⟩ : ∃ r, eqA m[j] y = r := ⟨_, rfl⟩
                      have HSN2 := Lib.hid (show (m.take (j + 1)).any (fun z => eqA z y) = r by rw [HSN.out, ← hr]; rfl)
                      have hne := fun w => run_eqA m[j] y w
                      rw [hr] at hne
                      have hgu := fun p q w => run_gqA p q (apA m[j]) (apA y) w
                      clear hr HSN
                      generalize m[j] = z at *
                      simp only [apA] at hne hgu
                      cases e4
                      go_wp2
                      go_region
                      all_goals go_wp2
                      all_goals go_roundw
                      case rel => exact ⟨j + 1, by omega, by go_num, by rw [HSN2.out], hbr2.drew⟩
                      case measure => simp [Go.RowKit.intOf]; omega
                  · obtain rfl : j = m.length := by omega
                    rw [List.take_length, HNEW.out]
                    go_wp2
                    go_roundw
                    case rel => exact ⟨k + 1, HI1.out, by go_num, by rw [HN.out], hbr2⟩
                    case measure => have := HI1.out; simp [Go.RowKit.intOf]; omega
        · obtain rfl : k = B.length := by omega
          have hce := HSH.out.all
          rw [hce]
          clear hce
          go_wp2
          go_ret
          exact ⟨ret_bool (by simp), hw7.trans (hbr.mono hw7.size)⟩
end Go.Proofs.Ytkkoookmnnmiiaa

