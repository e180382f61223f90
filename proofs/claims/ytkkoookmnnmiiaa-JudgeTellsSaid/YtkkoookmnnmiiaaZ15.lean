/- Texts that the claim leans on, part 15: J41, J43, J44, J45, J46, J42, J47, I9. -/
import Derived.Test.YtkkoookmnnmiiaaZ1
import Derived.Test.YtkkoookmnnmiiaaZ2
import Derived.Test.YtkkoookmnnmiiaaZ3
import Derived.Test.YtkkoookmnnmiiaaZ4
import Derived.Test.YtkkoookmnnmiiaaZ5
import Derived.Test.YtkkoookmnnmiiaaZ6
import Derived.Test.YtkkoookmnnmiiaaZ7
import Derived.Test.YtkkoookmnnmiiaaZ8
import Derived.Test.YtkkoookmnnmiiaaZ9
import Derived.Test.YtkkoookmnnmiiaaZ10
import Derived.Test.YtkkoookmnnmiiaaZ11
import Derived.Test.YtkkoookmnnmiiaaZ12
import Derived.Test.YtkkoookmnnmiiaaZ13
import Derived.Test.YtkkoookmnnmiiaaRows
import Derived.WalkKit
import Derived.WalkSpells
import Derived.WalkLawsBesides
import Derived.Handy
import Derived.Deep.QuietTactic
import Derived.BigQuiet
import Derived.Deep.DeepCutAuto
import Derived.Lib.Hide
import Derived.RegionTactic
import Derived.ChangeAlike
import Derived.Laws.ResultCell
import Derived.Outline
import Derived.LoopN
import Derived.Deep.RegionHeld3
import Derived.ChangeKeysEq
import Derived.Laws.EntriesVeiled
import Derived.StillTailTactics
import Derived.Lib.Overlaps
import Derived.Deep.RegionWith
import Derived.Laws.Rows
import Derived.Deep.Quiet
import Derived.ProofKit
import Derived.OpenShut
import Derived.Laws.Strings
import Derived.Laws.CopyOwn
import Derived.Laws.CopyRow
import Derived.Laws.NewBlocks
import Derived.Deep.RegionLaw
import Derived.Shelf.Abstract
import Derived.Shelf.RegionOpen
import Derived.OwnWalkIn
import Derived.TacticsInMore
import Derived.LoopNIn
import Derived.LoopIn
import Derived.Maps.AppendAt
import Derived.Maps.OwnIn
import Derived.Maps.Keyed
import Derived.Maps.Views
import Derived.Shelf.SlIterI.Nil
import Derived.Shelf.SortM.Plain
import Derived.Shelf.SortM.SortNone
import Derived.RangeFuncNested
import Derived.RangeFuncBound
import Derived.RangeFuncCalls
import Derived.RangeFuncLeaves
import Derived.RangeFuncBox
import Derived.RangeFuncRecord
import Derived.Maps.OwnSet
import Derived.Lib.SlKeysI
import Derived.Deep.Slices
import Derived.Deep.Strs
import Derived.Lib.SmallJoins
namespace Go.Proofs.Ytkkoookmnnmiiaa
open Go.RowKit

set_option maxRecDepth 100000 in
theorem rnone_any (e : En) (w : World) : Calls Try.prog 35 #[.agg (enA e)] w fun en w' => en = .returned (.bool (noneE e)) ∧ Below w.heap.size w w' := by
  have hz : noneE e = eqE e zeroE := rfl
  rw [hz, ← eqE_lit]
  obtain ⟨kd, cl, sq, ⟨ok, key, old, val⟩⟩ := e
  have hempty : (⟨#[]⟩ : Tx).toList = [] := by decide +kernel
  unfold enA zeroE
  simp only [hempty]
  obtain ⟨r, hr⟩ : ∃ r, (kd == 0 && cl == 0 && sq == 0 && (ok == 0 && key.toList == [] && old.toList == [] && val.toList == [])) = r := ⟨_, rfl⟩
  rw [hr]
  have HR := Lib.hid hr
  clear hz hempty hr
  go_enter Try.func35, Try.ntmps35
  go_wp2
  all_goals
    go_ret
    exact ⟨ret_bool (by rw [← HR.out]; simp [*]), by (repeat' (first | (with_reducible exact Below.refl _ _) | (with_reducible assumption) | (with_reducible refine Below.alloc ?_ ?_ _) | (with_reducible refine Below.drew ?_) | (with_reducible refine below_drewN ?_ _) | (with_reducible refine Below.setCell ?_ ?_ _) | (with_reducible refine Below.trans ?_ (by assumption)) | go_size))⟩
set_option maxRecDepth 100000 in
set_option maxHeartbeats 2000000 in
theorem rsame31_any {a b : Option Addr} {l m : List Ap} {c d : Nat} {w : World} (ha : Row w a (aps l)) (hb : Row w b (aps m)) (hl : l.length ≤ 1000000000000) : Calls Try.prog 19 #[.slice a l.length c, .slice b m.length d] w fun e w' => (∃ r, e = .returned (.bool r) ∧ (r = true ↔ l = m)) ∧ Below w.heap.size w w' := by
  by_cases hlm : l.length = m.length
  · have hi0 : ((l.length : Int) == (m.length : Int)) = true := by rw [beq_iff_eq]; omega
    go_enter Try.func19, Try.ntmps19
    go_wp2
    go_loopw [5] (fun i wr => ∃ k : Nat, k ≤ l.length ∧ i = .int .i64 k ∧ Hid (l.take k = m.take k) ∧ Below w.heap.size w wr) (fun i _ => l.length - (Go.RowKit.intOf i).toNat)
    case atStart => exact ⟨0, by omega, rfl, Lib.hid rfl, Below.refl _ _⟩
    case round =>
      obtain ⟨k, hk, rfl, hT, hbr⟩ := hrel
      by_cases hlt : k < l.length
      · have hlt2 : k < m.length := by omega
        obtain ⟨b1, o1, rfl, hb1, c0, c1, c2, c3, c4, c5, c6, c7⟩ := ap_cells (ha.below0 hbr) hlt
        obtain ⟨b2, o2, rfl, hb2, d0, d1, d2, d3, d4, d5, d6, d7⟩ := ap_cells (hb.below0 hbr) hlt2
        have HT2 := Lib.hid (fun e => take_eq hlt hlt2 hT.out e)
        have HLM := Lib.hid (fun (e : l = m) => show l[k] = m[k] by subst e; rfl)
        have HI1 := Lib.hid (show k + 1 ≤ l.length by omega)
        obtain ⟨r, hr⟩ : ∃ r, eqA l[k] m[k] = r := ⟨_, rfl⟩
        have HR := Lib.hid hr
        clear hT hr
        generalize l[k] = x at *
        generalize m[k] = y at *
        have hne := fun w => run_neA x y w
        have hgu := fun p q w => run_gA p q (apA x) (apA y) w
        rw [HR.out] at hne
        obtain ⟨i0, ⟨kd0, cl0, sq0, ⟨ok0, key0, old0, val0⟩⟩⟩ := x
        obtain ⟨i1, ⟨kd, cl, sq, ⟨ok, key, old, val⟩⟩⟩ := y
        simp only at c0 c1 c2 c3 c4 c5 c6 c7 d0 d1 d2 d3 d4 d5 d6 d7
        simp only [apA] at hne hgu
        cases r
        case true =>
          go_wp2
          go_region
          all_goals go_wp2
          all_goals go_roundw
          case rel => exact ⟨k + 1, HI1.out, by go_num, Lib.hid (HT2.out (eqA_iff.1 HR.out)), hbr.drew⟩
          case measure => have := HI1.out; simp [Go.RowKit.intOf]; omega
        case false =>
          go_wp2
          go_region
          all_goals go_wp2
          all_goals go_ret
          exact ⟨⟨false, rfl, fun h => (by cases h), fun h => (by have := eqA_iff.2 (HLM.out h); rw [HR.out] at this; cases this)⟩, hbr.drew⟩
      · obtain rfl : k = l.length := by omega
        have he := hT.out
        rw [List.take_length] at he
        rw [hlm, List.take_length] at he
        go_wp2
        go_ret
        exact ⟨⟨true, rfl, fun _ => he, fun _ => rfl⟩, hbr⟩
  · have hi0 : ((l.length : Int) == (m.length : Int)) = false := by rw [beq_eq_false_iff_ne]; omega
    go_enter Try.func19, Try.ntmps19
    go_wp2
    go_ret
    exact ⟨⟨false, rfl, fun h => (by cases h), fun h => absurd (congrArg List.length h) hlm⟩, Below.refl _ _⟩
theorem apA_new (x : Ap) : (Value.agg (apA x)).cells = apA x ∧ (apA x).size = 8 ∧ ∀ u ∈ (apA x).toList, u.oneCell' = true := ⟨rfl, rfl, ap_one x⟩
theorem apA_cells {w : World} {g : Nat} {x : Ap} {T : TypeId} (h : w.heap[g]? = some (.cells (apA x) T (0, 0))) : w.cell? ⟨g, 0, none⟩ = some (.int .i64 x.idx) ∧ w.cell? ⟨g, 1, none⟩ = some (.int .u8 x.e.kind) ∧ w.cell? ⟨g, 2, none⟩ = some (.int .i64 x.e.cli) ∧ w.cell? ⟨g, 3, none⟩ = some (.int .i64 x.e.seq) ∧ w.cell? ⟨g, 4, none⟩ = some (.int .u8 x.e.op.kind) ∧ w.cell? ⟨g, 5, none⟩ = some (.string x.e.op.key) ∧ w.cell? ⟨g, 6, none⟩ = some (.string x.e.op.old) ∧ w.cell? ⟨g, 7, none⟩ = some (.string x.e.op.val) :=
  ⟨blk_cell h 0 _ rfl, blk_cell h 1 _ rfl, blk_cell h 2 _ rfl, blk_cell h 3 _ rfl, blk_cell h 4 _ rfl, blk_cell h 5 _ rfl, blk_cell h 6 _ rfl, blk_cell h 7 _ rfl⟩
theorem okR_cases0 {l : List Ap} {x : Ap} {b1 b2 bn bm : Bool} (h1 : decide (x.idx < 1) = b1) (h2 : decide (1099511627776 < x.idx) = b2) (h3 : noneE x.e = bn) (h4 : mayE x.e = bm) : okR l 0 x = (!b1 && (!b2 && (bn || bm))) := by
  subst h1 h2 h3 h4
  rw [okR_zero]
  unfold okF big40
  rw [Bool.eq_iff_iff]
  simp
theorem okR_casesS {l : List Ap} {x : Ap} {j : Nat} (hj : j < l.length) {p : Int} (hp : l[j].idx = p) {b1 b2 bn bm b3 b4 : Bool} (h1 : decide (x.idx < 1) = b1) (h2 : decide (1099511627776 < x.idx) = b2) (h3 : noneE x.e = bn) (h4 : mayE x.e = bm) (h5 : decide (x.idx ≤ p) = b3) (h6 : (x.idx - 1 != p) = b4) : okR l (j + 1) x = (!b1 && (!b2 && (bn || bm)) && (if bn = true then !b3 else !b4)) := by
  subst h1 h2 h3 h4 h5 h6 hp
  rw [okR_succ hj]
  unfold okF big40
  rw [Bool.eq_iff_iff]
  cases noneE x.e
  · simp
    omega
  · simp
end Go.Proofs.Ytkkoookmnnmiiaa

namespace Go.Proofs.Ytkkoookmnnmiiaa
open Go.RowKit

def pokJ (x y : Ap) : Bool := !((x.idx == y.idx) && (!noneE x.e && (!noneE y.e && !eqE x.e y.e)))
theorem pok_comm (x y : Ap) : pokJ x y = pokJ y x := by
  unfold pokJ
  have h1 : (x.idx == y.idx) = (y.idx == x.idx) := by rw [Bool.eq_iff_iff]; simp only [beq_iff_eq]; exact eq_comm
  have h2 : eqE x.e y.e = eqE y.e x.e := by rw [Bool.eq_iff_iff, eqE_iff, eqE_iff]; exact eq_comm
  rw [h1, h2]
  cases noneE x.e <;> cases noneE y.e <;> rfl
theorem pok_iff {x y : Ap} : pokJ x y = true ↔ (x.idx = y.idx → noneE x.e = false → noneE y.e = false → x.e = y.e) := by
  unfold pokJ
  by_cases h3 : x.idx = y.idx
  · cases h1 : noneE x.e <;> cases h2 : noneE y.e <;> simp [h3, eqE_iff]
  · simp [h3]
/-- Two lists have no two entries that differ. -/
def allP (a b : List Ap) : Prop := ∀ x ∈ a, ∀ y ∈ b, pokJ x y = true
theorem agree_pairs (ls : List PartA) : agreeJ (flatJ (lstA ls)) = true ↔ ∀ i k, ∀ (hi : i < ls.length) (hk : k ≤ i), allP ls[i].2.2 ls[k].2.2 := by
  rw [agree_iff]
  constructor
  · intro h i k hi hk x hx y hy
    rw [pok_iff]
    intro e n1 n2
    exact h x (flat_mem.2 ⟨⟨_, List.mem_map.2 ⟨ls[i], List.getElem_mem _, rfl⟩, hx⟩, n1⟩) y (flat_mem.2 ⟨⟨_, List.mem_map.2 ⟨ls[k], List.getElem_mem _, rfl⟩, hy⟩, n2⟩) e
  · intro h x hx y hy e
    obtain ⟨⟨a, ha, hxa⟩, n1⟩ := flat_mem.1 hx
    obtain ⟨⟨b, hb, hyb⟩, n2⟩ := flat_mem.1 hy
    obtain ⟨p, hp, rfl⟩ := List.mem_map.1 ha
    obtain ⟨q, hq, rfl⟩ := List.mem_map.1 hb
    obtain ⟨i, hi, rfl⟩ := List.getElem_of_mem hp
    obtain ⟨k, hk, rfl⟩ := List.getElem_of_mem hq
    by_cases hik : k ≤ i
    · exact pok_iff.1 (h i k hi hik x hxa y hyb) e n1 n2
    · have := h k i hk (by omega) y hyb x hxa
      rw [pok_comm] at this
      exact pok_iff.1 this e n1 n2
theorem agree_bad {ls : List PartA} {i k : Nat} (hi : i < ls.length) (hk : k ≤ i) {x y : Ap} (hx : x ∈ ls[i].2.2) (hy : y ∈ ls[k].2.2) (h : pokJ x y = false) : agreeJ (flatJ (lstA ls)) = false := by
  cases e : agreeJ (flatJ (lstA ls)) with
  | false => rfl
  | true =>
    have := (agree_pairs ls).1 e i k hi hk x hx y hy
    rw [h] at this
    cases this
theorem all_of {a b : List Ap} (h : ∀ i (hi : i < a.length) k (hk : k < b.length), pokJ a[i] b[k] = true) : allP a b := by
  intro x hx y hy
  obtain ⟨i, hi, rfl⟩ := List.getElem_of_mem hx
  obtain ⟨k, hk, rfl⟩ := List.getElem_of_mem hy
  exact h i hi k hk
theorem apA_over (x y : Ap) : 0 + 8 ≤ (apA y).size ∧ (Value.agg (apA x)).cells.size = 8 ∧ (∀ u ∈ (Value.agg (apA x)).cells.toList, u.oneCell' = true) ∧ ((apA y).toList.take 0 ++ (Value.agg (apA x)).cells.toList ++ (apA y).toList.drop (0 + 8)).toArray = apA x := ⟨Nat.le_refl _, rfl, ap_one x, rfl⟩
theorem apA_all (x : Ap) : 0 + 8 ≤ (apA x).size ∧ (apA x).extract 0 (0 + 8) = apA x := ⟨Nat.le_refl _, rfl⟩
set_option maxRecDepth 100000 in
set_option maxHeartbeats 8000000 in
theorem ragree_any {a : Option Addr} {ls : List PartA} {w : World} (h : PartsA w a ls) (cap : Nat) (hlen : ls.length ≤ 1000000) (hlen2 : ∀ x ∈ ls, x.2.2.length ≤ 1000000) : Calls Try.prog 20 #[.slice a ls.length cap] w fun e w' => e = .returned (.bool (agreeJ (flatJ (lstA ls)))) ∧ Below w.heap.size w w' := by
  have HP := Lib.hid h
  have H2 := Lib.hid hlen2
  have HYES := Lib.hid (agree_pairs ls)
  clear h hlen2
  go_enter Try.func20, Try.ntmps20
  go_wp2
  go_loopw [3] (fun v wr => ∃ i : Nat, i ≤ ls.length ∧ v = .int .i64 i ∧ Hid (∀ j k, ∀ (hj : j < ls.length) (hk : k ≤ j), j < i → allP ls[j].2.2 ls[k].2.2) ∧ Below w.heap.size w wr) (fun v _ => ls.length - (Go.RowKit.intOf v).toNat)
  case atStart => exact ⟨0, by omega, rfl, Lib.hid (fun j k hj hk h => absurd h (by omega)), Below.refl _ _⟩
  case round =>
    obtain ⟨i, hi, rfl, hT, hbr⟩ := hrel
    by_cases hlt : i < ls.length
    · obtain ⟨xp, hxp⟩ : ∃ x, ls[i]'hlt = x := ⟨_, rfl⟩
      have HXP := Lib.hid hxp
      obtain ⟨b1, o1, rfl, cx0⟩ := HP.out.at hlt
      have sx0 := HP.out.each _ (List.getElem_mem hlt)
      have lx := H2.out _ (List.getElem_mem hlt)
      have hbad0 := fun k (hk : k ≤ i) x (hx : x ∈ ls[i].2.2) y (hy : y ∈ ls[k].2.2) hb => agree_bad hlt hk hx hy hb
      rw [hxp] at cx0 sx0 lx hbad0
      have HBAD := Lib.hid hbad0
      clear hxp hbad0
      go_wp2
      go_loopw [4] (fun v wr => ∃ k : Nat, k ≤ i + 1 ∧ v = .int .i64 k ∧ Hid (∀ j, ∀ (hj : j < ls.length), j < k → allP xp.2.2 ls[j].2.2) ∧ Below w.heap.size w wr) (fun v _ => ls.length - (Go.RowKit.intOf v).toNat)
      case atStart => exact ⟨0, by omega, rfl, Lib.hid (fun j hj h => absurd h (by omega)), hbr⟩
      case round =>
        obtain ⟨k, hk, rfl, hT2, hbr2⟩ := hrel
        by_cases hltk : k < i + 1
        · have hkl : k < ls.length := by omega
          obtain ⟨yp, hyp⟩ : ∃ y, ls[k]'hkl = y := ⟨_, rfl⟩
          have HYP := Lib.hid hyp
          obtain ⟨b2, o2, e2, cy0⟩ := HP.out.at hkl
          cases e2
          have sy0 := HP.out.each _ (List.getElem_mem hkl)
          have ly := H2.out _ (List.getElem_mem hkl)
          have hbad1 := HBAD.out k (by omega)
          rw [hyp] at cy0 sy0 ly hbad1
          have HBAD1 := Lib.hid hbad1
          have HKI := Lib.hid (show k ≤ i by omega)
          clear hyp hbad1
          obtain ⟨x1, xc, xl⟩ := xp
          obtain ⟨y1, yc, yl⟩ := yp
          simp only at cx0 sx0 lx cy0 sy0 ly HBAD1
          go_wp2
          go_loopw [5] (fun v wr => ∃ p : Nat, p ≤ xl.length ∧ v = .int .i64 p ∧ Hid (∀ j, ∀ (hj : j < xl.length), j < p → ∀ y ∈ yl, pokJ xl[j] y = true) ∧ Below w.heap.size w wr) (fun v _ => xl.length - (Go.RowKit.intOf v).toNat)
          case atStart => exact ⟨0, by omega, rfl, Lib.hid (fun j hj h => absurd h (by omega)), hbr2⟩
          case round =>
            obtain ⟨p, hp, rfl, hT3, hbr3⟩ := hrel
            have cx3 := keepJ hbr3 cx0
            by_cases hltp : p < xl.length
            · obtain ⟨x, hx⟩ : ∃ x, xl[p]'hltp = x := ⟨_, rfl⟩
              have HX := Lib.hid hx
              have HXM := Lib.hid (show x ∈ xl by rw [← hx]; exact List.getElem_mem _)
              have cy3 := keepJ hbr3 cy0
              clear hx
              go_wp2
              go_loopw [6] (fun v wr => ∃ q : Nat, q ≤ yl.length ∧ v = .int .i64 q ∧ Hid (∀ j, ∀ (hj : j < yl.length), j < q → pokJ x yl[j] = true) ∧ Below w.heap.size w wr) (fun v _ => yl.length - (Go.RowKit.intOf v).toNat)
              case atStart => exact ⟨0, by omega, rfl, Lib.hid (fun j hj h => absurd h (by omega)), hbr3⟩
              case round =>
                obtain ⟨q, hq, rfl, hT4, hbr4⟩ := hrel
                have cx4 := keepJ hbr4 cx0
                have cy4 := keepJ hbr4 cy0
                by_cases hltq : q < yl.length
                · obtain ⟨y, hy⟩ : ∃ y, yl[q]'hltq = y := ⟨_, rfl⟩
                  have HYM := Lib.hid (show y ∈ yl by rw [← hy]; exact List.getElem_mem _)
                  have HN4 := Lib.hid (fun (e : pokJ x y = true) => show ∀ j, ∀ (hj : j < yl.length), j < q + 1 → pokJ x yl[j] = true from fun j hj hj2 => by
                    by_cases hjq : j < q
                    · exact hT4.out j hj hjq
                    · have : j = q := by omega
                      subst this
                      rw [hy]
                      exact e)
                  have HB4 := Lib.hid (fun (e : pokJ x y = false) => HBAD1.out x HXM.out y HYM.out e)
                  obtain ⟨xb, xo, exb, hxl, c0, c1, c2, c3, c4, c5, c6, c7⟩ := ap_cells (sx0.row.below0 hbr4) hltp
                  obtain ⟨yb, yo, eyb, hyl, e0, e1, e2, e3, e4, e5, e6, e7⟩ := ap_cells (sy0.row.below0 hbr4) hltq
                  rw [HX.out] at c0 c1 c2 c3 c4 c5 c6 c7
                  rw [hy] at e0 e1 e2 e3 e4 e5 e6 e7
                  rw [exb] at cx4
                  rw [eyb] at cy4
                  clear hT hT2 hT3 hT4 hy exb eyb
                  have hrx : ∀ j u, (apC x)[j]? = some u → wr.cell? ⟨xb, xo + p * 8 + j, none⟩ = some u := fun j u hu => by
                    have hj := (List.getElem?_eq_some_iff.1 hu).1
                    rw [apC_len] at hj
                    match j, hj with
                    | 0, _ => simp [apC, apA] at hu; subst hu; exact c0
                    | 1, _ => simp [apC, apA] at hu; subst hu; exact c1
                    | 2, _ => simp [apC, apA] at hu; subst hu; exact c2
                    | 3, _ => simp [apC, apA] at hu; subst hu; exact c3
                    | 4, _ => simp [apC, apA] at hu; subst hu; exact c4
                    | 5, _ => simp [apC, apA] at hu; subst hu; exact c5
                    | 6, _ => simp [apC, apA] at hu; subst hu; exact c6
                    | 7, _ => simp [apC, apA] at hu; subst hu; exact c7
                  have hry : ∀ j u, (apC y)[j]? = some u → wr.cell? ⟨yb, yo + q * 8 + j, none⟩ = some u := fun j u hu => by
                    have hj := (List.getElem?_eq_some_iff.1 hu).1
                    rw [apC_len] at hj
                    match j, hj with
                    | 0, _ => simp [apC, apA] at hu; subst hu; exact e0
                    | 1, _ => simp [apC, apA] at hu; subst hu; exact e1
                    | 2, _ => simp [apC, apA] at hu; subst hu; exact e2
                    | 3, _ => simp [apC, apA] at hu; subst hu; exact e3
                    | 4, _ => simp [apC, apA] at hu; subst hu; exact e4
                    | 5, _ => simp [apC, apA] at hu; subst hu; exact e5
                    | 6, _ => simp [apC, apA] at hu; subst hu; exact e6
                    | 7, _ => simp [apC, apA] at hu; subst hu; exact e7
                  clear c0 c1 c2 c3 c4 c5 c6 c7 e0 e1 e2 e3 e4 e5 e6 e7
                  go_wp2_with fail
                  go_cut [7, 8] from 38 to 51 (fun v7 v8 wx => ∃ P Q, v7 = .pointer (some ⟨P, 0, none⟩) ∧ v8 = .pointer (some ⟨Q, 0, none⟩) ∧ wx.heap[P]? = some (.cells (apA x) 36 (0, 0)) ∧ wx.heap[Q]? = some (.cells (apA y) 36 (0, 0)) ∧ Below wr.heap.size wr wx)
                  case first =>
                    obtain ⟨B, hB⟩ : ∃ B, wr.heap.size = B := ⟨_, rfl⟩
                    have HX1 : ∀ w', Below B wr w' → w'.cell? ⟨b1, o1 + i, none⟩ = some (.slice (some ⟨xb, xo, none⟩) xl.length xc) := fun w' h => keepJ (by rw [hB]; exact h) cx4
                    have HY1 : ∀ w', Below B wr w' → w'.cell? ⟨b1, o1 + k, none⟩ = some (.slice (some ⟨yb, yo, none⟩) yl.length yc) := fun w' h => keepJ (by rw [hB]; exact h) cy4
                    have HRX : ∀ w', Below B wr w' → ∀ j u, (apC x)[j]? = some u → w'.cell? ⟨xb, xo + p * 8 + j, none⟩ = some u := fun w' h j u hu => keepJ (by rw [hB]; exact h) (hrx j u hu)
                    have HRY : ∀ w', Below B wr w' → ∀ j u, (apC y)[j]? = some u → w'.cell? ⟨yb, yo + q * 8 + j, none⟩ = some u := fun w' h j u hu => keepJ (by rw [hB]; exact h) (hry j u hu)
                    have hb := (Below.refl wr.heap.size wr).drew
                    have hz : wr.heap.size ≤ wr.drew.heap.size := Nat.le_refl _
                    rw [hB] at hb hz
                    have HBB := Lib.hid hB
                    clear hB cx4 cy4 hrx hry hbr4 cx3 cy3 cx0 cy0 sx0 sy0
                    refine wp_region_held_drew (S := fun w' => Below B wr w') (by kernel_rfl) hb (fun hS0 => ?_)
                    generalize wr.drew = x0 at *
                    refine wpAnyH_take (i := 0) (oi := ⟨_, _, _, _, _, _⟩) (v := ?_) rfl (by kernel_rfl) (by kernel_rfl) (by kernel_rfl) (fun _ _ _ h => h) (Or.inl ⟨by rfl, ?_⟩) (by assumption) ?_
                    rotate_left
                    · intro wS hSw
                      go_simp; (try with_reducible rfl)
                    (try simp only [Act.put])
                    (try simp only [List.setIfInBounds_toArray])
                    (try simp only [List.set_cons_succ])
                    (try simp only [List.set_cons_zero])
                    refine wpAnyH_take (i := 1) (oi := ⟨_, _, _, _, _, _⟩) (v := ?_) rfl (by kernel_rfl) (by kernel_rfl) (by kernel_rfl) (fun _ _ _ h => h) (Or.inl ⟨by rfl, ?_⟩) (by assumption) ?_
                    rotate_left
                    · intro wS hSw
                      go_simp; (try with_reducible rfl)
                    (try simp only [Act.put])
                    (try simp only [List.setIfInBounds_toArray])
                    (try simp only [List.set_cons_succ])
                    (try simp only [List.set_cons_zero])
                    refine wpAnyH_take (i := 2) (oi := ⟨_, _, _, _, _, _⟩) (v := ?_) rfl (by kernel_rfl) (by kernel_rfl) (by kernel_rfl) (fun _ _ _ h => h) (Or.inl ⟨by rfl, ?_⟩) (by assumption) ?_
                    rotate_left
                    · intro wS hSw
                      go_simp; (try with_reducible rfl)
                    (try simp only [Act.put])
                    (try simp only [List.setIfInBounds_toArray])
                    (try simp only [List.set_cons_succ])
                    (try simp only [List.set_cons_zero])
                    refine wpAnyH_take (i := 3) (oi := ⟨_, _, _, _, _, _⟩) (v := ?_) rfl (by kernel_rfl) (by kernel_rfl) (by kernel_rfl) (fun _ _ _ h => h) (Or.inl ⟨by rfl, ?_⟩) (by assumption) ?_
                    rotate_left
                    · intro wS hSw
                      have c := HX1 _ hSw; go_simp; (try with_reducible rfl)
                    (try simp only [Act.put])
                    (try simp only [List.setIfInBounds_toArray])
                    (try simp only [List.set_cons_succ])
                    (try simp only [List.set_cons_zero])
                    refine wpAnyH_take (i := 4) (oi := ⟨_, _, _, _, _, _⟩) (v := ?_) rfl (by kernel_rfl) (by kernel_rfl) (by kernel_rfl) (fun _ _ _ h => h) (Or.inl ⟨by rfl, ?_⟩) (by assumption) ?_
                    rotate_left
                    · intro wS hSw
                      go_simp; (try with_reducible rfl)
                    (try simp only [Act.put])
                    (try simp only [List.setIfInBounds_toArray])
                    (try simp only [List.set_cons_succ])
                    (try simp only [List.set_cons_zero])
                    refine wpAnyH_take (i := 5) (oi := ⟨_, _, _, _, _, _⟩) (v := ?_) rfl (by kernel_rfl) (by kernel_rfl) (by kernel_rfl) (fun _ _ _ h => h) (Or.inl ⟨by rfl, ?_⟩) (by assumption) ?_
                    rotate_left
                    · intro wS hSw
                      go_simp; (try with_reducible rfl)
                    (try simp only [Act.put])
                    (try simp only [List.setIfInBounds_toArray])
                    (try simp only [List.set_cons_succ])
                    (try simp only [List.set_cons_zero])
                    refine wpAnyH_take (i := 6) (oi := ⟨_, _, _, _, _, _⟩) (v := .agg (apA x)) rfl (by kernel_rfl) (by kernel_rfl) (by kernel_rfl) (fun _ _ _ h => h) (Or.inl ⟨by rfl, fun wS hSw => ?_⟩) (by assumption) ?_
                    · exact exec_ldC 36 _ ⟨_, _, _, Try.isAgg36, Try.sizeOf36, rfl, rfl, fun j u hu => HRX _ hSw j u (by rw [apC, Array.getElem?_toList]; exact hu)⟩
                    (try simp only [Act.put])
                    (try simp only [List.setIfInBounds_toArray])
                    (try simp only [List.set_cons_succ])
                    (try simp only [List.set_cons_zero])
                    refine wpAnyH_take (i := 7) (oi := ⟨_, _, _, _, _, _⟩) (v := ?_) rfl (by kernel_rfl) (by kernel_rfl) (by kernel_rfl) (fun _ _ _ h => h) (Or.inl ⟨by rfl, ?_⟩) (by assumption) ?_
                    rotate_left
                    · intro wS hSw
                      go_simp; (try with_reducible rfl)
                    (try simp only [Act.put])
                    (try simp only [List.setIfInBounds_toArray])
                    (try simp only [List.set_cons_succ])
                    (try simp only [List.set_cons_zero])
                    refine wpAnyH_take (i := 8) (oi := ⟨_, _, _, _, _, _⟩) (v := ?_) rfl (by kernel_rfl) (by kernel_rfl) (by kernel_rfl) (fun _ _ _ h => h) (Or.inl ⟨by rfl, ?_⟩) (by assumption) ?_
                    rotate_left
                    · intro wS hSw
                      go_simp; (try with_reducible rfl)
                    (try simp only [Act.put])
                    (try simp only [List.setIfInBounds_toArray])
                    (try simp only [List.set_cons_succ])
                    (try simp only [List.set_cons_zero])
                    refine wpAnyH_take (i := 9) (oi := ⟨_, _, _, _, _, _⟩) (v := ?_) rfl (by kernel_rfl) (by kernel_rfl) (by kernel_rfl) (fun _ _ _ h => h) (Or.inl ⟨by rfl, ?_⟩) (by assumption) ?_
                    rotate_left
                    · intro wS hSw
                      go_simp; (try with_reducible rfl)
                    (try simp only [Act.put])
                    (try simp only [List.setIfInBounds_toArray])
                    (try simp only [List.set_cons_succ])
                    (try simp only [List.set_cons_zero])
                    refine wpAnyH_take (i := 10) (oi := ⟨_, _, _, _, _, _⟩) (v := ?_) rfl (by kernel_rfl) (by kernel_rfl) (by kernel_rfl) (fun _ _ _ h => h) (Or.inl ⟨by rfl, ?_⟩) (by assumption) ?_
                    rotate_left
                    · intro wS hSw
                      have c := HY1 _ hSw; go_simp; (try with_reducible rfl)
                    (try simp only [Act.put])
                    (try simp only [List.setIfInBounds_toArray])
                    (try simp only [List.set_cons_succ])
                    (try simp only [List.set_cons_zero])
                    refine wpAnyH_take (i := 11) (oi := ⟨_, _, _, _, _, _⟩) (v := ?_) rfl (by kernel_rfl) (by kernel_rfl) (by kernel_rfl) (fun _ _ _ h => h) (Or.inl ⟨by rfl, ?_⟩) (by assumption) ?_
                    rotate_left
                    · intro wS hSw
                      go_simp; (try with_reducible rfl)
                    (try simp only [Act.put])
                    (try simp only [List.setIfInBounds_toArray])
                    (try simp only [List.set_cons_succ])
                    (try simp only [List.set_cons_zero])
                    refine wpAnyH_take (i := 12) (oi := ⟨_, _, _, _, _, _⟩) (v := ?_) rfl (by kernel_rfl) (by kernel_rfl) (by kernel_rfl) (fun _ _ _ h => h) (Or.inl ⟨by rfl, ?_⟩) (by assumption) ?_
                    rotate_left
                    · intro wS hSw
                      go_simp; (try with_reducible rfl)
                    (try simp only [Act.put])
                    (try simp only [List.setIfInBounds_toArray])
                    (try simp only [List.set_cons_succ])
                    (try simp only [List.set_cons_zero])
                    refine wpAnyH_take (i := 13) (oi := ⟨_, _, _, _, _, _⟩) (v := .agg (apA y)) rfl (by kernel_rfl) (by kernel_rfl) (by kernel_rfl) (fun _ _ _ h => h) (Or.inl ⟨by rfl, fun wS hSw => ?_⟩) (by assumption) ?_
                    · exact exec_ldC 36 _ ⟨_, _, _, Try.isAgg36, Try.sizeOf36, rfl, rfl, fun j u hu => HRY _ hSw j u (by rw [apC, Array.getElem?_toList]; exact hu)⟩
                    (try simp only [Act.put])
                    (try simp only [List.setIfInBounds_toArray])
                    (try simp only [List.set_cons_succ])
                    (try simp only [List.set_cons_zero])
                    refine wpAnyH_ready (rs := [14, 15]) (by kernel_rfl) (by simp) ?_
                    refine AllReadyH.cons (o := ⟨_, _, _, _, _, _⟩) rfl (fun K' hK' => ?_) (AllReadyH.cons (o := ⟨_, _, _, _, _, _⟩) rfl (fun K' hK' => ?_) (AllReadyH.nil))
                    · refine (if_pos (by rfl)).mpr ?_
                      go_simp
                      change K' _ (World.alloc _ (Obj.cells (apA ⟨0, zeroE⟩) 36))
                      have D := heap_alloc_new x0 (Obj.cells (apA ⟨0, zeroE⟩) 36)
                      have hb := hb.trans ((blw _ (Obj.cells (apA ⟨0, zeroE⟩) 36)).mono hz)
                      have hp : B ≤ x0.heap.size := hz
                      have hz := Nat.le_trans hz (blw x0 (Obj.cells (apA ⟨0, zeroE⟩) 36)).size
                      refine hK'.out _ _ hb (fun _ => ?_)
                      generalize x0.alloc (Obj.cells (apA ⟨0, zeroE⟩) 36) = x1 at *
                      obtain ⟨P, hn⟩ : ∃ g, x0.heap.size = g := ⟨_, rfl⟩
                      simp only [hn] at D hp ⊢
                      clear hn
                      refine wpAnyH_ready (rs := [15]) (by kernel_rfl) (by simp) ?_
                      refine AllReadyH.cons (o := ⟨_, _, _, _, _, _⟩) rfl (fun K' hK' => ?_) (AllReadyH.nil)
                      refine (if_pos (by rfl)).mpr ?_
                      go_simp
                      change K' _ (World.alloc _ (Obj.cells (apA ⟨0, zeroE⟩) 36))
                      have E := heap_alloc_new x1 (Obj.cells (apA ⟨0, zeroE⟩) 36)
                      have hpq := lt_blk D
                      have D := tr_al (Obj.cells (apA ⟨0, zeroE⟩) 36) D
                      have hb := hb.trans ((blw _ (Obj.cells (apA ⟨0, zeroE⟩) 36)).mono hz)
                      have hq : B ≤ x1.heap.size := hz
                      have hz := Nat.le_trans hz (blw x1 (Obj.cells (apA ⟨0, zeroE⟩) 36)).size
                      refine hK'.out _ _ hb (fun _ => ?_)
                      generalize x1.alloc (Obj.cells (apA ⟨0, zeroE⟩) 36) = x2 at *
                      obtain ⟨Q, hn⟩ : ∃ g, x1.heap.size = g := ⟨_, rfl⟩
                      simp only [hn] at E hq hpq ⊢
                      clear hn
                      refine wpAnyH_ready (rs := [16]) (by kernel_rfl) (by simp) ?_
                      refine AllReadyH.cons (o := ⟨_, _, _, _, _, _⟩) rfl (fun K' hK' => ?_) (AllReadyH.nil)
                      refine (if_pos (by rfl)).mpr ?_
                      refine wp_stB 36 _ _ ?_
                      refine ⟨_, _, _, ⟨_, _, _, Try.sizeOf36, rfl, D, apA_over x ⟨0, zeroE⟩⟩, ?_⟩
                      intro y1 D1 g1
                      have E1 := tr_st g1 E (by omega)
                      have hb1 := bl_st hb g1 hz (by omega)
                      have hz1 := Nat.le_trans hz g1.size
                      refine hK'.out _ _ hb1 (fun _ => ?_)
                      refine wpAnyH_ready (rs := [17]) (by kernel_rfl) (by simp) ?_
                      refine AllReadyH.cons (o := ⟨_, _, _, _, _, _⟩) rfl (fun K' hK' => ?_) (AllReadyH.nil)
                      refine (if_pos (by rfl)).mpr ?_
                      refine wp_stB 36 _ _ ?_
                      refine ⟨_, _, _, ⟨_, _, _, Try.sizeOf36, rfl, E1, apA_over y ⟨0, zeroE⟩⟩, ?_⟩
                      intro y2 E2 g2
                      have D2 := tr_st g2 D1 (by omega)
                      have hb2 := bl_st hb1 g2 hz1 (by omega)
                      refine hK'.out _ _ hb2 (fun _ => ?_)
                      refine wpAnyH_done (by kernel_rfl) ?_ _
                      go_wp2
                      go_meet
                      rw [HBB.out]
                      exact ⟨P, Q, rfl, rfl, D2, E2, hb2⟩
                    · refine (if_pos (by rfl)).mpr ?_
                      go_simp
                      change K' _ (World.alloc _ (Obj.cells (apA ⟨0, zeroE⟩) 36))
                      have E := heap_alloc_new x0 (Obj.cells (apA ⟨0, zeroE⟩) 36)
                      have hb := hb.trans ((blw _ (Obj.cells (apA ⟨0, zeroE⟩) 36)).mono hz)
                      have hp : B ≤ x0.heap.size := hz
                      have hz := Nat.le_trans hz (blw x0 (Obj.cells (apA ⟨0, zeroE⟩) 36)).size
                      refine hK'.out _ _ hb (fun _ => ?_)
                      generalize x0.alloc (Obj.cells (apA ⟨0, zeroE⟩) 36) = x1 at *
                      obtain ⟨Q, hn⟩ : ∃ g, x0.heap.size = g := ⟨_, rfl⟩
                      simp only [hn] at E hp ⊢
                      clear hn
                      refine wpAnyH_ready (rs := [14]) (by kernel_rfl) (by simp) ?_
                      refine AllReadyH.cons (o := ⟨_, _, _, _, _, _⟩) rfl (fun K' hK' => ?_) (AllReadyH.nil)
                      refine (if_pos (by rfl)).mpr ?_
                      go_simp
                      change K' _ (World.alloc _ (Obj.cells (apA ⟨0, zeroE⟩) 36))
                      have D := heap_alloc_new x1 (Obj.cells (apA ⟨0, zeroE⟩) 36)
                      have hpq := lt_blk E
                      have E := tr_al (Obj.cells (apA ⟨0, zeroE⟩) 36) E
                      have hb := hb.trans ((blw _ (Obj.cells (apA ⟨0, zeroE⟩) 36)).mono hz)
                      have hq : B ≤ x1.heap.size := hz
                      have hz := Nat.le_trans hz (blw x1 (Obj.cells (apA ⟨0, zeroE⟩) 36)).size
                      refine hK'.out _ _ hb (fun _ => ?_)
                      generalize x1.alloc (Obj.cells (apA ⟨0, zeroE⟩) 36) = x2 at *
                      obtain ⟨P, hn⟩ : ∃ g, x1.heap.size = g := ⟨_, rfl⟩
                      simp only [hn] at D hq hpq ⊢
                      clear hn
                      refine wpAnyH_ready (rs := [16]) (by kernel_rfl) (by simp) ?_
                      refine AllReadyH.cons (o := ⟨_, _, _, _, _, _⟩) rfl (fun K' hK' => ?_) (AllReadyH.nil)
                      refine (if_pos (by rfl)).mpr ?_
                      refine wp_stB 36 _ _ ?_
                      refine ⟨_, _, _, ⟨_, _, _, Try.sizeOf36, rfl, D, apA_over x ⟨0, zeroE⟩⟩, ?_⟩
                      intro y1 D1 g1
                      have E1 := tr_st g1 E (by omega)
                      have hb1 := bl_st hb g1 hz (by omega)
                      have hz1 := Nat.le_trans hz g1.size
                      refine hK'.out _ _ hb1 (fun _ => ?_)
                      refine wpAnyH_ready (rs := [17]) (by kernel_rfl) (by simp) ?_
                      refine AllReadyH.cons (o := ⟨_, _, _, _, _, _⟩) rfl (fun K' hK' => ?_) (AllReadyH.nil)
                      refine (if_pos (by rfl)).mpr ?_
                      refine wp_stB 36 _ _ ?_
                      refine ⟨_, _, _, ⟨_, _, _, Try.sizeOf36, rfl, E1, apA_over y ⟨0, zeroE⟩⟩, ?_⟩
                      intro y2 E2 g2
                      have D2 := tr_st g2 D1 (by omega)
                      have hb2 := bl_st hb1 g2 hz1 (by omega)
                      refine hK'.out _ _ hb2 (fun _ => ?_)
                      refine wpAnyH_done (by kernel_rfl) ?_ _
                      go_wp2
                      go_meet
                      rw [HBB.out]
                      exact ⟨P, Q, rfl, rfl, D2, E2, hb2⟩
                  obtain ⟨P, Q, rfl, rfl, X1, Y1, hbc⟩ := hcut
                  have hwc := hbr4.trans (hbc.mono hbr4.size)
                  obtain ⟨d0, d1, d2, d3, d4, d5, d6, d7⟩ := apA_cells X1
                  obtain ⟨f0, f1, f2, f3, f4, f5, f6, f7⟩ := apA_cells Y1
                  have hN1 := fun w => rnone_any x.e w
                  have hN2 := fun w => rnone_any y.e w
                  have hne := fun w => run_neE x.e y.e w
                  have hgu := fun p q u v w => run_gE p q u v w
                  obtain ⟨bi, hbi⟩ : ∃ b, (x.idx == y.idx) = b := ⟨_, rfl⟩
                  obtain ⟨n1, hn1⟩ : ∃ b, noneE x.e = b := ⟨_, rfl⟩
                  obtain ⟨n2, hn2⟩ : ∃ b, noneE y.e = b := ⟨_, rfl⟩
                  obtain ⟨qe, hqe⟩ : ∃ b, eqE x.e y.e = b := ⟨_, rfl⟩
                  rw [hn1] at hN1
                  rw [hn2] at hN2
                  rw [hqe] at hne
                  simp only [enA] at hN1 hN2 hne
                  have HI := Lib.hid hbi
                  have H1 := Lib.hid hn1
                  have H2n := Lib.hid hn2
                  have HE := Lib.hid hqe
                  clear hn1 hn2 hqe hbc X1 Y1 hrx hry
                  cases bi
                  case false =>
                    have HR := Lib.hid (HN4.out (by unfold pokJ; rw [HI.out, H1.out, H2n.out, HE.out]; rfl))
                    go_wp2
                    go_roundw
                    case rel => exact ⟨q + 1, by omega, by go_num, HR, hwc⟩
                    case measure => simp [Go.RowKit.intOf]; omega
                  case true =>
                    cases n1
                    case true =>
                      have HR := Lib.hid (HN4.out (by unfold pokJ; rw [HI.out, H1.out, H2n.out, HE.out]; rfl))
                      go_wp2_with fail
                      go_at_call 35
                      refine (hN1 _).mono ?_
                      rintro e wN ⟨rfl, hbN⟩
                      have d0 := keepJ hbN d0
                      have f0 := keepJ hbN f0
                      have d1 := keepJ hbN d1
                      have f1 := keepJ hbN f1
                      have d2 := keepJ hbN d2
                      have f2 := keepJ hbN f2
                      have d3 := keepJ hbN d3
                      have f3 := keepJ hbN f3
                      have d4 := keepJ hbN d4
                      have f4 := keepJ hbN f4
                      have d5 := keepJ hbN d5
                      have f5 := keepJ hbN f5
                      have d6 := keepJ hbN d6
                      have f6 := keepJ hbN f6
                      have d7 := keepJ hbN d7
                      have f7 := keepJ hbN f7
                      have hwc := hwc.trans (hbN.mono hwc.size)
                      go_wp2
                      go_roundw
                      case rel => exact ⟨q + 1, by omega, by go_num, HR, hwc⟩
                      case measure => simp [Go.RowKit.intOf]; omega
                    case false =>
                      cases n2
                      case true =>
                        have HR := Lib.hid (HN4.out (by unfold pokJ; rw [HI.out, H1.out, H2n.out, HE.out]; rfl))
                        go_wp2_with fail
                        go_at_call 35
                        refine (hN1 _).mono ?_
                        rintro e wN ⟨rfl, hbN⟩
                        have d0 := keepJ hbN d0
                        have f0 := keepJ hbN f0
                        have d1 := keepJ hbN d1
                        have f1 := keepJ hbN f1
                        have d2 := keepJ hbN d2
                        have f2 := keepJ hbN f2
                        have d3 := keepJ hbN d3
                        have f3 := keepJ hbN f3
                        have d4 := keepJ hbN d4
                        have f4 := keepJ hbN f4
                        have d5 := keepJ hbN d5
                        have f5 := keepJ hbN f5
                        have d6 := keepJ hbN d6
                        have f6 := keepJ hbN f6
                        have d7 := keepJ hbN d7
                        have f7 := keepJ hbN f7
                        have hwc := hwc.trans (hbN.mono hwc.size)
                        go_wp2_with fail
                        go_at_call 35
                        refine (hN2 _).mono ?_
                        rintro e wN ⟨rfl, hbN⟩
                        have d0 := keepJ hbN d0
                        have f0 := keepJ hbN f0
                        have d1 := keepJ hbN d1
                        have f1 := keepJ hbN f1
                        have d2 := keepJ hbN d2
                        have f2 := keepJ hbN f2
                        have d3 := keepJ hbN d3
                        have f3 := keepJ hbN f3
                        have d4 := keepJ hbN d4
                        have f4 := keepJ hbN f4
                        have d5 := keepJ hbN d5
                        have f5 := keepJ hbN f5
                        have d6 := keepJ hbN d6
                        have f6 := keepJ hbN f6
                        have d7 := keepJ hbN d7
                        have f7 := keepJ hbN f7
                        have hwc := hwc.trans (hbN.mono hwc.size)
                        go_wp2
                        go_roundw
                        case rel => exact ⟨q + 1, by omega, by go_num, HR, hwc⟩
                        case measure => simp [Go.RowKit.intOf]; omega
                      case false =>
                        cases qe
                        case true =>
                          have HR := Lib.hid (HN4.out (by unfold pokJ; rw [HI.out, H1.out, H2n.out, HE.out]; rfl))
                          go_wp2_with fail
                          go_at_call 35
                          refine (hN1 _).mono ?_
                          rintro e wN ⟨rfl, hbN⟩
                          have d0 := keepJ hbN d0
                          have f0 := keepJ hbN f0
                          have d1 := keepJ hbN d1
                          have f1 := keepJ hbN f1
                          have d2 := keepJ hbN d2
                          have f2 := keepJ hbN f2
                          have d3 := keepJ hbN d3
                          have f3 := keepJ hbN f3
                          have d4 := keepJ hbN d4
                          have f4 := keepJ hbN f4
                          have d5 := keepJ hbN d5
                          have f5 := keepJ hbN f5
                          have d6 := keepJ hbN d6
                          have f6 := keepJ hbN f6
                          have d7 := keepJ hbN d7
                          have f7 := keepJ hbN f7
                          have hwc := hwc.trans (hbN.mono hwc.size)
                          go_wp2_with fail
                          go_at_call 35
                          refine (hN2 _).mono ?_
                          rintro e wN ⟨rfl, hbN⟩
                          have d0 := keepJ hbN d0
                          have f0 := keepJ hbN f0
                          have d1 := keepJ hbN d1
                          have f1 := keepJ hbN f1
                          have d2 := keepJ hbN d2
                          have f2 := keepJ hbN f2
                          have d3 := keepJ hbN d3
                          have f3 := keepJ hbN f3
                          have d4 := keepJ hbN d4
                          have f4 := keepJ hbN f4
                          have d5 := keepJ hbN d5
                          have f5 := keepJ hbN f5
                          have d6 := keepJ hbN d6
                          have f6 := keepJ hbN f6
                          have d7 := keepJ hbN d7
                          have f7 := keepJ hbN f7
                          have hwc := hwc.trans (hbN.mono hwc.size)
                          go_wp2
                          go_roundw
                          case rel => exact ⟨q + 1, by omega, by go_num, HR, hwc⟩
                          case measure => simp [Go.RowKit.intOf]; omega
                        case false =>
                          have HR := Lib.hid (HB4.out (by unfold pokJ; rw [HI.out, H1.out, H2n.out, HE.out]; rfl))
                          go_wp2_with fail
                          go_at_call 35
                          refine (hN1 _).mono ?_
                          rintro e wN ⟨rfl, hbN⟩
                          have d0 := keepJ hbN d0
                          have f0 := keepJ hbN f0
                          have d1 := keepJ hbN d1
                          have f1 := keepJ hbN f1
                          have d2 := keepJ hbN d2
                          have f2 := keepJ hbN f2
                          have d3 := keepJ hbN d3
                          have f3 := keepJ hbN f3
                          have d4 := keepJ hbN d4
                          have f4 := keepJ hbN f4
                          have d5 := keepJ hbN d5
                          have f5 := keepJ hbN f5
                          have d6 := keepJ hbN d6
                          have f6 := keepJ hbN f6
                          have d7 := keepJ hbN d7
                          have f7 := keepJ hbN f7
                          have hwc := hwc.trans (hbN.mono hwc.size)
                          go_wp2_with fail
                          go_at_call 35
                          refine (hN2 _).mono ?_
                          rintro e wN ⟨rfl, hbN⟩
                          have d0 := keepJ hbN d0
                          have f0 := keepJ hbN f0
                          have d1 := keepJ hbN d1
                          have f1 := keepJ hbN f1
                          have d2 := keepJ hbN d2
                          have f2 := keepJ hbN f2
                          have d3 := keepJ hbN d3
                          have f3 := keepJ hbN f3
                          have d4 := keepJ hbN d4
                          have f4 := keepJ hbN f4
                          have d5 := keepJ hbN d5
                          have f5 := keepJ hbN f5
                          have d6 := keepJ hbN d6
                          have f6 := keepJ hbN f6
                          have d7 := keepJ hbN d7
                          have f7 := keepJ hbN f7
                          have hwc := hwc.trans (hbN.mono hwc.size)
                          go_wp2
                          go_ret
                          refine ⟨?_, hwc⟩
                          rw [HR.out]
                          rfl
                · obtain rfl : q = yl.length := by omega
                  have HN3 := Lib.hid (show ∀ j, ∀ (hj : j < xl.length), j < p + 1 → ∀ y ∈ yl, pokJ xl[j] y = true from fun j hj hj2 => by
                    by_cases hjp : j < p
                    · exact hT3.out j hj hjp
                    · have : j = p := by omega
                      subst this
                      rw [HX.out]
                      intro y hy
                      obtain ⟨i, hi, rfl⟩ := List.getElem_of_mem hy
                      exact hT4.out i hi hi)
                  clear hT hT2 hT3 hT4
                  go_wp2
                  go_roundw
                  case rel => exact ⟨p + 1, by omega, by go_num, HN3, hbr4⟩
                  case measure => simp [Go.RowKit.intOf]; omega
            · obtain rfl : p = xl.length := by omega
              have HN2 := Lib.hid (show ∀ j, ∀ (hj : j < ls.length), j < k + 1 → allP xl ls[j].2.2 from fun j hj hj2 => by
                by_cases hjk : j < k
                · exact hT2.out j hj hjk
                · have : j = k := by omega
                  subst this
                  rw [HYP.out]
                  intro x hx y hy
                  obtain ⟨i, hi, rfl⟩ := List.getElem_of_mem hx
                  exact hT3.out i hi hi y hy)
              clear hT hT2 hT3
              go_wp2
              go_roundw
              case rel => exact ⟨k + 1, by omega, by go_num, HN2, hbr3⟩
              case measure => simp [Go.RowKit.intOf]; omega
        · obtain rfl : k = i + 1 := by omega
          have HN := Lib.hid (show ∀ j k, ∀ (hj : j < ls.length) (hk : k ≤ j), j < i + 1 → allP ls[j].2.2 ls[k].2.2 from fun j k hj hk hj2 => by
            by_cases hji : j < i
            · exact hT.out j k hj hk hji
            · have : j = i := by omega
              subst this
              rw [HXP.out]
              exact hT2.out k (by omega) (by omega))
          clear hT hT2
          go_wp2
          go_roundw
          case rel => exact ⟨i + 1, by omega, by go_num, HN, hbr2⟩
          case measure => simp [Go.RowKit.intOf]; omega
    · obtain rfl : i = ls.length := by omega
      have HY := Lib.hid (show agreeJ (flatJ (lstA ls)) = true from HYES.out.2 (fun j k hj hk => hT.out j k hj hk hj))
      go_wp2
      go_ret
      refine ⟨?_, hbr⟩
      rw [HY.out]
      rfl
end Go.Proofs.Ytkkoookmnnmiiaa

namespace Go.Proofs.Ytkkoookmnnmiiaa
open Go.RowKit

def badP (x y : Ap) : Prop := x.idx = y.idx ∧ x.e ≠ y.e
/-- What a look over pairs has come to. -/
structure ScanF (f : List Ap) (i k : Nat) (least : Int) (is : Bool) : Prop where
  no : is = false → least = 0 ∧ ∀ a b (ha : a < f.length) (hb : b < a), (a < i ∨ (a = i ∧ b < k)) → ¬ badP f[a] f[b]
  yes : is = true → (∃ a b, ∃ (ha : a < f.length) (hb : b < a), badP f[a] f[b] ∧ f[a].idx = least) ∧ ∀ a b (ha : a < f.length) (hb : b < a), (a < i ∨ (a = i ∧ b < k)) → badP f[a] f[b] → least ≤ f[a].idx
section
variable {f : List Ap} {i k : Nat} {least : Int} {is : Bool}
theorem scan_zero (f : List Ap) : ScanF f 0 0 0 false := ⟨fun _ => ⟨rfl, fun a b ha hb h => by omega⟩, fun h => by cases h⟩
theorem ScanF.next (h : ScanF f i i least is) : ScanF f (i + 1) 0 least is := by
  refine ⟨fun e => ⟨(h.no e).1, fun a b ha hb hc => (h.no e).2 a b ha hb (by omega)⟩, fun e => ⟨(h.yes e).1, fun a b ha hb hc => (h.yes e).2 a b ha hb (by omega)⟩⟩
theorem ScanF.stay (h : ScanF f i k least is) (hi : i < f.length) (hk : k < i) (hn : ¬ badP f[i] (f[k]'(by omega)) ∨ (is = true ∧ least ≤ f[i].idx)) : ScanF f i (k + 1) least is := by
  refine ⟨fun e => ⟨(h.no e).1, fun a b ha hb hc => ?_⟩, fun e => ⟨(h.yes e).1, fun a b ha hb hc hbad => ?_⟩⟩
  · by_cases hak : a = i ∧ b = k
    · obtain ⟨rfl, rfl⟩ := hak
      rcases hn with hn | ⟨h1, _⟩
      · exact hn
      · rw [e] at h1; cases h1
    · exact (h.no e).2 a b ha hb (by omega)
  · by_cases hak : a = i ∧ b = k
    · obtain ⟨rfl, rfl⟩ := hak
      rcases hn with hn | ⟨_, h1⟩
      · exact absurd hbad hn
      · exact h1
    · exact (h.yes e).2 a b ha hb (by omega) hbad
theorem ScanF.take (h : ScanF f i k least is) (hi : i < f.length) (hk : k < i) (hb : badP f[i] (f[k]'(by omega))) (hn : is = false ∨ f[i].idx < least) : ScanF f i (k + 1) f[i].idx true := by
  refine ⟨fun e => (by cases e), fun _ => ⟨⟨i, k, hi, hk, hb, rfl⟩, fun a b ha hb2 hc hbad => ?_⟩⟩
  by_cases hak : a = i ∧ b = k
  · obtain ⟨rfl, rfl⟩ := hak
    exact Int.le_refl _
  · cases is
    · exact absurd hbad ((h.no rfl).2 a b ha hb2 (by omega))
    · have h1 := (h.yes rfl).2 a b ha hb2 (by omega) hbad
      rcases hn with hn | hn
      · cases hn
      · omega
theorem odd_pairs : ∀ j, j ∈ oddJ f ↔ ∃ a b, ∃ (ha : a < f.length) (hb : b < a), badP f[a] f[b] ∧ f[a].idx = j := by
  intro j
  rw [odd_iff]
  constructor
  · rintro ⟨x, hx, y, hy, e1, e2, e3⟩
    obtain ⟨a, ha, rfl⟩ := List.getElem_of_mem hx
    obtain ⟨b, hb, rfl⟩ := List.getElem_of_mem hy
    rcases Nat.lt_trichotomy a b with hlt | rfl | hlt
    · exact ⟨b, a, hb, hlt, ⟨e2.trans e1.symm, fun e => e3 e.symm⟩, e2⟩
    · exact absurd rfl e3
    · exact ⟨a, b, ha, hlt, ⟨e1.trans e2.symm, e3⟩, e1⟩
  · rintro ⟨a, b, ha, hb, ⟨e1, e2⟩, e3⟩
    exact ⟨f[a], List.getElem_mem _, f[b], List.getElem_mem _, e3, e1.symm.trans e3, e2⟩
theorem ScanF.last (h : ScanF f f.length 0 least is) : firstOdd f = least := by
  unfold firstOdd
  cases is
  · have h1 := h.no rfl
    have : oddJ f = [] := by
      rw [List.eq_nil_iff_forall_not_mem]
      intro j hj
      obtain ⟨a, b, ha, hb, hbad, _⟩ := (odd_pairs j).1 hj
      exact h1.2 a b ha hb (.inl ha) hbad
    rw [this, h1.1]
    rfl
  · obtain ⟨⟨a, b, ha, hb, hbad, he⟩, h2⟩ := h.yes rfl
    have hm : least ∈ oddJ f := (odd_pairs least).2 ⟨a, b, ha, hb, hbad, he⟩
    obtain ⟨m1, m2⟩ := minI_mem (l := oddJ f) (fun e => by rw [e] at hm; simp at hm)
    obtain ⟨a2, b2, ha2, hb2, hbad2, he2⟩ := (odd_pairs _).1 m1
    have h3 := h2 a2 b2 ha2 hb2 (.inl ha2) hbad2
    have h4 := m2 _ hm
    omega
end
/-- How far the entries were gathered. -/
def gatF (L : List (List Ap)) (i k : Nat) : List Ap := flatJ (L.take i) ++ ((L.getD i []).take k).filter (fun x => !noneE x.e)
section
variable {L : List (List Ap)}
theorem gat_zero (L : List (List Ap)) : gatF L 0 0 = [] := by simp [gatF, flatJ]
theorem gat_next {i : Nat} (hi : i < L.length) {xl : List Ap} (hx : L[i] = xl) : gatF L (i + 1) 0 = gatF L i xl.length := by
  unfold gatF
  rw [List.take_zero, List.filter_nil, List.append_nil, flat_take hi, List.getD_eq_getElem?_getD, List.getElem?_eq_getElem hi, Option.getD_some, hx, List.take_length]
theorem gat_succ {i k : Nat} (hi : i < L.length) {xl : List Ap} (hx : L[i] = xl) (hk : k < xl.length) {x : Ap} (he : xl[k] = x) : gatF L i (k + 1) = gatF L i k ++ (if noneE x.e = true then [] else [x]) := by
  unfold gatF
  rw [List.getD_eq_getElem?_getD, List.getElem?_eq_getElem hi, Option.getD_some, hx, filt_take hk, he, List.append_assoc]
theorem gat_all (L : List (List Ap)) : gatF L L.length 0 = flatJ L := by
  unfold gatF
  rw [List.take_length]
  simp
theorem gat_len {b : Nat} (h : ∀ x ∈ L, x.length ≤ b) (i k : Nat) : (gatF L i k).length ≤ (i + 1) * b := by
  have h1 : (flatJ (L.take i)).length ≤ i * b := by
    refine Nat.le_trans (flat_len_le _) (Nat.le_trans (flat_le (b := b) fun x hx => h x (List.mem_of_mem_take hx)) (Nat.mul_le_mul_right _ ?_))
    rw [List.length_take]
    omega
  have h2 : (((L.getD i []).take k).filter (fun x => !noneE x.e)).length ≤ b := by
    refine Nat.le_trans (List.length_filter_le _ _) (Nat.le_trans (by rw [List.length_take]; exact Nat.min_le_right _ _) ?_)
    by_cases hi : i < L.length
    · rw [List.getD_eq_getElem?_getD, List.getElem?_eq_getElem hi]
      exact h _ (List.getElem_mem _)
    · rw [List.getD_eq_getElem?_getD, List.getElem?_eq_none (by omega)]
      simp
  unfold gatF
  rw [List.length_append, Nat.add_mul]
  omega
end
end Go.Proofs.Ytkkoookmnnmiiaa

namespace Go.Proofs.Ytkkoookmnnmiiaa
open Go.RowKit

set_option maxRecDepth 100000 in
set_option maxHeartbeats 8000000 in
theorem rfirst_any {a : Option Addr} {ls : List PartA} {w : World} (h : PartsA w a ls) (cap : Nat) (hlen : ls.length ≤ 1000) (hlen2 : ∀ x ∈ ls, x.2.2.length ≤ 1000) : Calls Try.prog 21 #[.slice a ls.length cap] w fun e w' => e = .returned (.int .i64 (firstOdd (flatJ (lstA ls)))) ∧ Below w.heap.size w w' := by
  have HP := Lib.hid h
  have H2 := Lib.hid hlen2
  have HGL := Lib.hid (fun i k => gat_len (L := lstA ls) (b := 1000) (fun x hx => by
    obtain ⟨y, hy, rfl⟩ := List.mem_map.1 hx
    exact hlen2 y hy) i k)
  have HGA := Lib.hid (show gatF (lstA ls) ls.length 0 = flatJ (lstA ls) by
    have := gat_all (lstA ls)
    rw [show (lstA ls).length = ls.length by simp [lstA]] at this
    exact this)
  clear h hlen2
  go_enter Try.func21, Try.ntmps21
  go_wp2
  go_loopw [3, 4] (fun t v wr => ∃ (i : Nat) (fv : Value), t = fv ∧ i ≤ ls.length ∧ v = .int .i64 i ∧ wr.ownsRow w.heap.size 36 8 fv (gatF (lstA ls) i 0).length (aps (gatF (lstA ls) i 0)) ∧ Below w.heap.size w wr) (fun _ v _ => ls.length - (Go.RowKit.intOf v).toNat)
  case atStart => exact ⟨0, _, rfl, by omega, rfl, by rw [gat_zero]; exact World.ownsRow_nil _ _ _ _, Below.refl _ _⟩
  case round =>
    obtain ⟨i, fv, rfl, hi, rfl, hown, hbr⟩ := hrel
    by_cases hlt : i < ls.length
    · obtain ⟨xp, hxp⟩ : ∃ x, ls[i]'hlt = x := ⟨_, rfl⟩
      obtain ⟨b1, o1, rfl, cx0⟩ := HP.out.at hlt
      have sx0 := HP.out.each _ (List.getElem_mem hlt)
      have lx := H2.out _ (List.getElem_mem hlt)
      have hll : i < (lstA ls).length := by simpa [lstA] using hlt
      have hxl : (lstA ls)[i]'hll = xp.2.2 := by rw [← hxp]; simp [lstA]
      rw [hxp] at cx0 sx0 lx
      have HXL := Lib.hid hxl
      have HLL := Lib.hid hll
      clear hxp hxl
      obtain ⟨x1, xc, xl⟩ := xp
      simp only at cx0 sx0 lx HXL
      go_wp2
      go_loopw [3, 5] (fun t v wr => ∃ (k : Nat) (fv : Value), t = fv ∧ k ≤ xl.length ∧ v = .int .i64 k ∧ wr.ownsRow w.heap.size 36 8 fv (gatF (lstA ls) i k).length (aps (gatF (lstA ls) i k)) ∧ Below w.heap.size w wr) (fun _ v _ => xl.length - (Go.RowKit.intOf v).toNat)
      case atStart => exact ⟨0, _, rfl, by omega, rfl, hown, hbr⟩
      case round =>
        obtain ⟨k, fv2, rfl, hk, rfl, hown2, hbr2⟩ := hrel
        have cx2 := keepJ hbr2 cx0
        by_cases hltk : k < xl.length
        · obtain ⟨x, hx⟩ : ∃ x, xl[k]'hltk = x := ⟨_, rfl⟩
          have hgs := gat_succ HLL.out HXL.out hltk hx
          have hgl : (gatF (lstA ls) i k).length ≤ 1001000 := by
            have := HGL.out i k
            omega
          obtain ⟨xb, xo, rfl, hxb, c0, c1, c2, c3, c4, c5, c6, c7⟩ := ap_cells (sx0.row.below0 hbr2) hltk
          rw [hx] at c0 c1 c2 c3 c4 c5 c6 c7
          have hN := fun w => rnone_any x.e w
          obtain ⟨bn, hbn⟩ : ∃ b, noneE x.e = b := ⟨_, rfl⟩
          rw [hbn] at hgs hN
          have HGS := Lib.hid hgs
          simp only [enA] at hN
          clear hx hbn hgs
          generalize gatF (lstA ls) i k = gk at *
          cases bn
          case true =>
            go_wp2_with (go_at_call 35; refine (hN _).mono ?_; rintro e w3 ⟨rfl, hb3⟩)
            go_roundw
            case rel => exact ⟨k + 1, _, rfl, by omega, by go_num, by rw [HGS.out]; simpa using owns_bl hown2 hb3, hbr2.trans (hb3.mono hbr2.size)⟩
            case measure => simp [Go.RowKit.intOf]; omega
          case false =>
            go_wp2_with (first
              | (go_at_call 35; refine (hN _).mono ?_; rintro e w3 ⟨rfl, hb3⟩; have cx2 := keepJ hb3 cx2; have c0 := keepJ hb3 c0; have c1 := keepJ hb3 c1; have c2 := keepJ hb3 c2; have c3 := keepJ hb3 c3; have c4 := keepJ hb3 c4; have c5 := keepJ hb3 c5; have c6 := keepJ hb3 c6; have c7 := keepJ hb3 c7)
              | (at_builtin; refine wpList_append1 rfl _ _ 29 36 elA rfl w.heap.size _ _ _ rfl (owns_bl hown2 hb3) #[.int .i64 x.idx, .int .u8 x.e.kind, .int .i64 x.e.cli, .int .i64 x.e.seq, .int .u8 x.e.op.kind, .string x.e.op.key, .string x.e.op.old, .string x.e.op.val] rfl (ap_one x) 36 rfl (by omega) (by omega) (by have := hbr2.size; have := hb3.size; omega) ?_; intro v' w' hown' hb' _))
            go_roundw
            case rel =>
              refine ⟨k + 1, _, rfl, by omega, by go_num, ?_, (hbr2.trans (hb3.mono hbr2.size)).trans hb'⟩
              rw [HGS.out]
              show w'.ownsRow _ _ _ _ (gk ++ [x]).length (aps (gk ++ [x]))
              rw [List.length_append, aps_snoc]
              exact hown'
            case measure => simp [Go.RowKit.intOf]; omega
        · obtain rfl : k = xl.length := by omega
          have hgn := gat_next HLL.out HXL.out
          have HGN := Lib.hid hgn
          clear hgn
          go_wp2
          go_roundw
          case rel => exact ⟨i + 1, _, rfl, by omega, by go_num, by rw [HGN.out]; exact hown2, hbr2⟩
          case measure => simp [Go.RowKit.intOf]; omega
    · obtain rfl : i = ls.length := by omega
      rw [HGA.out] at hown
      have hfl : (flatJ (lstA ls)).length ≤ 1001000 := by
        have := HGL.out ls.length 0
        rw [HGA.out] at this
        have h9 : (ls.length + 1) * 1000 ≤ 1001 * 1000 := Nat.mul_le_mul_right _ (by omega)
        omega
      obtain ⟨f, hf⟩ : ∃ f, flatJ (lstA ls) = f := ⟨_, rfl⟩
      rw [hf] at hown hfl
      have HF := Lib.hid hf
      clear hf
      obtain ⟨fa, fc, rfl, hfr, _⟩ := Row.of_owns hown
      generalize wr = w4 at *
      clear hown HGL HGA H2
      go_wp2
      go_loopw [6, 7, 8] (fun l6 l7 v wr => ∃ (i : Nat) (least : Int) (is : Bool), i ≤ f.length ∧ l6 = .int .i64 least ∧ l7 = .bool is ∧ v = .int .i64 i ∧ Hid (ScanF f i 0 least is) ∧ Below w4.heap.size w4 wr) (fun _ _ v _ => f.length - (Go.RowKit.intOf v).toNat)
      case atStart => exact ⟨0, 0, false, by omega, rfl, rfl, rfl, Lib.hid (scan_zero f), Below.refl _ _⟩
      case round =>
        obtain ⟨i, least, is, hi, rfl, rfl, rfl, hS, hb4⟩ := hrel
        by_cases hlt2 : i < f.length
        · obtain ⟨x, hx⟩ : ∃ x, f[i]'hlt2 = x := ⟨_, rfl⟩
          have HX := Lib.hid hx
          clear hx
          go_wp2
          go_loopw [6, 7, 9] (fun l6 l7 v wr => ∃ (k : Nat) (least : Int) (is : Bool), k ≤ i ∧ l6 = .int .i64 least ∧ l7 = .bool is ∧ v = .int .i64 k ∧ Hid (ScanF f i k least is) ∧ Below w4.heap.size w4 wr) (fun _ _ v _ => f.length - (Go.RowKit.intOf v).toNat)
          case atStart => exact ⟨0, least, is, by omega, rfl, rfl, rfl, hS, hb4⟩
          case round =>
            obtain ⟨k, lk, ik, hk, rfl, rfl, rfl, hS2, hb5⟩ := hrel
            by_cases hltk : k < i
            · have hkf : k < f.length := by omega
              obtain ⟨y, hy⟩ : ∃ y, f[k]'hkf = y := ⟨_, rfl⟩
              obtain ⟨xb, xo, rfl, hxb, c0, c1, c2, c3, c4, c5, c6, c7⟩ := ap_cells (hfr.below0 hb5) hlt2
              obtain ⟨yb, yo, ey, hyb, d0, d1, d2, d3, d4, d5, d6, d7⟩ := ap_cells (hfr.below0 hb5) hkf
              cases ey
              have hstay := fun hn => hS2.out.stay hlt2 hltk hn
              have htake := fun h1 h2 => hS2.out.take hlt2 hltk h1 h2
              rw [HX.out] at c0 c1 c2 c3 c4 c5 c6 c7 hstay htake
              rw [hy] at d0 d1 d2 d3 d4 d5 d6 d7 hstay htake
              have HSTAY := Lib.hid hstay
              have HTAKE := Lib.hid htake
              obtain ⟨bi, hbi⟩ : ∃ b, (x.idx == y.idx) = b := ⟨_, rfl⟩
              obtain ⟨qe, hqe⟩ : ∃ b, eqE x.e y.e = b := ⟨_, rfl⟩
              obtain ⟨bl, hbl⟩ : ∃ b, decide (x.idx < lk) = b := ⟨_, rfl⟩
              have hne := fun w => run_neE x.e y.e w
              have hgu := fun p q u v w => run_gE p q u v w
              rw [hqe] at hne
              simp only [enA] at hne
              have HI := Lib.hid hbi
              have HE := Lib.hid hqe
              have HBL := Lib.hid hbl
              clear hstay htake hqe hy hS hS2
              cases bi
              case false =>
                have HN := Lib.hid (HSTAY.out (.inl (fun hb => by have := HI.out; rw [hb.1] at this; simp at this)))
                go_wp2
                go_big_quiet (fail)
                go_wp2
                go_roundw
                case rel => exact ⟨k + 1, lk, ik, by omega, rfl, rfl, by go_num, HN, below_drewN hb5 _⟩
                case measure => simp [Go.RowKit.intOf]; omega
              case true =>
                cases qe
                case true =>
                  have HN := Lib.hid (HSTAY.out (.inl (fun hb => hb.2 (eqE_iff.1 HE.out))))
                  go_wp2
                  go_big_quiet (fail)
                  go_wp2
                  go_roundw
                  case rel => exact ⟨k + 1, lk, ik, by omega, rfl, rfl, by go_num, HN, below_drewN hb5 _⟩
                  case measure => simp [Go.RowKit.intOf]; omega
                case false =>
                  have HB := Lib.hid (show badP x y from ⟨eq_of_beq HI.out, eqE_no.1 HE.out⟩)
                  cases ik
                  case false =>
                    have HN := Lib.hid (HTAKE.out HB.out (.inl rfl))
                    go_wp2
                    go_big_quiet (fail)
                    go_wp2
                    go_roundw
                    case rel => exact ⟨k + 1, x.idx, true, by omega, rfl, rfl, by go_num, HN, below_drewN hb5 _⟩
                    case measure => simp [Go.RowKit.intOf]; omega
                  case true =>
                    cases bl
                    case true =>
                      have HN := Lib.hid (HTAKE.out HB.out (.inr (of_decide_eq_true HBL.out)))
                      go_wp2
                      go_big_quiet (fail)
                      go_wp2
                      go_roundw
                      case rel => exact ⟨k + 1, x.idx, true, by omega, rfl, rfl, by go_num, HN, below_drewN hb5 _⟩
                      case measure => simp [Go.RowKit.intOf]; omega
                    case false =>
                      have HN := Lib.hid (HSTAY.out (.inr ⟨rfl, by have := of_decide_eq_false HBL.out; omega⟩))
                      go_wp2
                      go_big_quiet (fail)
                      go_wp2
                      go_roundw
                      case rel => exact ⟨k + 1, lk, true, by omega, rfl, rfl, by go_num, HN, below_drewN hb5 _⟩
                      case measure => simp [Go.RowKit.intOf]; omega
            · obtain rfl : k = i := by omega
              have HN := Lib.hid hS2.out.next
              clear hS hS2
              go_wp2
              go_roundw
              case rel => exact ⟨k + 1, lk, ik, by omega, rfl, rfl, by go_num, HN, hb5⟩
              case measure => simp [Go.RowKit.intOf]; omega
        · obtain rfl : i = f.length := by omega
          have HL := Lib.hid hS.out.last
          clear hS
          go_wp2
          go_ret
          refine ⟨?_, hbr.trans (hb4.mono hbr.size)⟩
          rw [HF.out, HL.out]
          rfl
end Go.Proofs.Ytkkoookmnnmiiaa

namespace Go.Proofs.Ytkkoookmnnmiiaa
open Go.RowKit

structure ScanC (P : List Ap) (q : Int → Bool) (best : Ap) (is : Bool) : Prop where
  no : is = false → ∀ x ∈ P, q x.idx = false
  yes : is = true → q best.idx = true ∧ firstJ P best.idx = some best.e ∧ ∀ x ∈ P, q x.idx = true → best.idx ≤ x.idx
section
variable {P : List Ap} {q : Int → Bool} {best x : Ap} {is : Bool}
theorem scanC_nil (q : Int → Bool) (best : Ap) : ScanC [] q best false := ⟨fun _ x hx => by simp at hx, fun h => by cases h⟩
theorem ScanC.skip (h : ScanC P q best is) (hq : q x.idx = false) : ScanC (P ++ [x]) q best is := by
  refine ⟨fun e y hy => ?_, fun e => ⟨(h.yes e).1, ?_, fun y hy hy2 => ?_⟩⟩
  · rcases List.mem_append.1 hy with hy | hy
    · exact h.no e y hy
    · rw [List.mem_singleton] at hy; rw [hy]; exact hq
  · rw [first_snoc, (h.yes e).2.1]
  · rcases List.mem_append.1 hy with hy | hy
    · exact (h.yes e).2.2 y hy hy2
    · rw [List.mem_singleton] at hy; rw [hy, hq] at hy2; cases hy2
theorem ScanC.keep (h : ScanC P q best true) (hl : best.idx ≤ x.idx) : ScanC (P ++ [x]) q best true := by
  refine ⟨fun e => (by cases e), fun e => ⟨(h.yes rfl).1, ?_, fun y hy hy2 => ?_⟩⟩
  · rw [first_snoc, (h.yes rfl).2.1]
  · rcases List.mem_append.1 hy with hy | hy
    · exact (h.yes rfl).2.2 y hy hy2
    · rw [List.mem_singleton] at hy; rw [hy]; exact hl
theorem ScanC.take (h : ScanC P q best is) (hq : q x.idx = true) (hl : is = false ∨ x.idx < best.idx) : ScanC (P ++ [x]) q x true := by
  have hno : firstJ P x.idx = none := by
    cases e : firstJ P x.idx with
    | none => rfl
    | some v =>
      exfalso
      obtain ⟨y, hy, e1, _⟩ := first_mem e
      cases is
      · have := h.no rfl y hy
        rw [e1, hq] at this
        cases this
      · have := (h.yes rfl).2.2 y hy (by rw [e1]; exact hq)
        rcases hl with hl | hl
        · cases hl
        · omega
  refine ⟨fun e => (by cases e), fun _ => ⟨hq, ?_, fun y hy hy2 => ?_⟩⟩
  · rw [first_snoc, hno]
    simp
  · rcases List.mem_append.1 hy with hy | hy
    · cases is
      · have := h.no rfl y hy
        rw [hy2] at this
        cases this
      · have := (h.yes rfl).2.2 y hy hy2
        rcases hl with hl | hl
        · cases hl
        · omega
    · rw [List.mem_singleton] at hy; rw [hy]; exact Int.le_refl _
/-- What is asked of an index, behind so many that are told. -/
def askC (C : List Ap) (n : Nat) (i : Int) : Bool := decide (n = 0) || decide ((C.getD (n - 1) ⟨0, zeroE⟩).idx < i)
theorem ask_zero (C : List Ap) (i : Int) : askC C 0 i = true := by simp [askC]
theorem ask_succ {C : List Ap} {n : Nat} (hn : n < C.length) {p : Int} (hp : C[n].idx = p) (i : Int) : askC C (n + 1) i = decide (p < i) := by
  unfold askC
  rw [Nat.add_sub_cancel, List.getD_eq_getElem?_getD, List.getElem?_eq_getElem hn, Option.getD_some, hp]
  simp
theorem ask_next {f : List Ap} {n j : Nat} (hj : j < (chosenJ f).length) (hn : n ≤ j) : askC (chosenJ f) n (chosenJ f)[j].idx = true := by
  cases n with
  | zero => exact ask_zero _ _
  | succ m =>
    rw [ask_succ (show m < (chosenJ f).length by omega) rfl, decide_eq_true_eq]
    exact rise_le f j m hj (by omega)
theorem chosen_key {f : List Ap} {j : Nat} (hj : j < (chosenJ f).length) : ∃ y ∈ f, y.idx = (chosenJ f)[j].idx := by
  obtain ⟨y, hy, e1, _⟩ := first_mem (chosen_mem (List.getElem_mem hj))
  exact ⟨y, hy, e1⟩
theorem scan_end {f : List Ap} {n : Nat} (hn : n ≤ (chosenJ f).length) (h : ScanC f (askC (chosenJ f) n) best is) : (is = false → n = (chosenJ f).length) ∧ (is = true → ∃ hl : n < (chosenJ f).length, (chosenJ f)[n] = best) := by
  refine ⟨fun e => ?_, fun e => ?_⟩
  · by_cases hl : n < (chosenJ f).length
    · exfalso
      obtain ⟨y, hy, e1⟩ := chosen_key hl
      have h1 := h.no e y hy
      rw [e1, ask_next hl (Nat.le_refl _)] at h1
      cases h1
    · omega
  · obtain ⟨h1, h2, h3⟩ := h.yes e
    have hk := first_key.1 (show (firstJ f best.idx).isSome = true by rw [h2]; rfl)
    obtain ⟨j, hj, hje⟩ := List.getElem_of_mem hk
    have hjc : j < (chosenJ f).length := by unfold chosenJ; rw [List.length_map]; exact hj
    have hce : (chosenJ f)[j] = best := by
      have h9 : (chosenJ f)[j] = atJ f (keysJ f)[j] := by
        unfold chosenJ
        exact List.getElem_map _
      rw [h9, hje]
      unfold atJ
      rw [h2]
      rfl
    have hnj : n ≤ j := by
      cases n with
      | zero => omega
      | succ m =>
        have hm : m < (chosenJ f).length := by omega
        rw [ask_succ hm rfl, decide_eq_true_eq] at h1
        by_cases hlt : j ≤ m
        · exfalso
          rcases Nat.lt_or_eq_of_le hlt with hlt | rfl
          · have := rise_le f m j hm hlt
            rw [hce] at this
            omega
          · rw [hce] at h1
            omega
        · omega
    have hjn : j = n := by
      by_cases hlt : n < j
      · exfalso
        have hl : n < (chosenJ f).length := by omega
        have h4 := rise_le f j n hjc hlt
        rw [hce] at h4
        obtain ⟨y, hy, e1⟩ := chosen_key hl
        have h5 := h3 y hy (by rw [e1]; exact ask_next hl (Nat.le_refl _))
        omega
      · omega
    subst hjn
    exact ⟨hjc, hce⟩
end
def lenV (v : Value) : Nat := match v with | .slice _ n _ => n | _ => 0
end Go.Proofs.Ytkkoookmnnmiiaa

namespace Go.Proofs.Ytkkoookmnnmiiaa
open Go.RowKit

set_option maxRecDepth 100000 in
set_option maxHeartbeats 4000000 in
theorem rright_any {a : Option Addr} {l : List Ap} {c : Nat} {w : World} (ha : Row w a (aps l)) (hl : l.length ≤ 1000000000000) : Calls Try.prog 17 #[.slice a l.length c] w fun e w' => e = .returned (.bool (rightJ l)) ∧ Below w.heap.size w w' := by
  have HNO := Lib.hid (fun (k : Nat) (hk : k < l.length) => right_no (l := l) hk)
  have HYES := Lib.hid (right_at (l := l))
  go_enter Try.func17, Try.ntmps17
  go_wp2
  go_loopw [3] (fun i wr => ∃ k : Nat, k ≤ l.length ∧ i = .int .i64 k ∧ Hid (∀ j (hj : j < l.length), j < k → okR l j l[j] = true) ∧ Below w.heap.size w wr) (fun i _ => l.length - (Go.RowKit.intOf i).toNat)
  case atStart => exact ⟨0, by omega, rfl, Lib.hid (fun j hj h => absurd h (by omega)), Below.refl _ _⟩
  case round =>
    obtain ⟨k, hk, rfl, hT, hbr⟩ := hrel
    by_cases hlt : k < l.length
    · have HI1 := Lib.hid (show k + 1 ≤ l.length by omega)
      have HNK := Lib.hid (fun h : okR l k (l[k]'hlt) = false => HNO.out k hlt h)
      have HST := Lib.hid (fun (h : okR l k (l[k]'hlt) = true) j (hj : j < l.length) (h2 : j < k + 1) => show okR l j l[j] = true by
        rcases Nat.lt_succ_iff_lt_or_eq.1 h2 with h3 | rfl
        · exact hT.out j hj h3
        · exact h)
      have HPJ := Lib.hid (fun (j : Nat) (h : j + 1 = k) => show ∃ hj : j < l.length, 1 ≤ l[j].idx ∧ l[j].idx ≤ 1099511627776 by
        have hj : j < l.length := by omega
        exact ⟨hj, okF_le (okR_F (hT.out j hj (by omega)))⟩)
      obtain ⟨b, off, rfl, hb1, c0, c1, c2, c3, c4, c5, c6, c7⟩ := ap_cells (ha.below0 hbr) hlt
      obtain ⟨x, hx⟩ : ∃ x, l[k]'hlt = x := ⟨_, rfl⟩
      rw [hx] at HNK HST c0 c1 c2 c3 c4 c5 c6 c7
      have hN := fun w => rnone_any x.e w
      have hM := fun w => fmay_any x.e w _ rfl
      obtain ⟨bn, hbn⟩ : ∃ b, noneE x.e = b := ⟨_, rfl⟩
      obtain ⟨bm, hbm⟩ : ∃ b, mayE x.e = b := ⟨_, rfl⟩
      obtain ⟨b1, i1⟩ : ∃ b, decide (x.idx < 1) = b := ⟨_, rfl⟩
      obtain ⟨b2, i2⟩ : ∃ b, decide (1099511627776 < x.idx) = b := ⟨_, rfl⟩
      rw [hbn] at hN
      rw [hbm] at hM
      simp only [enA] at hN hM
      have HBN := Lib.hid hbn
      have HBM := Lib.hid hbm
      clear hx hbn hbm hT
      have B4 := heap_alloc_new wr (Obj.cells (apA x) 36)
      obtain ⟨d0, d1, d2, d3, d4, d5, d6, d7⟩ := apA_cells B4
      have hwX : Below w.heap.size w (wr.alloc (Obj.cells (apA x) 36)) := hbr.trans ((blw wr (Obj.cells (apA x) 36)).mono hbr.size)
      cases b1
      case true =>
        have hr : okR l k x = false := by
          cases k with
          | zero => rw [okR_cases0 i1 i2 HBN.out HBM.out]; rfl
          | succ j =>
            obtain ⟨hj, _⟩ := HPJ.out j rfl
            rw [okR_casesS hj rfl i1 i2 HBN.out HBM.out rfl rfl]; rfl
        have HR := Lib.hid hr
        clear hr
        go_wp2_with (first | ((first | (with_reducible refine wpList_stNew 36 _ _ ?_) | (with_reducible refine wp_stNew 36 _ _ ?_)); refine ⟨_, _, ⟨Try.sizeOf36, rfl, apA_new x⟩, rfl, ?_⟩) | (go_at_call 35; refine (hN _).mono ?_; rintro e wA ⟨rfl, hbN⟩; have d0 := keepJ hbN d0; have d1 := keepJ hbN d1; have d2 := keepJ hbN d2; have d3 := keepJ hbN d3; have d4 := keepJ hbN d4; have d5 := keepJ hbN d5; have d6 := keepJ hbN d6; have d7 := keepJ hbN d7;  have hwX := hwX.trans (hbN.mono hwX.size)) | (go_at_call 36; refine (hM _).mono ?_; rintro e wA ⟨rfl, hbN⟩; have d0 := keepJ hbN d0; have d1 := keepJ hbN d1; have d2 := keepJ hbN d2; have d3 := keepJ hbN d3; have d4 := keepJ hbN d4; have d5 := keepJ hbN d5; have d6 := keepJ hbN d6; have d7 := keepJ hbN d7;  have hwX := hwX.trans (hbN.mono hwX.size)))
        go_ret
        have hz := HNK.out HR.out
        refine ⟨?_, hwX⟩
        rw [hz]
        rfl
      case false =>
        cases b2
        case true =>
          have hr : okR l k x = false := by
            cases k with
            | zero => rw [okR_cases0 i1 i2 HBN.out HBM.out]; rfl
            | succ j =>
              obtain ⟨hj, _⟩ := HPJ.out j rfl
              rw [okR_casesS hj rfl i1 i2 HBN.out HBM.out rfl rfl]; rfl
          have HR := Lib.hid hr
          clear hr
          go_wp2_with (first | ((first | (with_reducible refine wpList_stNew 36 _ _ ?_) | (with_reducible refine wp_stNew 36 _ _ ?_)); refine ⟨_, _, ⟨Try.sizeOf36, rfl, apA_new x⟩, rfl, ?_⟩) | (go_at_call 35; refine (hN _).mono ?_; rintro e wA ⟨rfl, hbN⟩; have d0 := keepJ hbN d0; have d1 := keepJ hbN d1; have d2 := keepJ hbN d2; have d3 := keepJ hbN d3; have d4 := keepJ hbN d4; have d5 := keepJ hbN d5; have d6 := keepJ hbN d6; have d7 := keepJ hbN d7;  have hwX := hwX.trans (hbN.mono hwX.size)) | (go_at_call 36; refine (hM _).mono ?_; rintro e wA ⟨rfl, hbN⟩; have d0 := keepJ hbN d0; have d1 := keepJ hbN d1; have d2 := keepJ hbN d2; have d3 := keepJ hbN d3; have d4 := keepJ hbN d4; have d5 := keepJ hbN d5; have d6 := keepJ hbN d6; have d7 := keepJ hbN d7;  have hwX := hwX.trans (hbN.mono hwX.size)))
          go_ret
          have hz := HNK.out HR.out
          refine ⟨?_, hwX⟩
          rw [hz]
          rfl
        case false =>
          cases bn
          case false =>
            cases bm
            case false =>
              have hr : okR l k x = false := by
                cases k with
                | zero => rw [okR_cases0 i1 i2 HBN.out HBM.out]; rfl
                | succ j =>
                  obtain ⟨hj, _⟩ := HPJ.out j rfl
                  rw [okR_casesS hj rfl i1 i2 HBN.out HBM.out rfl rfl]; rfl
              have HR := Lib.hid hr
              clear hr
              go_wp2_with (first | ((first | (with_reducible refine wpList_stNew 36 _ _ ?_) | (with_reducible refine wp_stNew 36 _ _ ?_)); refine ⟨_, _, ⟨Try.sizeOf36, rfl, apA_new x⟩, rfl, ?_⟩) | (go_at_call 35; refine (hN _).mono ?_; rintro e wA ⟨rfl, hbN⟩; have d0 := keepJ hbN d0; have d1 := keepJ hbN d1; have d2 := keepJ hbN d2; have d3 := keepJ hbN d3; have d4 := keepJ hbN d4; have d5 := keepJ hbN d5; have d6 := keepJ hbN d6; have d7 := keepJ hbN d7;  have hwX := hwX.trans (hbN.mono hwX.size)) | (go_at_call 36; refine (hM _).mono ?_; rintro e wA ⟨rfl, hbN⟩; have d0 := keepJ hbN d0; have d1 := keepJ hbN d1; have d2 := keepJ hbN d2; have d3 := keepJ hbN d3; have d4 := keepJ hbN d4; have d5 := keepJ hbN d5; have d6 := keepJ hbN d6; have d7 := keepJ hbN d7;  have hwX := hwX.trans (hbN.mono hwX.size)))
              go_ret
              have hz := HNK.out HR.out
              refine ⟨?_, hwX⟩
              rw [hz]
              rfl
            case true =>
              cases k with
              | zero =>
                simp only [Nat.zero_mul, Nat.add_zero] at c0 c1 c2 c3 c4 c5 c6 c7
                have hr : okR l 0 x = true := by
                  rw [okR_cases0 i1 i2 HBN.out HBM.out]; rfl
                have HR := Lib.hid hr
                clear hr
                go_wp2_with (first | ((first | (with_reducible refine wpList_stNew 36 _ _ ?_) | (with_reducible refine wp_stNew 36 _ _ ?_)); refine ⟨_, _, ⟨Try.sizeOf36, rfl, apA_new x⟩, rfl, ?_⟩) | (go_at_call 35; refine (hN _).mono ?_; rintro e wA ⟨rfl, hbN⟩; have d0 := keepJ hbN d0; have d1 := keepJ hbN d1; have d2 := keepJ hbN d2; have d3 := keepJ hbN d3; have d4 := keepJ hbN d4; have d5 := keepJ hbN d5; have d6 := keepJ hbN d6; have d7 := keepJ hbN d7;  have hwX := hwX.trans (hbN.mono hwX.size)) | (go_at_call 36; refine (hM _).mono ?_; rintro e wA ⟨rfl, hbN⟩; have d0 := keepJ hbN d0; have d1 := keepJ hbN d1; have d2 := keepJ hbN d2; have d3 := keepJ hbN d3; have d4 := keepJ hbN d4; have d5 := keepJ hbN d5; have d6 := keepJ hbN d6; have d7 := keepJ hbN d7;  have hwX := hwX.trans (hbN.mono hwX.size)))
                have U0 := under_cell d0
                have U1 := under_cell d1
                have U2 := under_cell d2
                have U3 := under_cell d3
                have U4 := under_cell d4
                have U5 := under_cell d5
                have U6 := under_cell d6
                have U7 := under_cell d7
                refine wp_region_under (by kernel_rfl) (by kernel_rfl) ?_
                repeat (first | go_big_quiet_step ((go_at_call 35; exact under_call (hN _))) | ((with_reducible refine wpQuiet_skip ?_ ?_) ; (focus rfl); (try simp only [Act.put]); (try simp only [List.setIfInBounds_toArray]); (try simp only [List.set_cons_succ]); (try simp only [List.set_cons_zero])))
                refine wpQuiet_nil ?_
                intro _ hw'
                obtain ⟨xU, hw''⟩ := hw'
                subst hw''
                have hbU := under_below wA xU
                have d0 := keepJ hbU d0
                have d1 := keepJ hbU d1
                have d2 := keepJ hbU d2
                have d3 := keepJ hbU d3
                have d4 := keepJ hbU d4
                have d5 := keepJ hbU d5
                have d6 := keepJ hbU d6
                have d7 := keepJ hbU d7
                have hwX := hwX.trans (hbU.mono hwX.size)
                generalize Under wA xU = wB at *
                clear hbU U0 U1 U2 U3 U4 U5 U6 U7
                go_wp2
                have U0 := under_cell d0
                have U1 := under_cell d1
                have U2 := under_cell d2
                have U3 := under_cell d3
                have U4 := under_cell d4
                have U5 := under_cell d5
                have U6 := under_cell d6
                have U7 := under_cell d7
                refine wp_region_under (by kernel_rfl) (by kernel_rfl) ?_
                repeat (first | go_big_quiet_step ((go_at_call 35; exact under_call (hN _))) | ((with_reducible refine wpQuiet_skip ?_ ?_) ; (focus rfl); (try simp only [Act.put]); (try simp only [List.setIfInBounds_toArray]); (try simp only [List.set_cons_succ]); (try simp only [List.set_cons_zero])))
                refine wpQuiet_nil ?_
                intro _ hw'
                obtain ⟨xU, hw''⟩ := hw'
                subst hw''
                have hbU := under_below wB xU
                have d0 := keepJ hbU d0
                have d1 := keepJ hbU d1
                have d2 := keepJ hbU d2
                have d3 := keepJ hbU d3
                have d4 := keepJ hbU d4
                have d5 := keepJ hbU d5
                have d6 := keepJ hbU d6
                have d7 := keepJ hbU d7
                have hwX := hwX.trans (hbU.mono hwX.size)
                generalize Under wB xU = wB at *
                clear hbU U0 U1 U2 U3 U4 U5 U6 U7
                go_wp2
                go_roundw
                case rel => exact ⟨0 + 1, HI1.out, by go_num, Lib.hid (HST.out HR.out), hwX⟩
                case measure => have := HI1.out; simp [Go.RowKit.intOf]; omega
              | succ j =>
                obtain ⟨hj, hq1, hq2⟩ := HPJ.out j rfl
                obtain ⟨_, _, e3, _, z0, _⟩ := ap_cells (ha.below0 hbr) hj
                cases e3
                obtain ⟨p, hp⟩ : ∃ p, (l[j]'hj).idx = p := ⟨_, rfl⟩
                rw [hp] at z0 hq1 hq2
                have HP := Lib.hid hp
                clear hp
                have z0 := keepJ (blw wr (Obj.cells (apA x) 36)) z0
                obtain ⟨b3, i3⟩ : ∃ b, decide (x.idx ≤ p) = b := ⟨_, rfl⟩
                obtain ⟨b4, i4⟩ : ∃ b, (x.idx - 1 != p) = b := ⟨_, rfl⟩
                have i5 : wrap64 ((j : Int) + 1 - 1) = (j : Int) := by unfold wrap64; omega
                have i6 : decide ((0 : Int) < (j : Int) + 1) = true := by rw [decide_eq_true_eq]; omega
                have i7 : wrap64 (x.idx - 1) = x.idx - 1 := by
                  have := of_decide_eq_false i1
                  have := of_decide_eq_false i2
                  unfold wrap64
                  omega
                cases b4
                case true =>
                  have hr : okR l (j + 1) x = false := by
                    rw [okR_casesS hj HP.out i1 i2 HBN.out HBM.out i3 i4]; rfl
                  have HR := Lib.hid hr
                  clear hr
                  go_wp2_with (first | ((first | (with_reducible refine wpList_stNew 36 _ _ ?_) | (with_reducible refine wp_stNew 36 _ _ ?_)); refine ⟨_, _, ⟨Try.sizeOf36, rfl, apA_new x⟩, rfl, ?_⟩) | (go_at_call 35; refine (hN _).mono ?_; rintro e wA ⟨rfl, hbN⟩; have d0 := keepJ hbN d0; have d1 := keepJ hbN d1; have d2 := keepJ hbN d2; have d3 := keepJ hbN d3; have d4 := keepJ hbN d4; have d5 := keepJ hbN d5; have d6 := keepJ hbN d6; have d7 := keepJ hbN d7; have z0 := keepJ hbN z0; have hwX := hwX.trans (hbN.mono hwX.size)) | (go_at_call 36; refine (hM _).mono ?_; rintro e wA ⟨rfl, hbN⟩; have d0 := keepJ hbN d0; have d1 := keepJ hbN d1; have d2 := keepJ hbN d2; have d3 := keepJ hbN d3; have d4 := keepJ hbN d4; have d5 := keepJ hbN d5; have d6 := keepJ hbN d6; have d7 := keepJ hbN d7; have z0 := keepJ hbN z0; have hwX := hwX.trans (hbN.mono hwX.size)))
                  have U0 := under_cell d0
                  have U1 := under_cell d1
                  have U2 := under_cell d2
                  have U3 := under_cell d3
                  have U4 := under_cell d4
                  have U5 := under_cell d5
                  have U6 := under_cell d6
                  have U7 := under_cell d7
                  have UZ := under_cell z0
                  refine wp_region_under (by kernel_rfl) (by kernel_rfl) ?_
                  repeat (first | go_big_quiet_step ((go_at_call 35; exact under_call (hN _))) | ((with_reducible refine wpQuiet_skip ?_ ?_) ; (focus rfl); (try simp only [Act.put]); (try simp only [List.setIfInBounds_toArray]); (try simp only [List.set_cons_succ]); (try simp only [List.set_cons_zero])))
                  refine wpQuiet_nil ?_
                  intro _ hw'
                  obtain ⟨xU, hw''⟩ := hw'
                  subst hw''
                  have hbU := under_below wA xU
                  have d0 := keepJ hbU d0
                  have d1 := keepJ hbU d1
                  have d2 := keepJ hbU d2
                  have d3 := keepJ hbU d3
                  have d4 := keepJ hbU d4
                  have d5 := keepJ hbU d5
                  have d6 := keepJ hbU d6
                  have d7 := keepJ hbU d7
                  have z0 := keepJ hbU z0
                  have hwX := hwX.trans (hbU.mono hwX.size)
                  generalize Under wA xU = wB at *
                  clear hbU U0 U1 U2 U3 U4 U5 U6 U7 UZ
                  go_wp2
                  have U0 := under_cell d0
                  have U1 := under_cell d1
                  have U2 := under_cell d2
                  have U3 := under_cell d3
                  have U4 := under_cell d4
                  have U5 := under_cell d5
                  have U6 := under_cell d6
                  have U7 := under_cell d7
                  have UZ := under_cell z0
                  refine wp_region_under (by kernel_rfl) (by kernel_rfl) ?_
                  repeat (first | go_big_quiet_step ((go_at_call 35; exact under_call (hN _))) | ((with_reducible refine wpQuiet_skip ?_ ?_) ; (focus rfl); (try simp only [Act.put]); (try simp only [List.setIfInBounds_toArray]); (try simp only [List.set_cons_succ]); (try simp only [List.set_cons_zero])))
                  refine wpQuiet_nil ?_
                  intro _ hw'
                  obtain ⟨xU, hw''⟩ := hw'
                  subst hw''
                  have hbU := under_below wB xU
                  have d0 := keepJ hbU d0
                  have d1 := keepJ hbU d1
                  have d2 := keepJ hbU d2
                  have d3 := keepJ hbU d3
                  have d4 := keepJ hbU d4
                  have d5 := keepJ hbU d5
                  have d6 := keepJ hbU d6
                  have d7 := keepJ hbU d7
                  have z0 := keepJ hbU z0
                  have hwX := hwX.trans (hbU.mono hwX.size)
                  generalize Under wB xU = wB at *
                  clear hbU U0 U1 U2 U3 U4 U5 U6 U7 UZ
                  go_wp2
                  go_ret
                  have hz := HNK.out HR.out
                  refine ⟨?_, hwX⟩
                  rw [hz]
                  rfl
                case false =>
                  have hr : okR l (j + 1) x = true := by
                    rw [okR_casesS hj HP.out i1 i2 HBN.out HBM.out i3 i4]; rfl
                  have HR := Lib.hid hr
                  clear hr
                  go_wp2_with (first | ((first | (with_reducible refine wpList_stNew 36 _ _ ?_) | (with_reducible refine wp_stNew 36 _ _ ?_)); refine ⟨_, _, ⟨Try.sizeOf36, rfl, apA_new x⟩, rfl, ?_⟩) | (go_at_call 35; refine (hN _).mono ?_; rintro e wA ⟨rfl, hbN⟩; have d0 := keepJ hbN d0; have d1 := keepJ hbN d1; have d2 := keepJ hbN d2; have d3 := keepJ hbN d3; have d4 := keepJ hbN d4; have d5 := keepJ hbN d5; have d6 := keepJ hbN d6; have d7 := keepJ hbN d7; have z0 := keepJ hbN z0; have hwX := hwX.trans (hbN.mono hwX.size)) | (go_at_call 36; refine (hM _).mono ?_; rintro e wA ⟨rfl, hbN⟩; have d0 := keepJ hbN d0; have d1 := keepJ hbN d1; have d2 := keepJ hbN d2; have d3 := keepJ hbN d3; have d4 := keepJ hbN d4; have d5 := keepJ hbN d5; have d6 := keepJ hbN d6; have d7 := keepJ hbN d7; have z0 := keepJ hbN z0; have hwX := hwX.trans (hbN.mono hwX.size)))
                  have U0 := under_cell d0
                  have U1 := under_cell d1
                  have U2 := under_cell d2
                  have U3 := under_cell d3
                  have U4 := under_cell d4
                  have U5 := under_cell d5
                  have U6 := under_cell d6
                  have U7 := under_cell d7
                  have UZ := under_cell z0
                  refine wp_region_under (by kernel_rfl) (by kernel_rfl) ?_
                  repeat (first | go_big_quiet_step ((go_at_call 35; exact under_call (hN _))) | ((with_reducible refine wpQuiet_skip ?_ ?_) ; (focus rfl); (try simp only [Act.put]); (try simp only [List.setIfInBounds_toArray]); (try simp only [List.set_cons_succ]); (try simp only [List.set_cons_zero])))
                  refine wpQuiet_nil ?_
                  intro _ hw'
                  obtain ⟨xU, hw''⟩ := hw'
                  subst hw''
                  have hbU := under_below wA xU
                  have d0 := keepJ hbU d0
                  have d1 := keepJ hbU d1
                  have d2 := keepJ hbU d2
                  have d3 := keepJ hbU d3
                  have d4 := keepJ hbU d4
                  have d5 := keepJ hbU d5
                  have d6 := keepJ hbU d6
                  have d7 := keepJ hbU d7
                  have z0 := keepJ hbU z0
                  have hwX := hwX.trans (hbU.mono hwX.size)
                  generalize Under wA xU = wB at *
                  clear hbU U0 U1 U2 U3 U4 U5 U6 U7 UZ
                  go_wp2
                  have U0 := under_cell d0
                  have U1 := under_cell d1
                  have U2 := under_cell d2
                  have U3 := under_cell d3
                  have U4 := under_cell d4
                  have U5 := under_cell d5
                  have U6 := under_cell d6
                  have U7 := under_cell d7
                  have UZ := under_cell z0
                  refine wp_region_under (by kernel_rfl) (by kernel_rfl) ?_
                  repeat (first | go_big_quiet_step ((go_at_call 35; exact under_call (hN _))) | ((with_reducible refine wpQuiet_skip ?_ ?_) ; (focus rfl); (try simp only [Act.put]); (try simp only [List.setIfInBounds_toArray]); (try simp only [List.set_cons_succ]); (try simp only [List.set_cons_zero])))
                  refine wpQuiet_nil ?_
                  intro _ hw'
                  obtain ⟨xU, hw''⟩ := hw'
                  subst hw''
                  have hbU := under_below wB xU
                  have d0 := keepJ hbU d0
                  have d1 := keepJ hbU d1
                  have d2 := keepJ hbU d2
                  have d3 := keepJ hbU d3
                  have d4 := keepJ hbU d4
                  have d5 := keepJ hbU d5
                  have d6 := keepJ hbU d6
                  have d7 := keepJ hbU d7
                  have z0 := keepJ hbU z0
                  have hwX := hwX.trans (hbU.mono hwX.size)
                  generalize Under wB xU = wB at *
                  clear hbU U0 U1 U2 U3 U4 U5 U6 U7 UZ
                  go_wp2
                  go_roundw
                  case rel => exact ⟨(j + 1) + 1, HI1.out, by go_num, Lib.hid (HST.out HR.out), hwX⟩
                  case measure => have := HI1.out; simp [Go.RowKit.intOf]; omega
          case true =>
            cases k with
            | zero =>
              simp only [Nat.zero_mul, Nat.add_zero] at c0 c1 c2 c3 c4 c5 c6 c7
              have hr : okR l 0 x = true := by
                rw [okR_cases0 i1 i2 HBN.out HBM.out]; cases bm <;> rfl
              have HR := Lib.hid hr
              clear hr
              go_wp2_with (first | ((first | (with_reducible refine wpList_stNew 36 _ _ ?_) | (with_reducible refine wp_stNew 36 _ _ ?_)); refine ⟨_, _, ⟨Try.sizeOf36, rfl, apA_new x⟩, rfl, ?_⟩) | (go_at_call 35; refine (hN _).mono ?_; rintro e wA ⟨rfl, hbN⟩; have d0 := keepJ hbN d0; have d1 := keepJ hbN d1; have d2 := keepJ hbN d2; have d3 := keepJ hbN d3; have d4 := keepJ hbN d4; have d5 := keepJ hbN d5; have d6 := keepJ hbN d6; have d7 := keepJ hbN d7;  have hwX := hwX.trans (hbN.mono hwX.size)) | (go_at_call 36; refine (hM _).mono ?_; rintro e wA ⟨rfl, hbN⟩; have d0 := keepJ hbN d0; have d1 := keepJ hbN d1; have d2 := keepJ hbN d2; have d3 := keepJ hbN d3; have d4 := keepJ hbN d4; have d5 := keepJ hbN d5; have d6 := keepJ hbN d6; have d7 := keepJ hbN d7;  have hwX := hwX.trans (hbN.mono hwX.size)))
              have U0 := under_cell d0
              have U1 := under_cell d1
              have U2 := under_cell d2
              have U3 := under_cell d3
              have U4 := under_cell d4
              have U5 := under_cell d5
              have U6 := under_cell d6
              have U7 := under_cell d7
              refine wp_region_under (by kernel_rfl) (by kernel_rfl) ?_
              repeat (first | go_big_quiet_step ((go_at_call 35; exact under_call (hN _))) | ((with_reducible refine wpQuiet_skip ?_ ?_) ; (focus rfl); (try simp only [Act.put]); (try simp only [List.setIfInBounds_toArray]); (try simp only [List.set_cons_succ]); (try simp only [List.set_cons_zero])))
              refine wpQuiet_nil ?_
              intro _ hw'
              obtain ⟨xU, hw''⟩ := hw'
              subst hw''
              have hbU := under_below wA xU
              have d0 := keepJ hbU d0
              have d1 := keepJ hbU d1
              have d2 := keepJ hbU d2
              have d3 := keepJ hbU d3
              have d4 := keepJ hbU d4
              have d5 := keepJ hbU d5
              have d6 := keepJ hbU d6
              have d7 := keepJ hbU d7
              have hwX := hwX.trans (hbU.mono hwX.size)
              generalize Under wA xU = wB at *
              clear hbU U0 U1 U2 U3 U4 U5 U6 U7
              go_wp2
              have U0 := under_cell d0
              have U1 := under_cell d1
              have U2 := under_cell d2
              have U3 := under_cell d3
              have U4 := under_cell d4
              have U5 := under_cell d5
              have U6 := under_cell d6
              have U7 := under_cell d7
              refine wp_region_under (by kernel_rfl) (by kernel_rfl) ?_
              repeat (first | go_big_quiet_step ((go_at_call 35; exact under_call (hN _))) | ((with_reducible refine wpQuiet_skip ?_ ?_) ; (focus rfl); (try simp only [Act.put]); (try simp only [List.setIfInBounds_toArray]); (try simp only [List.set_cons_succ]); (try simp only [List.set_cons_zero])))
              refine wpQuiet_nil ?_
              intro _ hw'
              obtain ⟨xU, hw''⟩ := hw'
              subst hw''
              have hbU := under_below wB xU
              have d0 := keepJ hbU d0
              have d1 := keepJ hbU d1
              have d2 := keepJ hbU d2
              have d3 := keepJ hbU d3
              have d4 := keepJ hbU d4
              have d5 := keepJ hbU d5
              have d6 := keepJ hbU d6
              have d7 := keepJ hbU d7
              have hwX := hwX.trans (hbU.mono hwX.size)
              generalize Under wB xU = wB at *
              clear hbU U0 U1 U2 U3 U4 U5 U6 U7
              go_wp2
              go_roundw
              case rel => exact ⟨0 + 1, HI1.out, by go_num, Lib.hid (HST.out HR.out), hwX⟩
              case measure => have := HI1.out; simp [Go.RowKit.intOf]; omega
            | succ j =>
              obtain ⟨hj, hq1, hq2⟩ := HPJ.out j rfl
              obtain ⟨_, _, e3, _, z0, _⟩ := ap_cells (ha.below0 hbr) hj
              cases e3
              obtain ⟨p, hp⟩ : ∃ p, (l[j]'hj).idx = p := ⟨_, rfl⟩
              rw [hp] at z0 hq1 hq2
              have HP := Lib.hid hp
              clear hp
              have z0 := keepJ (blw wr (Obj.cells (apA x) 36)) z0
              obtain ⟨b3, i3⟩ : ∃ b, decide (x.idx ≤ p) = b := ⟨_, rfl⟩
              obtain ⟨b4, i4⟩ : ∃ b, (x.idx - 1 != p) = b := ⟨_, rfl⟩
              have i5 : wrap64 ((j : Int) + 1 - 1) = (j : Int) := by unfold wrap64; omega
              have i6 : decide ((0 : Int) < (j : Int) + 1) = true := by rw [decide_eq_true_eq]; omega
              have i7 : wrap64 (x.idx - 1) = x.idx - 1 := by
                have := of_decide_eq_false i1
                have := of_decide_eq_false i2
                unfold wrap64
                omega
              cases b3
              case true =>
                have hr : okR l (j + 1) x = false := by
                  rw [okR_casesS hj HP.out i1 i2 HBN.out HBM.out i3 i4]; cases bm <;> rfl
                have HR := Lib.hid hr
                clear hr
                go_wp2_with (first | ((first | (with_reducible refine wpList_stNew 36 _ _ ?_) | (with_reducible refine wp_stNew 36 _ _ ?_)); refine ⟨_, _, ⟨Try.sizeOf36, rfl, apA_new x⟩, rfl, ?_⟩) | (go_at_call 35; refine (hN _).mono ?_; rintro e wA ⟨rfl, hbN⟩; have d0 := keepJ hbN d0; have d1 := keepJ hbN d1; have d2 := keepJ hbN d2; have d3 := keepJ hbN d3; have d4 := keepJ hbN d4; have d5 := keepJ hbN d5; have d6 := keepJ hbN d6; have d7 := keepJ hbN d7; have z0 := keepJ hbN z0; have hwX := hwX.trans (hbN.mono hwX.size)) | (go_at_call 36; refine (hM _).mono ?_; rintro e wA ⟨rfl, hbN⟩; have d0 := keepJ hbN d0; have d1 := keepJ hbN d1; have d2 := keepJ hbN d2; have d3 := keepJ hbN d3; have d4 := keepJ hbN d4; have d5 := keepJ hbN d5; have d6 := keepJ hbN d6; have d7 := keepJ hbN d7; have z0 := keepJ hbN z0; have hwX := hwX.trans (hbN.mono hwX.size)))
                have U0 := under_cell d0
                have U1 := under_cell d1
                have U2 := under_cell d2
                have U3 := under_cell d3
                have U4 := under_cell d4
                have U5 := under_cell d5
                have U6 := under_cell d6
                have U7 := under_cell d7
                have UZ := under_cell z0
                refine wp_region_under (by kernel_rfl) (by kernel_rfl) ?_
                repeat (first | go_big_quiet_step ((go_at_call 35; exact under_call (hN _))) | ((with_reducible refine wpQuiet_skip ?_ ?_) ; (focus rfl); (try simp only [Act.put]); (try simp only [List.setIfInBounds_toArray]); (try simp only [List.set_cons_succ]); (try simp only [List.set_cons_zero])))
                refine wpQuiet_nil ?_
                intro _ hw'
                obtain ⟨xU, hw''⟩ := hw'
                subst hw''
                have hbU := under_below wA xU
                have d0 := keepJ hbU d0
                have d1 := keepJ hbU d1
                have d2 := keepJ hbU d2
                have d3 := keepJ hbU d3
                have d4 := keepJ hbU d4
                have d5 := keepJ hbU d5
                have d6 := keepJ hbU d6
                have d7 := keepJ hbU d7
                have z0 := keepJ hbU z0
                have hwX := hwX.trans (hbU.mono hwX.size)
                generalize Under wA xU = wB at *
                clear hbU U0 U1 U2 U3 U4 U5 U6 U7 UZ
                go_wp2
                go_ret
                have hz := HNK.out HR.out
                refine ⟨?_, hwX⟩
                rw [hz]
                rfl
              case false =>
                have hr : okR l (j + 1) x = true := by
                  rw [okR_casesS hj HP.out i1 i2 HBN.out HBM.out i3 i4]; cases bm <;> rfl
                have HR := Lib.hid hr
                clear hr
                go_wp2_with (first | ((first | (with_reducible refine wpList_stNew 36 _ _ ?_) | (with_reducible refine wp_stNew 36 _ _ ?_)); refine ⟨_, _, ⟨Try.sizeOf36, rfl, apA_new x⟩, rfl, ?_⟩) | (go_at_call 35; refine (hN _).mono ?_; rintro e wA ⟨rfl, hbN⟩; have d0 := keepJ hbN d0; have d1 := keepJ hbN d1; have d2 := keepJ hbN d2; have d3 := keepJ hbN d3; have d4 := keepJ hbN d4; have d5 := keepJ hbN d5; have d6 := keepJ hbN d6; have d7 := keepJ hbN d7; have z0 := keepJ hbN z0; have hwX := hwX.trans (hbN.mono hwX.size)) | (go_at_call 36; refine (hM _).mono ?_; rintro e wA ⟨rfl, hbN⟩; have d0 := keepJ hbN d0; have d1 := keepJ hbN d1; have d2 := keepJ hbN d2; have d3 := keepJ hbN d3; have d4 := keepJ hbN d4; have d5 := keepJ hbN d5; have d6 := keepJ hbN d6; have d7 := keepJ hbN d7; have z0 := keepJ hbN z0; have hwX := hwX.trans (hbN.mono hwX.size)))
                have U0 := under_cell d0
                have U1 := under_cell d1
                have U2 := under_cell d2
                have U3 := under_cell d3
                have U4 := under_cell d4
                have U5 := under_cell d5
                have U6 := under_cell d6
                have U7 := under_cell d7
                have UZ := under_cell z0
                refine wp_region_under (by kernel_rfl) (by kernel_rfl) ?_
                repeat (first | go_big_quiet_step ((go_at_call 35; exact under_call (hN _))) | ((with_reducible refine wpQuiet_skip ?_ ?_) ; (focus rfl); (try simp only [Act.put]); (try simp only [List.setIfInBounds_toArray]); (try simp only [List.set_cons_succ]); (try simp only [List.set_cons_zero])))
                refine wpQuiet_nil ?_
                intro _ hw'
                obtain ⟨xU, hw''⟩ := hw'
                subst hw''
                have hbU := under_below wA xU
                have d0 := keepJ hbU d0
                have d1 := keepJ hbU d1
                have d2 := keepJ hbU d2
                have d3 := keepJ hbU d3
                have d4 := keepJ hbU d4
                have d5 := keepJ hbU d5
                have d6 := keepJ hbU d6
                have d7 := keepJ hbU d7
                have z0 := keepJ hbU z0
                have hwX := hwX.trans (hbU.mono hwX.size)
                generalize Under wA xU = wB at *
                clear hbU U0 U1 U2 U3 U4 U5 U6 U7 UZ
                go_wp2
                have U0 := under_cell d0
                have U1 := under_cell d1
                have U2 := under_cell d2
                have U3 := under_cell d3
                have U4 := under_cell d4
                have U5 := under_cell d5
                have U6 := under_cell d6
                have U7 := under_cell d7
                have UZ := under_cell z0
                refine wp_region_under (by kernel_rfl) (by kernel_rfl) ?_
                repeat (first | go_big_quiet_step ((go_at_call 35; exact under_call (hN _))) | ((with_reducible refine wpQuiet_skip ?_ ?_) ; (focus rfl); (try simp only [Act.put]); (try simp only [List.setIfInBounds_toArray]); (try simp only [List.set_cons_succ]); (try simp only [List.set_cons_zero])))
                refine wpQuiet_nil ?_
                intro _ hw'
                obtain ⟨xU, hw''⟩ := hw'
                subst hw''
                have hbU := under_below wB xU
                have d0 := keepJ hbU d0
                have d1 := keepJ hbU d1
                have d2 := keepJ hbU d2
                have d3 := keepJ hbU d3
                have d4 := keepJ hbU d4
                have d5 := keepJ hbU d5
                have d6 := keepJ hbU d6
                have d7 := keepJ hbU d7
                have z0 := keepJ hbU z0
                have hwX := hwX.trans (hbU.mono hwX.size)
                generalize Under wB xU = wB at *
                clear hbU U0 U1 U2 U3 U4 U5 U6 U7 UZ
                go_wp2
                go_roundw
                case rel => exact ⟨(j + 1) + 1, HI1.out, by go_num, Lib.hid (HST.out HR.out), hwX⟩
                case measure => have := HI1.out; simp [Go.RowKit.intOf]; omega
    · obtain rfl : k = l.length := by omega
      have hy : rightJ l = true := HYES.out.2 (fun j hj => hT.out j hj hj)
      have HY := Lib.hid hy
      clear hy
      go_wp2
      go_ret
      refine ⟨?_, hbr⟩
      rw [HY.out]
      rfl
end Go.Proofs.Ytkkoookmnnmiiaa

namespace Go.Proofs.Ytkkoookmnnmiiaa
open Go.RowKit

def ChoR (B : Nat) (C : List Ap) (e : Ending) (w' : World) : Prop := ∃ a' c', e = .returned (.slice a' C.length c') ∧ w'.ownsRow B 36 8 (.slice a' C.length c') C.length (aps C)
set_option maxRecDepth 100000 in
set_option maxHeartbeats 8000000 in
theorem rchosen_any {a : Option Addr} {ls : List PartA} {w : World} (h : PartsA w a ls) (cap : Nat) (hlen : ls.length ≤ 1000) (hlen2 : ∀ x ∈ ls, x.2.2.length ≤ 1000) {C : List Ap} (hC : chosenJ (flatJ (lstA ls)) = C) : Calls Try.prog 18 #[.slice a ls.length cap] w fun e w' => ChoR w.heap.size C e w' ∧ Below w.heap.size w w' := by
  have HP := Lib.hid h
  have H2 := Lib.hid hlen2
  have hCB : C.length ≤ 1001000 := by
    rw [← hC, chosen_len]
    have h1 := flat_le (L := lstA ls) (b := 1000) (fun x hx => by
      obtain ⟨y, hy, rfl⟩ := List.mem_map.1 hx
      exact hlen2 y hy)
    have h2 := flat_len_le (lstA ls)
    have h3 := keys_len (flatJ (lstA ls))
    have h4 : (lstA ls).length * 1000 ≤ 1000 * 1000 := Nat.mul_le_mul_right _ (by simpa [lstA] using hlen)
    omega
  have HCH := Lib.hid hC
  have HGA := Lib.hid (show gatF (lstA ls) ls.length 0 = flatJ (lstA ls) by
    have := gat_all (lstA ls)
    rw [show (lstA ls).length = ls.length by simp [lstA]] at this
    exact this)
  clear h hlen2 hC
  go_enter Try.func18, Try.ntmps18
  go_wp2
  go_loopw [3] (fun t wr => ∃ (n : Nat) (v : Value), t = v ∧ n ≤ C.length ∧ wr.ownsRow w.heap.size 36 8 v n (aps (C.take n)) ∧ Below w.heap.size w wr) (fun t _ => C.length + 1 - lenV t)
  case atStart => exact ⟨0, _, rfl, by omega, World.ownsRow_nil _ _ _ _, Below.refl _ _⟩
  case round =>
    obtain ⟨n, v, rfl, hn, hown, hbr⟩ := hrel
    obtain ⟨oa, oc, rfl, hoR, _⟩ := Row.of_owns hown
    generalize wr = wO at *
    go_wp2
    change Code.wp _ _ _ _ (wO.alloc (Obj.cells (apA ⟨0, zeroE⟩) 36))
    have B4 := heap_alloc_new wO (Obj.cells (apA ⟨0, zeroE⟩) 36)
    have hO5 := blw wO (Obj.cells (apA ⟨0, zeroE⟩) 36)
    obtain ⟨M, hM⟩ : ∃ g, wO.heap.size = g := ⟨_, rfl⟩
    have HM := Lib.hid hM
    rw [hM] at B4 hO5
    simp only [hM]
    have hMw : w.heap.size ≤ M := by have := hbr.size; omega
    clear hM
    generalize wO.alloc (Obj.cells (apA ⟨0, zeroE⟩) 36) = w5 at *
    go_loopw [5, 6] (fun s v wr => ∃ (i : Nat) (best : Ap) (is : Bool), i ≤ ls.length ∧ s = .bool is ∧ v = .int .i64 i ∧ Hid (ScanC (gatF (lstA ls) i 0) (askC C n) best is) ∧ wr.heap[M]? = some (.cells (apA best) 36 (0, 0)) ∧ Below M wO wr) (fun _ v _ => ls.length - (Go.RowKit.intOf v).toNat)
    case atStart => exact ⟨0, ⟨0, zeroE⟩, false, by omega, rfl, rfl, Lib.hid (by rw [gat_zero]; exact scanC_nil _ _), B4, hO5⟩
    case round =>
      obtain ⟨i, best, is, hi, rfl, rfl, hS0, BM, hb6⟩ := hrel
      by_cases hlt : i < ls.length
      · obtain ⟨xp, hxp⟩ : ∃ x, ls[i]'hlt = x := ⟨_, rfl⟩
        obtain ⟨b1, o1, rfl, cx0⟩ := HP.out.at hlt
        have sx0 := HP.out.each _ (List.getElem_mem hlt)
        have lx := H2.out _ (List.getElem_mem hlt)
        have hll : i < (lstA ls).length := by simpa [lstA] using hlt
        have hxl : (lstA ls)[i]'hll = xp.2.2 := by rw [← hxp]; simp [lstA]
        rw [hxp] at cx0 sx0 lx
        have HXL := Lib.hid hxl
        have HLL := Lib.hid hll
        clear hxp hxl
        obtain ⟨x1, xc, xl⟩ := xp
        simp only at cx0 sx0 lx HXL
        go_wp2
        go_loopw [5, 7] (fun s v wr => ∃ (k : Nat) (best : Ap) (is : Bool), k ≤ xl.length ∧ s = .bool is ∧ v = .int .i64 k ∧ Hid (ScanC (gatF (lstA ls) i k) (askC C n) best is) ∧ wr.heap[M]? = some (.cells (apA best) 36 (0, 0)) ∧ Below M wO wr) (fun _ v _ => xl.length - (Go.RowKit.intOf v).toNat)
        case atStart => exact ⟨0, best, is, by omega, rfl, rfl, hS0, BM, hb6⟩
        case round =>
          obtain ⟨k, best, is, hk, rfl, rfl, hS, BM, hb6⟩ := hrel
          have hwr : Below w.heap.size w wr := hbr.trans (hb6.mono hMw)
          have hMr : M < wr.heap.size := lt_blk BM
          have cx2 := keepJ hwr cx0
          by_cases hltk : k < xl.length
          · obtain ⟨x, hx⟩ : ∃ x, xl[k]'hltk = x := ⟨_, rfl⟩
            have hgs := gat_succ HLL.out HXL.out hltk hx
            obtain ⟨xb, xo, rfl, hxb, c0, c1, c2, c3, c4, c5, c6, c7⟩ := ap_cells (sx0.row.below0 hwr) hltk
            rw [hx] at c0 c1 c2 c3 c4 c5 c6 c7
            have hN := fun w => rnone_any x.e w
            obtain ⟨bn, hbn⟩ : ∃ b, noneE x.e = b := ⟨_, rfl⟩
            obtain ⟨bl, hbl⟩ : ∃ b, decide (x.idx < best.idx) = b := ⟨_, rfl⟩
            rw [hbn] at hgs hN
            have HGS := Lib.hid hgs
            have HBL := Lib.hid hbl
            simp only [enA] at hN
            clear hx hbn hgs hS0
            go_wp2_with ((first | (with_reducible refine wpList_stNew 36 _ _ ?_) | (with_reducible refine wp_stNew 36 _ _ ?_)); refine ⟨_, _, ⟨Try.sizeOf36, rfl, apA_new x⟩, rfl, ?_⟩)
            have B8 := tr_al (Obj.cells (apA x) 36) BM
            have BX := heap_alloc_new wr (Obj.cells (apA x) 36)
            have hb8 : Below M wO (wr.alloc (Obj.cells (apA x) 36)) := hb6.trans ((blw wr (Obj.cells (apA x) 36)).mono (Nat.le_of_lt hMr))
            have hM8 : M ≤ (wr.alloc (Obj.cells (apA x) 36)).heap.size := by rw [World.size_alloc]; omega
            obtain ⟨d0, d1, d2, d3, d4, d5, d6, d7⟩ := apA_cells BX
            obtain ⟨g0, _⟩ := apA_cells B8
            have hb8w : Below wO.heap.size wO (wr.alloc (Obj.cells (apA x) 36)) := by rw [HM.out]; exact hb8
            generalize wr.alloc (Obj.cells (apA x) 36) = w8 at *
            clear c0 c1 c2 c3 c4 c5 c6 c7 cx2 BX
            cases bn
            case true =>
              have HS2 := Lib.hid (show ScanC (gatF (lstA ls) i (k + 1)) (askC C n) best is by rw [HGS.out]; simpa using hS.out)
              clear hS
              have U0 := under_cell d0
              have U1 := under_cell d1
              have U2 := under_cell d2
              have U3 := under_cell d3
              have U4 := under_cell d4
              have U5 := under_cell d5
              have U6 := under_cell d6
              have U7 := under_cell d7
              refine wp_region_under (by kernel_rfl) (by kernel_rfl) ?_
              repeat (first | go_big_quiet_step ((go_at_call 35; exact under_call (hN _))) | ((with_reducible refine wpQuiet_skip ?_ ?_) ; (focus rfl); (try simp only [Act.put]); (try simp only [List.setIfInBounds_toArray]); (try simp only [List.set_cons_succ]); (try simp only [List.set_cons_zero])))
              refine wpQuiet_nil ?_
              intro _ hw'
              obtain ⟨xU, hw''⟩ := hw'
              subst hw''
              have hbU := under_below w8 xU
              have d0 := keepJ hbU d0
              have d1 := keepJ hbU d1
              have d2 := keepJ hbU d2
              have d3 := keepJ hbU d3
              have d4 := keepJ hbU d4
              have d5 := keepJ hbU d5
              have d6 := keepJ hbU d6
              have d7 := keepJ hbU d7
              have g0 := keepJ hbU g0
              have B9 := tr_bl hbU B8
              have hb9 := hb8.trans (hbU.mono hM8)
              have hM9 := Nat.le_trans hM8 hbU.size
              generalize Under w8 xU = w9 at *
              clear hbU U0 U1 U2 U3 U4 U5 U6 U7
              go_wp2
              go_roundw
              case rel => exact ⟨k + 1, best, is, by omega, rfl, by go_num, HS2, B9, hb9⟩
              case measure => simp [Go.RowKit.intOf]; omega
            case false =>
              cases n with
              | zero =>
                have HQ := Lib.hid (ask_zero C x.idx)
                have U0 := under_cell d0
                have U1 := under_cell d1
                have U2 := under_cell d2
                have U3 := under_cell d3
                have U4 := under_cell d4
                have U5 := under_cell d5
                have U6 := under_cell d6
                have U7 := under_cell d7
                refine wp_region_under (by kernel_rfl) (by kernel_rfl) ?_
                repeat (first | go_big_quiet_step ((go_at_call 35; exact under_call (hN _))) | ((with_reducible refine wpQuiet_skip ?_ ?_) ; (focus rfl); (try simp only [Act.put]); (try simp only [List.setIfInBounds_toArray]); (try simp only [List.set_cons_succ]); (try simp only [List.set_cons_zero])))
                refine wpQuiet_nil ?_
                intro _ hw'
                obtain ⟨xU, hw''⟩ := hw'
                subst hw''
                have hbU := under_below w8 xU
                have d0 := keepJ hbU d0
                have d1 := keepJ hbU d1
                have d2 := keepJ hbU d2
                have d3 := keepJ hbU d3
                have d4 := keepJ hbU d4
                have d5 := keepJ hbU d5
                have d6 := keepJ hbU d6
                have d7 := keepJ hbU d7
                have g0 := keepJ hbU g0
                have B9 := tr_bl hbU B8
                have hb9 := hb8.trans (hbU.mono hM8)
                have hM9 := Nat.le_trans hM8 hbU.size
                generalize Under w8 xU = w9 at *
                clear hbU U0 U1 U2 U3 U4 U5 U6 U7
                cases is
                case false =>
                  have HS2 := Lib.hid (show ScanC (gatF (lstA ls) i (k + 1)) (askC C 0) x true by rw [HGS.out]; exact hS.out.take HQ.out (.inl rfl))
                  clear hS
                  go_wp2_with ((first | (with_reducible refine wpList_stB 36 _ _ ?_) | (with_reducible refine wp_stB 36 _ _ ?_)); refine ⟨_, _, _, ⟨_, _, _, Try.sizeOf36, rfl, ‹_›, apA_over x best⟩, ?_⟩; intro w10 B10 g10)
                  have hb10 := bl_st hb9 g10 hM9 (Nat.le_refl _)
                  go_roundw
                  case rel => exact ⟨k + 1, x, true, by omega, rfl, by go_num, HS2, B10, hb10⟩
                  case measure => simp [Go.RowKit.intOf]; omega
                case true =>
                  cases bl
                  case true =>
                    have HS2 := Lib.hid (show ScanC (gatF (lstA ls) i (k + 1)) (askC C 0) x true by rw [HGS.out]; exact hS.out.take HQ.out (.inr (of_decide_eq_true HBL.out)))
                    clear hS
                    go_wp2_with ((first | (with_reducible refine wpList_stB 36 _ _ ?_) | (with_reducible refine wp_stB 36 _ _ ?_)); refine ⟨_, _, _, ⟨_, _, _, Try.sizeOf36, rfl, ‹_›, apA_over x best⟩, ?_⟩; intro w10 B10 g10)
                    have hb10 := bl_st hb9 g10 hM9 (Nat.le_refl _)
                    go_roundw
                    case rel => exact ⟨k + 1, x, true, by omega, rfl, by go_num, HS2, B10, hb10⟩
                    case measure => simp [Go.RowKit.intOf]; omega
                  case false =>
                    have HS2 := Lib.hid (show ScanC (gatF (lstA ls) i (k + 1)) (askC C 0) best true by rw [HGS.out]; exact hS.out.keep (by have := of_decide_eq_false HBL.out; omega))
                    clear hS
                    go_wp2
                    go_roundw
                    case rel => exact ⟨k + 1, best, true, by omega, rfl, by go_num, HS2, B9, hb9⟩
                    case measure => simp [Go.RowKit.intOf]; omega
              | succ m =>
                have hmC : m < C.length := by omega
                obtain ⟨p, hp⟩ : ∃ p, (C[m]'hmC).idx = p := ⟨_, rfl⟩
                have hml : m < (C.take (m + 1)).length := by rw [List.length_take]; omega
                obtain ⟨ob, oo, rfl, hob, z0, _⟩ := ap_cells hoR hml
                rw [List.getElem_take, hp] at z0
                have z0 := keepJ (hb8w.trans (Below.refl _ _)) z0
                have i5 : wrap64 ((m : Int) + 1 - 1) = (m : Int) := by unfold wrap64; omega
                have i6 : decide ((0 : Int) < (m : Int) + 1) = true := by rw [decide_eq_true_eq]; omega
                obtain ⟨b3, i3⟩ : ∃ b, decide (x.idx ≤ p) = b := ⟨_, rfl⟩
                have HAS := Lib.hid (ask_succ hmC hp x.idx)
                clear hp
                cases b3
                case true =>
                  have HS2 := Lib.hid (show ScanC (gatF (lstA ls) i (k + 1)) (askC C (m + 1)) best is by rw [HGS.out]; exact hS.out.skip (by rw [HAS.out, decide_eq_false_iff_not]; have := of_decide_eq_true i3; omega))
                  clear hS
                  have U0 := under_cell d0
                  have U1 := under_cell d1
                  have U2 := under_cell d2
                  have U3 := under_cell d3
                  have U4 := under_cell d4
                  have U5 := under_cell d5
                  have U6 := under_cell d6
                  have U7 := under_cell d7
                  have UZ := under_cell z0
                  refine wp_region_under (by kernel_rfl) (by kernel_rfl) ?_
                  repeat (first | go_big_quiet_step ((go_at_call 35; exact under_call (hN _))) | ((with_reducible refine wpQuiet_skip ?_ ?_) ; (focus rfl); (try simp only [Act.put]); (try simp only [List.setIfInBounds_toArray]); (try simp only [List.set_cons_succ]); (try simp only [List.set_cons_zero])))
                  refine wpQuiet_nil ?_
                  intro _ hw'
                  obtain ⟨xU, hw''⟩ := hw'
                  subst hw''
                  have hbU := under_below w8 xU
                  have d0 := keepJ hbU d0
                  have d1 := keepJ hbU d1
                  have d2 := keepJ hbU d2
                  have d3 := keepJ hbU d3
                  have d4 := keepJ hbU d4
                  have d5 := keepJ hbU d5
                  have d6 := keepJ hbU d6
                  have d7 := keepJ hbU d7
                  have g0 := keepJ hbU g0
                  have B9 := tr_bl hbU B8
                  have hb9 := hb8.trans (hbU.mono hM8)
                  have hM9 := Nat.le_trans hM8 hbU.size
                  generalize Under w8 xU = w9 at *
                  clear hbU U0 U1 U2 U3 U4 U5 U6 U7 UZ
                  go_wp2
                  go_roundw
                  case rel => exact ⟨k + 1, best, is, by omega, rfl, by go_num, HS2, B9, hb9⟩
                  case measure => simp [Go.RowKit.intOf]; omega
                case false =>
                  have HQ := Lib.hid (show askC C (m + 1) x.idx = true by rw [HAS.out, decide_eq_true_eq]; have := of_decide_eq_false i3; omega)
                  have U0 := under_cell d0
                  have U1 := under_cell d1
                  have U2 := under_cell d2
                  have U3 := under_cell d3
                  have U4 := under_cell d4
                  have U5 := under_cell d5
                  have U6 := under_cell d6
                  have U7 := under_cell d7
                  have UZ := under_cell z0
                  refine wp_region_under (by kernel_rfl) (by kernel_rfl) ?_
                  repeat (first | go_big_quiet_step ((go_at_call 35; exact under_call (hN _))) | ((with_reducible refine wpQuiet_skip ?_ ?_) ; (focus rfl); (try simp only [Act.put]); (try simp only [List.setIfInBounds_toArray]); (try simp only [List.set_cons_succ]); (try simp only [List.set_cons_zero])))
                  refine wpQuiet_nil ?_
                  intro _ hw'
                  obtain ⟨xU, hw''⟩ := hw'
                  subst hw''
                  have hbU := under_below w8 xU
                  have d0 := keepJ hbU d0
                  have d1 := keepJ hbU d1
                  have d2 := keepJ hbU d2
                  have d3 := keepJ hbU d3
                  have d4 := keepJ hbU d4
                  have d5 := keepJ hbU d5
                  have d6 := keepJ hbU d6
                  have d7 := keepJ hbU d7
                  have g0 := keepJ hbU g0
                  have B9 := tr_bl hbU B8
                  have hb9 := hb8.trans (hbU.mono hM8)
                  have hM9 := Nat.le_trans hM8 hbU.size
                  generalize Under w8 xU = w9 at *
                  clear hbU U0 U1 U2 U3 U4 U5 U6 U7 UZ
                  cases is
                  case false =>
                    have HS2 := Lib.hid (show ScanC (gatF (lstA ls) i (k + 1)) (askC C (m + 1)) x true by rw [HGS.out]; exact hS.out.take HQ.out (.inl rfl))
                    clear hS
                    go_wp2_with ((first | (with_reducible refine wpList_stB 36 _ _ ?_) | (with_reducible refine wp_stB 36 _ _ ?_)); refine ⟨_, _, _, ⟨_, _, _, Try.sizeOf36, rfl, ‹_›, apA_over x best⟩, ?_⟩; intro w10 B10 g10)
                    have hb10 := bl_st hb9 g10 hM9 (Nat.le_refl _)
                    go_roundw
                    case rel => exact ⟨k + 1, x, true, by omega, rfl, by go_num, HS2, B10, hb10⟩
                    case measure => simp [Go.RowKit.intOf]; omega
                  case true =>
                    cases bl
                    case true =>
                      have HS2 := Lib.hid (show ScanC (gatF (lstA ls) i (k + 1)) (askC C (m + 1)) x true by rw [HGS.out]; exact hS.out.take HQ.out (.inr (of_decide_eq_true HBL.out)))
                      clear hS
                      go_wp2_with ((first | (with_reducible refine wpList_stB 36 _ _ ?_) | (with_reducible refine wp_stB 36 _ _ ?_)); refine ⟨_, _, _, ⟨_, _, _, Try.sizeOf36, rfl, ‹_›, apA_over x best⟩, ?_⟩; intro w10 B10 g10)
                      have hb10 := bl_st hb9 g10 hM9 (Nat.le_refl _)
                      go_roundw
                      case rel => exact ⟨k + 1, x, true, by omega, rfl, by go_num, HS2, B10, hb10⟩
                      case measure => simp [Go.RowKit.intOf]; omega
                    case false =>
                      have HS2 := Lib.hid (show ScanC (gatF (lstA ls) i (k + 1)) (askC C (m + 1)) best true by rw [HGS.out]; exact hS.out.keep (by have := of_decide_eq_false HBL.out; omega))
                      clear hS
                      go_wp2
                      go_roundw
                      case rel => exact ⟨k + 1, best, true, by omega, rfl, by go_num, HS2, B9, hb9⟩
                      case measure => simp [Go.RowKit.intOf]; omega
          · obtain rfl : k = xl.length := by omega
            have HN := Lib.hid (show ScanC (gatF (lstA ls) (i + 1) 0) (askC C n) best is by rw [gat_next HLL.out HXL.out]; exact hS.out)
            clear hS hS0
            go_wp2
            go_roundw
            case rel => exact ⟨i + 1, best, is, by omega, rfl, by go_num, HN, BM, hb6⟩
            case measure => simp [Go.RowKit.intOf]; omega
      · obtain rfl : i = ls.length := by omega
        have hE := hS0.out
        rw [HGA.out] at hE
        have hse := scan_end (n := n) (by rw [HCH.out]; exact hn) (by rw [HCH.out]; exact hE)
        rw [HCH.out] at hse
        have HSE := Lib.hid hse
        have hwr : Below w.heap.size w wr := hbr.trans (hb6.mono hMw)
        have hb6w : Below wO.heap.size wO wr := by rw [HM.out]; exact hb6
        clear hE hse hS0
        cases is
        case false =>
          have hnl := HSE.out.1 rfl
          have hR2 := owns_bl hown hb6w
          rw [hnl, List.take_length] at hR2
          have HNL := Lib.hid hnl
          clear hnl
          go_wp2
          go_ret
          refine ⟨⟨oa, oc, ?_, hR2⟩, hwr⟩
          rw [← HNL.out]
          rfl
        case true =>
          obtain ⟨hlC, hCe⟩ := HSE.out.2 rfl
          have HTK := Lib.hid (show C.take (n + 1) = C.take n ++ [best] by rw [List.take_succ_eq_append_getElem hlC, hCe])
          have hownr := owns_bl hown hb6w
          obtain ⟨d0, d1, d2, d3, d4, d5, d6, d7⟩ := apA_cells BM
          clear hCe HSE
          go_wp2_with (at_builtin; refine wpList_append1 rfl _ _ 29 36 elA rfl w.heap.size _ n _ rfl hownr #[.int .i64 best.idx, .int .u8 best.e.kind, .int .i64 best.e.cli, .int .i64 best.e.seq, .int .u8 best.e.op.kind, .string best.e.op.key, .string best.e.op.old, .string best.e.op.val] rfl (ap_one best) 36 rfl (by omega) (by omega) hwr.size ?_; intro v' w' hown' hb' _)
          have hlv : lenV v' = n + 1 := by
            obtain ⟨_, _, hv, _⟩ := Row.of_owns hown'
            rw [hv]
            rfl
          go_roundw
          case rel => exact ⟨n + 1, _, rfl, by omega, by rw [HTK.out, aps_snoc]; exact hown', hwr.trans hb'⟩
          case measure => rw [hlv]; show C.length + 1 - (n + 1) < C.length + 1 - n; omega
end Go.Proofs.Ytkkoookmnnmiiaa

namespace Go.Proofs.Ytkkoookmnnmiiaa
open Go.RowKit

theorem rdo_own (a : Option Addr) (cap : Nat) (l : List Pr) (o : Opn) (w : World) (hs : SlP w a cap l) (hl : l.length ≤ 1000) (hsm : ∀ p ∈ l, p.1.size ≤ 100000) (lr : List Pr × Rp) (hlr : doP l o = lr) :
    Calls Try.prog 53 #[.slice a l.length cap, .agg #[.int .u8 o.kind, .string o.key, .string o.old, .string o.val]] w fun e w' => (∃ a' cap', e = .returned (.tuple #[.slice a' lr.1.length cap', .agg (rpA lr.2)]) ∧ w'.ownsRow w.heap.size 81 2 (.slice a' lr.1.length cap') lr.1.length (prs lr.1)) ∧ Below w.heap.size w w' := by
  refine (rdo_any a cap l o w hs hl hsm _ hlr).mono ?_
  rintro e w' ⟨⟨v', rfl, ho⟩, hb⟩
  obtain ⟨a', cap', rfl, hs'⟩ := SlP.of_owns ho
  exact ⟨⟨a', cap', rfl, ho⟩, hb⟩
theorem rowA_new (r : Rw) : (Value.agg (rowA r)).cells = rowA r ∧ (rowA r).size = 4 ∧ ∀ u ∈ (rowA r).toList, u.oneCell' = true := ⟨rfl, rfl, rowA_one r⟩
theorem rpA_lit (r : Rp) : 0 + 3 ≤ (rpA r).size ∧ (rpA r).extract 0 (0 + 3) = #[.int .i64 r.err, .bool r.found, .string r.val] := arr_all rfl
theorem bad_ref {m : Im} {index : Int} {e : En} (h1 : mayI m = true) (h2 : mayE e = true) (h3 : 1099511627776 < index ∨ index < 1 ∨ index - 1 ≠ m.idx) : badAp m index e = true := by
  obtain ⟨a, b, _, _⟩ := mayI_parts h1
  unfold badAp
  rw [h1, h2]
  by_cases h : m.idx = 1099511627776
  · simp [h]
  · have : index ≠ m.idx + 1 := by omega
    simp [this]
theorem good_ref {m : Im} {index : Int} {e : En} (h1 : mayI m = true) (h2 : mayE e = true) (h3 : index ≤ 1099511627776) (h4 : index - 1 = m.idx) : badAp m index e = false := by
  obtain ⟨a, b, _, _⟩ := mayI_parts h1
  unfold badAp
  rw [h1, h2]
  have e1 : ¬ m.idx = 1099511627776 := by omega
  have e2 : index = m.idx + 1 := by omega
  simp [e2]
  omega

set_option maxRecDepth 100000 in
set_option maxHeartbeats 4000000 in
theorem rapply_any (m : Im) (a : Option Addr) (cap : Nat) (index : Int) (e : En) (w : World) (hs : SlP w a cap m.st) (hl : m.st.length ≤ 1000) (hsm : ∀ p ∈ m.st, p.1.size ≤ 100000) :
    Calls Try.prog 38 #[.agg (imA m.idx (.slice a m.st.length cap) m.tb), .int .i64 index, .agg (enA e)] w fun en w' => ApRes w.heap.size (applyP m index e) en w' ∧ Below w.heap.size w w' := by
  obtain ⟨N, hN⟩ : ∃ N, w.heap.size = N := ⟨_, rfl⟩
  have hb0 : Below w.heap.size w ((((w.alloc (Obj.cells (imA m.idx (.slice a m.st.length cap) m.tb) 57)).alloc (Obj.cells (enA e) 34)).alloc (Obj.cells (imA 0 (.slice none 0 0) zeroT) 57)).alloc (Obj.cells (rpA zeroR) 51)) := ((((Below.refl _ _).alloc (Nat.le_refl _) _).alloc (by simp) _).alloc (by simp; omega) _).alloc (by simp; omega) _
  have B3 := tr_al (Obj.cells (rpA zeroR) 51) (tr_al (Obj.cells (imA 0 (.slice none 0 0) zeroT) 57) (tr_al (Obj.cells (enA e) 34) (heap_alloc_new w (Obj.cells (imA m.idx (.slice a m.st.length cap) m.tb) 57))))
  have B5 := tr_al (Obj.cells (rpA zeroR) 51) (tr_al (Obj.cells (imA 0 (.slice none 0 0) zeroT) 57) (heap_alloc2_new w (Obj.cells (imA m.idx (.slice a m.st.length cap) m.tb) 57) (Obj.cells (enA e) 34)))
  have B6 := tr_al (Obj.cells (rpA zeroR) 51) (heap_alloc2_new (w.alloc (Obj.cells (imA m.idx (.slice a m.st.length cap) m.tb) 57)) (Obj.cells (enA e) 34) (Obj.cells (imA 0 (.slice none 0 0) zeroT) 57))
  have B7 := heap_alloc2_new ((w.alloc (Obj.cells (imA m.idx (.slice a m.st.length cap) m.tb) 57)).alloc (Obj.cells (enA e) 34)) (Obj.cells (imA 0 (.slice none 0 0) zeroT) 57) (Obj.cells (rpA zeroR) 51)
  have hs0 := hs.below hb0
  have hsz0 : ((((w.alloc (Obj.cells (imA m.idx (.slice a m.st.length cap) m.tb) 57)).alloc (Obj.cells (enA e) 34)).alloc (Obj.cells (imA 0 (.slice none 0 0) zeroT) 57)).alloc (Obj.cells (rpA zeroR) 51)).heap.size = w.heap.size + 4 := by simp
  simp only [World.size_alloc] at B3 B5 B6 B7
  go_enter Try.func38, Try.ntmps38
  refine wp_seq_k (fun K hK => ?_)
  have HK := Lib.hid hK
  clear hK
  go_wp2
  refine HK.out _ _ ?_
  clear HK
  change Code.wp _ _ _ _ ((((w.alloc (Obj.cells (imA m.idx (.slice a m.st.length cap) m.tb) 57)).alloc (Obj.cells (enA e) 34)).alloc (Obj.cells (imA 0 (.slice none 0 0) zeroT) 57)).alloc (Obj.cells (rpA zeroR) 51))
  generalize (((w.alloc (Obj.cells (imA m.idx (.slice a m.st.length cap) m.tb) 57)).alloc (Obj.cells (enA e) 34)).alloc (Obj.cells (imA 0 (.slice none 0 0) zeroT) 57)).alloc (Obj.cells (rpA zeroR) 51) = w0 at *
  have HBN : Hid (∀ w', Below N w w' → SlP w' a cap m.st) := Lib.hid (fun w' h => hs.below (by rw [hN]; exact h))
  simp only [hN] at *
  have HSZ0 := Lib.hid hsz0
  have hsz0 : N + 4 ≤ w0.heap.size := by have := HSZ0.out; omega
  have HS := Lib.hid hs0
  have HSM := Lib.hid hsm
  clear hN hs0 hsm
  refine wp_seq_k (fun K0 hK0 => ?_)
  have HK0 := Lib.hid hK0
  clear hK0
  refine wp_seq_k (fun K hK => ?_)
  go_cut [35] (fun z wx => z = .bool (badAp m index e) ∧ Below w0.heap.size w0 wx)
  case first =>
    have c0 := imA_c0 B3
    cases hmi : mayI m
    · have HMI := Lib.hid hmi
      have hz : badAp m index e = true := by unfold badAp; rw [hmi]; rfl
      have HZ := Lib.hid hz
      clear hmi hz
      go_wp2_with (first
        | ((with_reducible refine wpList_ldB 57 _ ?_); refine ⟨rfl, _, ⟨_, _, _, _, _, Try.isAgg57, Try.sizeOf57, rfl, ‹_›, imA_all _ _ _⟩, ?_⟩)
        | (go_at_call 51; refine (rimay_any _ _ _ _ _ _ HS.out.row hl HSM.out _ HMI.out).mono ?_; rintro en w1 ⟨rfl, hb1⟩))
      go_meet
      exact ⟨bool_eq HZ.out.symm, hb1⟩
    · have HMI := Lib.hid hmi
      obtain ⟨hi0, hi1, _, _⟩ := mayI_parts hmi
      cases hme : mayE e
      · have HME := Lib.hid hme
        have hz : badAp m index e = true := by unfold badAp; rw [hmi, hme]; rfl
        have HZ := Lib.hid hz
        clear hmi hz hme
        go_wp2_with (first
          | ((with_reducible refine wpList_ldB 57 _ ?_); refine ⟨rfl, _, ⟨_, _, _, _, _, Try.isAgg57, Try.sizeOf57, rfl, ‹_›, imA_all _ _ _⟩, ?_⟩)
          | ((with_reducible refine wpList_ldB 34 _ ?_); refine ⟨rfl, _, ⟨_, _, _, _, _, Try.isAgg34, Try.sizeOf34, rfl, ‹_›, enA_all _⟩, ?_⟩)
          | (go_at_call 51; refine (rimay_any _ _ _ _ _ _ HS.out.row hl HSM.out _ HMI.out).mono ?_; rintro en w1 ⟨rfl, hb1⟩; have B5 := tr_bl hb1 B5)
          | (go_at_call 36; refine (fmay_any _ _ _ HME.out).mono ?_; rintro en w2 ⟨rfl, hb2⟩))
        go_meet
        exact ⟨bool_eq HZ.out.symm, step_b hb1 hb2⟩
      · have HME := Lib.hid hme
        have HBR := Lib.hid (bad_ref (index := index) hmi hme)
        have HGR := Lib.hid (good_ref (index := index) hmi hme)
        clear hmi hme
        have hcs : 1099511627776 < index ∨ (index ≤ 1099511627776 ∧ index < 1) ∨ (index ≤ 1099511627776 ∧ 1 ≤ index ∧ (index - 1 != m.idx) = true) ∨ (index ≤ 1099511627776 ∧ 1 ≤ index ∧ (index - 1 != m.idx) = false) := by
          rw [bne_iff_ne, bne_eq_false_iff_eq]
          omega
        have HCS := Lib.hid hcs
        clear hcs
        rcases HCS.out with h | ⟨h, h2⟩ | ⟨h, h2, h3⟩ | ⟨h, h2, h3⟩
        · have HZ := Lib.hid (HBR.out (.inl h))
          go_wp2_with (first
            | ((with_reducible refine wpList_ldB 57 _ ?_); refine ⟨rfl, _, ⟨_, _, _, _, _, Try.isAgg57, Try.sizeOf57, rfl, ‹_›, imA_all _ _ _⟩, ?_⟩)
            | ((with_reducible refine wpList_ldB 34 _ ?_); refine ⟨rfl, _, ⟨_, _, _, _, _, Try.isAgg34, Try.sizeOf34, rfl, ‹_›, enA_all _⟩, ?_⟩)
            | (go_at_call 51; refine (rimay_any _ _ _ _ _ _ HS.out.row hl HSM.out _ HMI.out).mono ?_; rintro en w1 ⟨rfl, hb1⟩; have B5 := tr_bl hb1 B5)
            | (go_at_call 36; refine (fmay_any _ _ _ HME.out).mono ?_; rintro en w2 ⟨rfl, hb2⟩; have c0 := imA_c0 (tr_bl hb2 (tr_bl hb1 B3))))
          go_meet
          exact ⟨bool_eq (Eq.trans (by first | rfl | (simp; omega)) HZ.out.symm), step_b hb1 hb2⟩
        · have HZ := Lib.hid (HBR.out (.inr (.inl h2)))
          go_wp2_with (first
            | ((with_reducible refine wpList_ldB 57 _ ?_); refine ⟨rfl, _, ⟨_, _, _, _, _, Try.isAgg57, Try.sizeOf57, rfl, ‹_›, imA_all _ _ _⟩, ?_⟩)
            | ((with_reducible refine wpList_ldB 34 _ ?_); refine ⟨rfl, _, ⟨_, _, _, _, _, Try.isAgg34, Try.sizeOf34, rfl, ‹_›, enA_all _⟩, ?_⟩)
            | (go_at_call 51; refine (rimay_any _ _ _ _ _ _ HS.out.row hl HSM.out _ HMI.out).mono ?_; rintro en w1 ⟨rfl, hb1⟩; have B5 := tr_bl hb1 B5)
            | (go_at_call 36; refine (fmay_any _ _ _ HME.out).mono ?_; rintro en w2 ⟨rfl, hb2⟩; have c0 := imA_c0 (tr_bl hb2 (tr_bl hb1 B3))))
          go_meet
          exact ⟨bool_eq (Eq.trans (by first | rfl | (simp; omega)) HZ.out.symm), step_b hb1 hb2⟩
        · have HZ := Lib.hid (HBR.out (.inr (.inr (by simpa using h3))))
          go_wp2_with (first
            | ((with_reducible refine wpList_ldB 57 _ ?_); refine ⟨rfl, _, ⟨_, _, _, _, _, Try.isAgg57, Try.sizeOf57, rfl, ‹_›, imA_all _ _ _⟩, ?_⟩)
            | ((with_reducible refine wpList_ldB 34 _ ?_); refine ⟨rfl, _, ⟨_, _, _, _, _, Try.isAgg34, Try.sizeOf34, rfl, ‹_›, enA_all _⟩, ?_⟩)
            | (go_at_call 51; refine (rimay_any _ _ _ _ _ _ HS.out.row hl HSM.out _ HMI.out).mono ?_; rintro en w1 ⟨rfl, hb1⟩; have B5 := tr_bl hb1 B5)
            | (go_at_call 36; refine (fmay_any _ _ _ HME.out).mono ?_; rintro en w2 ⟨rfl, hb2⟩; have c0 := imA_c0 (tr_bl hb2 (tr_bl hb1 B3))))
          go_meet
          exact ⟨bool_eq (Eq.trans (by first | rfl | (simp; omega)) HZ.out.symm), step_b hb1 hb2⟩
        · have HZ := Lib.hid (HGR.out h (by simpa using h3))
          go_wp2_with (first
            | ((with_reducible refine wpList_ldB 57 _ ?_); refine ⟨rfl, _, ⟨_, _, _, _, _, Try.isAgg57, Try.sizeOf57, rfl, ‹_›, imA_all _ _ _⟩, ?_⟩)
            | ((with_reducible refine wpList_ldB 34 _ ?_); refine ⟨rfl, _, ⟨_, _, _, _, _, Try.isAgg34, Try.sizeOf34, rfl, ‹_›, enA_all _⟩, ?_⟩)
            | (go_at_call 51; refine (rimay_any _ _ _ _ _ _ HS.out.row hl HSM.out _ HMI.out).mono ?_; rintro en w1 ⟨rfl, hb1⟩; have B5 := tr_bl hb1 B5)
            | (go_at_call 36; refine (fmay_any _ _ _ HME.out).mono ?_; rintro en w2 ⟨rfl, hb2⟩; have c0 := imA_c0 (tr_bl hb2 (tr_bl hb1 B3))))
          go_meet
          exact ⟨bool_eq (Eq.trans (by first | rfl | (simp; omega)) HZ.out.symm), step_b hb1 hb2⟩
  obtain ⟨rfl, hbc⟩ := hcut
  refine hK _ _ ?_; clear hK
  have B3 := tr_bl hbc B3
  have B5 := tr_bl hbc B5
  have B6 := tr_bl hbc B6
  have B7 := tr_bl hbc B7
  have HS := Lib.hid (HS.out.below hbc)
  have hbw := hb0.trans (hbc.mono (by omega))
  have hszc : N + 4 ≤ wc.heap.size := Nat.le_trans hsz0 hbc.size
  cases hbad : badAp m index e
  · obtain ⟨hmi, hme, hne, hix⟩ := badAp_no hbad
    obtain ⟨hi0, hi1, hms, hmt⟩ := mayI_parts hmi
    have HBAD := Lib.hid hbad
    have HME := Lib.hid hme
    clear hbad hmi hms hmt hme hne hix
    go_wp2
    refine HK0.out _ _ ?_
    clear HK0
    refine wp_seq_k (fun K hK => ?_)
    have HK := Lib.hid hK
    clear hK
    go_wp2_with (first
          | ((with_reducible refine wpList_ldB 57 _ ?_); refine ⟨rfl, _, ⟨_, _, _, _, _, Try.isAgg57, Try.sizeOf57, rfl, ‹_›, imA_all _ _ _⟩, ?_⟩)
          | (go_at_call 52; refine (rcopyI_any _ _ _ _ _ _ HS.out hl).mono ?_; rintro en w1 ⟨⟨a1, cap1, rfl, ho1⟩, hb1⟩; have B3 := tr_bl hb1 B3; have B5 := tr_bl hb1 B5; have B6 := tr_bl hb1 B6; have B7 := tr_bl hb1 B7)
          | ((first | (with_reducible refine wpList_stNew 57 _ _ ?_) | (with_reducible refine wp_stNew 57 _ _ ?_)); refine ⟨_, _, ⟨Try.sizeOf57, rfl, imA_new m.idx a1 _ cap1 m.tb⟩, rfl, ?_⟩))
    refine HK.out _ _ ?_
    clear HK
    have hz1 : N + 4 ≤ w1.heap.size := by have := hb1.size; omega
    have hbw2 := (hbw.trans (hb1.mono (by omega))).trans ((blw w1 (Obj.cells (imA m.idx (.slice a1 m.st.length cap1) m.tb) 57)).mono (by omega))
    have C3 := tr_al (Obj.cells (imA m.idx (.slice a1 m.st.length cap1) m.tb) 57) B3
    have C5 := tr_al (Obj.cells (imA m.idx (.slice a1 m.st.length cap1) m.tb) 57) B5
    have C6 := tr_al (Obj.cells (imA m.idx (.slice a1 m.st.length cap1) m.tb) 57) B6
    have C7 := tr_al (Obj.cells (imA m.idx (.slice a1 m.st.length cap1) m.tb) 57) B7
    have C9 := heap_alloc_new w1 (Obj.cells (imA m.idx (.slice a1 m.st.length cap1) m.tb) 57)
    have ho2 := owns_bl (owns_mono ho1 hszc) (blw w1 (Obj.cells (imA m.idx (.slice a1 m.st.length cap1) m.tb) 57))
    clear B3 B5 B6 B7 ho1 hb1 hbw hb0 hbc HS
    generalize w1.alloc (Obj.cells (imA m.idx (.slice a1 m.st.length cap1) m.tb) 57) = w2 at *
    obtain ⟨g9, hg9⟩ : ∃ g, w1.heap.size = g := ⟨_, rfl⟩
    rw [hg9] at C9 hz1
    simp only [hg9]
    clear hg9
    have hz2 := lt_blk C9
    refine wp_seq_k (fun K hK => ?_)
    have HK := Lib.hid hK
    clear hK
    go_wp2_with ((first | (with_reducible refine wpList_stB 3 _ _ ?_) | (with_reducible refine wp_stB 3 _ _ ?_)); refine ⟨_, _, _, ⟨_, _, _, Try.sizeOf3, rfl, ‹_›, imA_idx _ index _ _⟩, ?_⟩; intro w3 D9 g3; have D3 := tr_st g3 C3 (by omega); have D5 := tr_st g3 C5 (by omega); have D6 := tr_st g3 C6 (by omega); have D7 := tr_st g3 C7 (by omega); have ho3 := owns_ne ho2 g3 C9 (by decide))
    refine HK.out _ _ ?_
    clear HK
    have hbw3 := bl_st hbw2 g3 (by omega) (by omega)
    have hz3 : g9 < w3.heap.size := lt_blk D9
    clear C3 C5 C6 C7 C9 ho2 hbw2 g3
    obtain ⟨e0, e1, e2⟩ := enA_c D5
    by_cases hk : e.kind = 1
    · rw [applyP_noop HBAD.out hk]
      have hkb : (e.kind == 1) = true := by rw [hk]; rfl
      clear hk
      go_wp2_with (first
        | ((with_reducible refine wpList_ldB 57 _ ?_); refine ⟨rfl, _, ⟨_, _, _, _, _, Try.isAgg57, Try.sizeOf57, rfl, ‹_›, imA_all _ _ _⟩, ?_⟩)
        | ((first | (with_reducible refine wpList_stB 57 _ _ ?_) | (with_reducible refine wp_stB 57 _ _ ?_)); refine ⟨_, _, _, ⟨_, _, _, Try.sizeOf57, rfl, ‹_›, imA_over _ _ _ _ _ _ _ _⟩, ?_⟩; intro w4 Q6 g4; have Q7 := tr_st g4 D7 (by omega); have ho4 := owns_st ho3 g4 (by omega))
        | ((first | (with_reducible refine wpList_stB 51 _ _ ?_) | (with_reducible refine wp_stB 51 _ _ ?_)); refine ⟨_, _, _, ⟨_, _, _, Try.sizeOf51, rfl, ‹_›, rpA_over zeroR _⟩, ?_⟩; intro w5 R7 g5; have R6 := tr_st g5 Q6 (by omega); have ho5 := owns_st ho4 g5 (by omega)))
      refine bodyPost_ret (results_c2t1 rfl rfl (run_loadVar_all Try.isAgg57 Try.sizeOf57 R6 rfl) rfl (run_loadVar_all Try.isAgg51 Try.sizeOf51 R7 rfl)) rfl ⟨⟨_, _, rfl, owns_mono ho5 (by omega)⟩, ?_⟩
      have h4 := bl_st hbw3 g4 (by omega) (by omega)
      exact bl_st h4 g5 (by have := g4.size; omega) (by omega)
    · obtain ⟨hk2, hc0, hc4, hq1, hq2, hmo⟩ := mayE_parts HME.out hk
      have hkb : (e.kind == 1) = false := beq_eq_false_iff_ne.2 hk
      obtain ⟨c, hcl⟩ : ∃ c : Nat, e.cli = c := ⟨e.cli.toNat, by omega⟩
      rw [hcl] at e1 hc0 hc4
      have hc5 : c < 4 := by omega
      have HCL := Lib.hid hcl
      have HK1 := Lib.hid hk
      clear hcl hk hk2 hmo
      refine wp_seq_k (fun K hK => ?_)
      have HK := Lib.hid hK
      clear hK
      go_wp2
      refine HK.out _ _ ?_
      clear HK
      clear hkb
      refine wp_seq_k (fun K hK => ?_)
      have HK := Lib.hid hK
      clear hK
      go_wp2_with (first
              | ((with_reducible refine wpList_ldB 53 _ ?_); refine ⟨rfl, _, ⟨_, _, _, _, _, Try.isAgg53, Try.sizeOf53, rfl, ‹_›, imA_row _ _ _ hc5⟩, ?_⟩)
              | ((first | (with_reducible refine wpList_stNew 53 _ _ ?_) | (with_reducible refine wp_stNew 53 _ _ ?_)); refine ⟨_, _, ⟨Try.sizeOf53, rfl, rowA_new _⟩, rfl, ?_⟩))
      refine HK.out _ _ ?_
      clear HK
      have hbw4 := hbw3.trans ((blw w3 (Obj.cells (rowA (m.tb.at c)) 53)).mono (by omega))
      have E3 := tr_al (Obj.cells (rowA (m.tb.at c)) 53) D3
      have E5 := tr_al (Obj.cells (rowA (m.tb.at c)) 53) D5
      have E6 := tr_al (Obj.cells (rowA (m.tb.at c)) 53) D6
      have E7 := tr_al (Obj.cells (rowA (m.tb.at c)) 53) D7
      have E9 := tr_al (Obj.cells (rowA (m.tb.at c)) 53) D9
      have E10 := heap_alloc_new w3 (Obj.cells (rowA (m.tb.at c)) 53)
      have ho4 := owns_bl ho3 (blw w3 (Obj.cells (rowA (m.tb.at c)) 53))
      clear D3 D5 D6 D7 D9 ho3 hbw3 e0 e1 e2
      generalize w3.alloc (Obj.cells (rowA (m.tb.at c)) 53) = w4 at *
      obtain ⟨g10, hg10⟩ : ∃ g, w3.heap.size = g := ⟨_, rfl⟩
      rw [hg10] at E10 hz3
      simp only [hg10]
      clear hg10
      have hz4 := lt_blk E10
      obtain ⟨e0, e1, e2⟩ := enA_c E5
      rw [HCL.out] at e1
      have l0 : w4.cell? ⟨g10, 0, none⟩ = some (.int .i64 (m.tb.at c).seq) := blk_cell E10 0 _ rfl
      by_cases h1 : e.seq < (m.tb.at c).seq
      · rw [applyP_old HBAD.out HK1.out (by rw [HCL.out]; exact h1)]
        go_wp2_with (first
          | ((with_reducible refine wpList_ldB 57 _ ?_); refine ⟨rfl, _, ⟨_, _, _, _, _, Try.isAgg57, Try.sizeOf57, rfl, ‹_›, imA_all _ _ _⟩, ?_⟩)
          | ((first | (with_reducible refine wpList_stB 57 _ _ ?_) | (with_reducible refine wp_stB 57 _ _ ?_)); refine ⟨_, _, _, ⟨_, _, _, Try.sizeOf57, rfl, ‹_›, imA_over _ _ _ _ _ _ _ _⟩, ?_⟩; intro w5 Q6 g5; have Q7 := tr_st g5 E7 (by omega); have ho5 := owns_st ho4 g5 (by omega))
          | ((first | (with_reducible refine wpList_stB 51 _ _ ?_) | (with_reducible refine wp_stB 51 _ _ ?_)); refine ⟨_, _, _, ⟨_, _, _, Try.sizeOf51, rfl, ‹_›, rpA_over ⟨220, false, ⟨#[]⟩⟩ _⟩, ?_⟩; intro w6 R7 g6; have R6 := tr_st g6 Q6 (by omega); have ho6 := owns_st ho5 g6 (by omega)))
        refine bodyPost_ret (results_c2t1 rfl rfl (run_loadVar_all Try.isAgg57 Try.sizeOf57 R6 rfl) rfl (run_loadVar_all Try.isAgg51 Try.sizeOf51 R7 rfl)) rfl ⟨⟨_, _, rfl, owns_mono ho6 (by omega)⟩, ?_⟩
        have h4 := bl_st hbw4 g5 (by omega) (by omega)
        exact bl_st h4 g6 (by have := g5.size; omega) (by omega)
      · have HN1 := Lib.hid h1
        refine wp_seq_k (fun K hK => ?_)
        have HK := Lib.hid hK
        clear hK
        go_wp2
        refine HK.out _ _ ?_
        clear HK
        by_cases h2 : e.seq = (m.tb.at c).seq
        · rw [applyP_same HBAD.out HK1.out (by rw [HCL.out]; exact h2), HCL.out]
          have h2b : (e.seq == (m.tb.at c).seq) = true := by rw [h2]; exact beq_self_eq_true _
          clear h2
          go_wp2_with fail
          refine wp_region_held_drew (S := fun w' => w'.heap[g9]? = some (.cells (imA index (.slice a1 m.st.length cap1) m.tb) 57 (0, 0)) ∧ w'.heap[g10]? = some (.cells (rowA (m.tb.at c)) 53 (0, 0))) (by kernel_rfl) ⟨E9, E10⟩ (fun hS0 => ?_)
          refine wpAnyH_take (i := 0) (oi := ⟨_, _, _, _, _, _⟩) (v := .agg (imA index (.slice a1 m.st.length cap1) m.tb)) rfl (by kernel_rfl) (by kernel_rfl) (by kernel_rfl) (fun _ _ _ h => h) (Or.inl ⟨by rfl, fun wS hSw => ?_⟩) (by assumption) ?_
          · exact exec_ldB 57 _ ⟨_, _, _, _, _, Try.isAgg57, Try.sizeOf57, rfl, hSw.1, imA_all _ _ _⟩
          (try simp only [Act.put])
          (try simp only [List.setIfInBounds_toArray])
          (try simp only [List.set_cons_succ])
          (try simp only [List.set_cons_zero])
          refine wpAnyH_take (i := 1) (oi := ⟨_, _, _, _, _, _⟩) (v := ?_) rfl (by kernel_rfl) (by kernel_rfl) (by kernel_rfl) (fun _ _ _ h => h) (Or.inl ⟨by rfl, ?_⟩) (by assumption) ?_
          rotate_left
          · intro wS hSw
            go_simp; (try with_reducible rfl)
          (try simp only [Act.put])
          (try simp only [List.setIfInBounds_toArray])
          (try simp only [List.set_cons_succ])
          (try simp only [List.set_cons_zero])
          refine wpAnyH_take (i := 2) (oi := ⟨_, _, _, _, _, _⟩) (v := .agg (rpA (m.tb.at c).rep)) rfl (by kernel_rfl) (by kernel_rfl) (by kernel_rfl) (fun _ _ _ h => h) (Or.inl ⟨by rfl, fun wS hSw => ?_⟩) (by assumption) ?_
          · exact exec_ldB 51 _ ⟨_, _, _, _, _, Try.isAgg51, Try.sizeOf51, rfl, hSw.2, rpA_row⟩
          (try simp only [Act.put])
          (try simp only [List.setIfInBounds_toArray])
          (try simp only [List.set_cons_succ])
          (try simp only [List.set_cons_zero])
          refine wpAnyH_ready (rs := [3]) (by kernel_rfl) (by simp) ?_
          refine AllReadyH.cons (o := ⟨_, _, _, _, _, _⟩) rfl (fun K' hK' => ?_) AllReadyH.nil
          refine (if_pos (by rfl)).mpr ?_
          refine wp_stB 57 _ _ ?_
          refine ⟨_, _, _, ⟨_, _, _, Try.sizeOf57, rfl, E6, imA_over _ _ _ _ _ _ _ _⟩, ?_⟩
          intro w7 Q6 g7
          refine hK'.out _ _ ⟨tr_st g7 E9 (by omega), tr_st g7 E10 (by omega)⟩ (fun _ => ?_)
          have Q7 := tr_st g7 E7 (by omega)
          refine wpAnyH_ready (rs := [4]) (by kernel_rfl) (by simp) ?_
          refine AllReadyH.cons (o := ⟨_, _, _, _, _, _⟩) rfl (fun K' hK' => ?_) AllReadyH.nil
          refine (if_pos (by rfl)).mpr ?_
          refine wp_stB 51 _ _ ?_
          refine ⟨_, _, _, ⟨_, _, _, Try.sizeOf51, rfl, Q7, rpA_over _ _⟩, ?_⟩
          intro w8 R7 g8
          have R6 := tr_st g8 Q6 (by omega)
          refine hK'.out _ _ ⟨tr_st g8 (tr_st g7 E9 (by omega)) (by omega), tr_st g8 (tr_st g7 E10 (by omega)) (by omega)⟩ (fun _ => ?_)
          refine wpAnyH_ready (rs := [5]) (by kernel_rfl) (by simp) ?_
          refine AllReadyH.cons (o := ⟨_, _, _, _, _, _⟩) rfl (fun K' hK' => ?_) AllReadyH.nil
          refine (if_pos (by rfl)).mpr ?_
          go_simp
          refine hK'.out _ _ ⟨tr_st g8 (tr_st g7 E9 (by omega)) (by omega), tr_st g8 (tr_st g7 E10 (by omega)) (by omega)⟩ (fun _ => ?_)
          refine wpAnyH_done (by kernel_rfl) ?_ _
          go_wp2
          refine bodyPost_ret (results_c2t1 rfl rfl (run_loadVar_all Try.isAgg57 Try.sizeOf57 R6 rfl) rfl (run_loadVar_all Try.isAgg51 Try.sizeOf51 R7 rfl)) rfl ⟨⟨_, _, rfl, owns_mono (owns_st (owns_st ho4.drew g7 (by omega)) g8 (by omega)) (by omega)⟩, ?_⟩
          have h7 : Below N w w7 := bl_st hbw4.drew g7 (by simp; omega) (by omega)
          exact bl_st h7 g8 (by have := g7.size; simp at this; omega) (by omega)
        · have hq : (m.tb.at c).seq < e.seq := by omega
          have h2b : (e.seq == (m.tb.at c).seq) = false := beq_eq_false_iff_ne.2 h2
          have hap := applyP_fresh HBAD.out HK1.out (by rw [HCL.out]; exact hq)
          obtain ⟨lr, hlr⟩ : ∃ lr, doP m.st e.op = lr := ⟨_, rfl⟩
          rw [hlr, HCL.out] at hap
          rw [hap]
          have HLR := Lib.hid hlr
          clear hlr hap h2
          refine wp_seq_k (fun K hK => ?_)
          have HK := Lib.hid hK
          clear hK
          go_wp2
          refine HK.out _ _ ?_
          clear HK
          clear h2b
          have c1 := imA_c1 E3
          refine wp_seq_k (fun K hK => ?_)
          have HK := Lib.hid hK
          clear hK
          go_wp2_with (first
                      | ((with_reducible refine wpList_ldB 32 _ ?_); refine ⟨rfl, _, ⟨_, _, _, _, _, Try.isAgg32, Try.sizeOf32, rfl, ‹_›, enA_op _⟩, ?_⟩)
                      | (go_at_call 53; refine (rdo_own _ _ _ e.op _ (HBN.out _ hbw4) hl HSM.out _ HLR.out).mono ?_; rintro en w5 ⟨⟨a5, cap5, rfl, ho5⟩, hb5⟩)
                      | ((first | (with_reducible refine wpList_stNew 51 _ _ ?_) | (with_reducible refine wp_stNew 51 _ _ ?_)); refine ⟨_, _, ⟨Try.sizeOf51, rfl, rpA_new lr.2⟩, rfl, ?_⟩))
          refine HK.out _ _ ?_
          clear HK
          have F3 := tr_al (Obj.cells (rpA lr.2) 51) (tr_bl hb5 E3)
          have F5 := tr_al (Obj.cells (rpA lr.2) 51) (tr_bl hb5 E5)
          have F6 := tr_al (Obj.cells (rpA lr.2) 51) (tr_bl hb5 E6)
          have F7 := tr_al (Obj.cells (rpA lr.2) 51) (tr_bl hb5 E7)
          have F9 := tr_al (Obj.cells (rpA lr.2) 51) (tr_bl hb5 E9)
          have F12 := heap_alloc_new w5 (Obj.cells (rpA lr.2) 51)
          have hz5 : g10 < w5.heap.size := by have := hb5.size; omega
          have ho6 := owns_bl ho5 (blw w5 (Obj.cells (rpA lr.2) 51))
          have hbw6 := (hbw4.trans (hb5.mono (by omega))).trans ((blw w5 (Obj.cells (rpA lr.2) 51)).mono (by omega))
          have hz4b : N + 4 ≤ w4.heap.size := by omega
          have ho6 := owns_mono ho6 (Nat.le_of_lt hz4)
          clear E3 E5 E6 E7 E9 E10 ho4 ho5 hbw4 e0 e1 e2 l0 c1 hb5
          generalize w5.alloc (Obj.cells (rpA lr.2) 51) = w6 at *
          obtain ⟨g12, hg12⟩ : ∃ g, w5.heap.size = g := ⟨_, rfl⟩
          rw [hg12] at F12 hz5
          simp only [hg12]
          clear hg12
          have hz6 := lt_blk F12
          refine wp_seq_k (fun K hK => ?_)
          have HK := Lib.hid hK
          clear hK
          go_wp2_with ((first | (with_reducible refine wpList_stB 48 _ _ ?_) | (with_reducible refine wp_stB 48 _ _ ?_)); refine ⟨_, _, _, ⟨_, _, _, Try.sizeOf48, rfl, ‹_›, imA_sv _ _ _ _ _ _⟩, ?_⟩; intro w7 G9 g7; have G3 := tr_st g7 F3 (by omega); have G5 := tr_st g7 F5 (by omega); have G6 := tr_st g7 F6 (by omega); have G7 := tr_st g7 F7 (by omega); have G12 := tr_st g7 F12 (by omega); have ho7 := owns_st ho6 g7 (by omega))
          refine HK.out _ _ ?_
          clear HK
          obtain ⟨e0, e1, e2⟩ := enA_c G5
          rw [HCL.out] at e1
          refine wp_seq_k (fun K hK => ?_)
          have HK := Lib.hid hK
          clear hK
          go_wp2_with (first
                      | ((with_reducible refine wpList_ldB 51 _ ?_); refine ⟨rfl, _, ⟨_, _, _, _, _, Try.isAgg51, Try.sizeOf51, rfl, ‹_›, rpA_lit _⟩, ?_⟩)
                      | ((first | (with_reducible refine wpList_stB 53 _ _ ?_) | (with_reducible refine wp_stB 53 _ _ ?_)); refine ⟨_, _, _, ⟨_, _, _, Try.sizeOf53, rfl, ‹_›, imA_put _ _ _ ⟨e.seq, lr.2⟩ hc5⟩, ?_⟩; intro w8 J9 g8; have J6 := tr_st g8 G6 (by omega); have J7 := tr_st g8 G7 (by omega); have J12 := tr_st g8 G12 (by omega); have ho8 := owns_st ho7 g8 (by omega)))
          refine HK.out _ _ ?_
          clear HK
          have hbw7 := bl_st hbw6 g7 (by omega) (by omega)
          have hz7 := g7.size
          have hbw8 := bl_st hbw7 g8 (by omega) (by omega)
          have hz8 := g8.size
          refine wp_seq_k (fun K hK => ?_)
          have HK := Lib.hid hK
          clear hK
          go_wp2_with fail
          refine wp_region_held_drew (S := fun w' => w'.heap[g9]? = some (.cells (imA index (.slice a5 lr.1.length cap5) (m.tb.put c ⟨e.seq, lr.2⟩)) 57 (0, 0)) ∧ w'.heap[g12]? = some (.cells (rpA lr.2) 51 (0, 0))) (by kernel_rfl) ⟨J9, J12⟩ (fun hS0 => ?_)
          refine wpAnyH_take (i := 0) (oi := ⟨_, _, _, _, _, _⟩) (v := .agg (imA index (.slice a5 lr.1.length cap5) (m.tb.put c ⟨e.seq, lr.2⟩))) rfl (by kernel_rfl) (by kernel_rfl) (by kernel_rfl) (fun _ _ _ h => h) (Or.inl ⟨by rfl, fun wS hSw => ?_⟩) (by assumption) ?_
          · exact exec_ldB 57 _ ⟨_, _, _, _, _, Try.isAgg57, Try.sizeOf57, rfl, hSw.1, imA_all _ _ _⟩
          (try simp only [Act.put])
          (try simp only [List.setIfInBounds_toArray])
          (try simp only [List.set_cons_succ])
          (try simp only [List.set_cons_zero])
          refine wpAnyH_take (i := 1) (oi := ⟨_, _, _, _, _, _⟩) (v := .agg (rpA lr.2)) rfl (by kernel_rfl) (by kernel_rfl) (by kernel_rfl) (fun _ _ _ h => h) (Or.inl ⟨by rfl, fun wS hSw => ?_⟩) (by assumption) ?_
          · exact exec_ldB 51 _ ⟨_, _, _, _, _, Try.isAgg51, Try.sizeOf51, rfl, hSw.2, rpA_all _⟩
          (try simp only [Act.put])
          (try simp only [List.setIfInBounds_toArray])
          (try simp only [List.set_cons_succ])
          (try simp only [List.set_cons_zero])
          refine wpAnyH_ready (rs := [2]) (by kernel_rfl) (by simp) ?_
          refine AllReadyH.cons (o := ⟨_, _, _, _, _, _⟩) rfl (fun K' hK' => ?_) AllReadyH.nil
          refine (if_pos (by rfl)).mpr ?_
          refine wp_stB 57 _ _ ?_
          refine ⟨_, _, _, ⟨_, _, _, Try.sizeOf57, rfl, J6, imA_over _ _ _ _ _ _ _ _⟩, ?_⟩
          intro w10 Q6 g10'
          refine hK'.out _ _ ⟨tr_st g10' J9 (by omega), tr_st g10' J12 (by omega)⟩ (fun _ => ?_)
          have Q7 := tr_st g10' J7 (by omega)
          refine wpAnyH_ready (rs := [3]) (by kernel_rfl) (by simp) ?_
          refine AllReadyH.cons (o := ⟨_, _, _, _, _, _⟩) rfl (fun K' hK' => ?_) AllReadyH.nil
          refine (if_pos (by rfl)).mpr ?_
          refine wp_stB 51 _ _ ?_
          refine ⟨_, _, _, ⟨_, _, _, Try.sizeOf51, rfl, Q7, rpA_over _ _⟩, ?_⟩
          intro w11 R7 g11
          have R6 := tr_st g11 Q6 (by omega)
          refine hK'.out _ _ ⟨tr_st g11 (tr_st g10' J9 (by omega)) (by omega), tr_st g11 (tr_st g10' J12 (by omega)) (by omega)⟩ (fun _ => ?_)
          refine wpAnyH_ready (rs := [4]) (by kernel_rfl) (by simp) ?_
          refine AllReadyH.cons (o := ⟨_, _, _, _, _, _⟩) rfl (fun K' hK' => ?_) AllReadyH.nil
          refine (if_pos (by rfl)).mpr ?_
          go_simp
          refine hK'.out _ _ ⟨tr_st g11 (tr_st g10' J9 (by omega)) (by omega), tr_st g11 (tr_st g10' J12 (by omega)) (by omega)⟩ (fun _ => ?_)
          refine wpAnyH_done (by kernel_rfl) ?_ _
          refine HK.out _ _ ?_
          clear HK
          go_wp2
          refine bodyPost_ret (results_c2t1 rfl rfl (run_loadVar_all Try.isAgg57 Try.sizeOf57 R6 rfl) rfl (run_loadVar_all Try.isAgg51 Try.sizeOf51 R7 rfl)) rfl ⟨⟨_, _, rfl, owns_mono (owns_st (owns_st ho8.drew g10' (by omega)) g11 (by omega)) (by omega)⟩, ?_⟩
          have h10 : Below N w w10 := bl_st hbw8.drew g10' (by simp; omega) (by omega)
          exact bl_st h10 g11 (by have := g10'.size; simp at this; omega) (by omega)
  · rw [badAp_yes hbad]
    clear hbad
    go_wp2_with (first
      | ((first | (with_reducible refine wpList_stB 57 _ _ ?_) | (with_reducible refine wp_stB 57 _ _ ?_)); refine ⟨_, _, _, ⟨_, _, _, Try.sizeOf57, rfl, ‹_›, imA_over 0 none 0 0 zeroT _ _ _⟩, ?_⟩; intro w1 N6 g1; have N7 := tr_st g1 B7 (by omega))
      | ((first | (with_reducible refine wpList_stB 51 _ _ ?_) | (with_reducible refine wp_stB 51 _ _ ?_)); refine ⟨_, _, _, ⟨_, _, _, Try.sizeOf51, rfl, ‹_›, rpA_over zeroR _⟩, ?_⟩; intro w2 M7 g2; have M6 := tr_st g2 N6 (by omega)))
    refine bodyPost_ret (results_c2t1 rfl rfl (run_loadVar_all Try.isAgg57 Try.sizeOf57 M6 rfl) rfl (run_loadVar_all Try.isAgg51 Try.sizeOf51 M7 rfl)) rfl ⟨⟨none, 0, rfl, World.ownsRow_nil _ _ _ _⟩, ?_⟩
    have h1 := bl_st hbw g1 (by omega) (by omega)
    exact bl_st h1 g2 (by have := g1.size; omega) (by omega)
end Go.Proofs.Ytkkoookmnnmiiaa

