/- Texts that the claim leans on, part 16: V12, X12, X13, X14, V3, V4, V5, V9. -/
import Derived.Test.YtknchbhobopkeaaGreatDoorZ1
import Derived.Test.YtknchbhobopkeaaGreatDoorZ2
import Derived.Test.YtknchbhobopkeaaGreatDoorZ3
import Derived.Test.YtknchbhobopkeaaGreatDoorZ4
import Derived.Test.YtknchbhobopkeaaGreatDoorZ5
import Derived.Test.YtknchbhobopkeaaGreatDoorZ6
import Derived.Test.YtknchbhobopkeaaGreatDoorZ7
import Derived.Test.YtknchbhobopkeaaGreatDoorZ8
import Derived.Test.YtknchbhobopkeaaGreatDoorZ9
import Derived.Test.YtknchbhobopkeaaGreatDoorZ10
import Derived.Test.YtknchbhobopkeaaGreatDoorZ11
import Derived.Test.YtknchbhobopkeaaGreatDoorZ12
import Derived.Test.YtknchbhobopkeaaGreatDoorZ13
import Derived.Test.YtknchbhobopkeaaGreatDoorZ14
import Derived.Test.YtknchbhobopkeaaGreatDoorZ15
import Derived.Test.YtknchbhobopkeaaGreatDoorRows
import Derived.WalkKit
import Derived.WalkSpells
import Derived.WalkLawsBesides
import Derived.Handy
import Derived.Deep.QuietTactic
import Derived.BigQuiet
import Derived.Deep.DeepCutAuto
import Derived.Lib.Hide
import Derived.RegionTactic
import Derived.ChangeAlike
import Derived.Shelf.Abstract
import Derived.Shelf.RegionOpen
import Derived.OwnWalkIn
import Derived.TacticsInMore
import Derived.LoopNIn
import Derived.LoopIn
import Derived.Maps.AppendAt
import Derived.Maps.OwnIn
import Derived.Laws.ResultCell
import Derived.Outline
import Derived.IntWalk
import Derived.RangeFuncNested
import Derived.RangeFuncBound
import Derived.RangeFuncCalls
import Derived.RangeFuncLeaves
import Derived.RangeFuncBox
import Derived.RangeFuncRecord
import Derived.Laws.IdiomStrings
import Derived.Laws.BytesArg
import Derived.Laws.MakeOwn
import Derived.Lib.SliceRun
import Derived.Laws.BitsAllLaws
import Derived.Great.BuildSlice
import Derived.Great.FillDense
import Derived.Laws.Rows
import Derived.Deep.Quiet
import Derived.Deep.RegionHeld3
import Derived.Lib.AppendStr
import Derived.ProofKit
import Derived.OpenShut
import Derived.Laws.Strings
import Derived.Laws.CopyOwn
import Derived.Laws.CopyRow
import Derived.Laws.NewBlocks
import Derived.Deep.RegionLaw
namespace Go.Proofs.YtknchbhobopkeaaGreatDoor
open Go.RowKit Go.Shelf Go.Maps
attribute [local go_sem] Oper.semAt_some
def toldC (x : Int × Rpt) : Bool := x.1 == 3 || x.1 == 2
def toldL (l : List (Int × Rpt)) : List Rpt := (l.filter toldC).map (·.2)
def rptC (r : Rpt) : List Value := (rptA r).toList
theorem rptC_len (r : Rpt) : (rptC r).length = 11 := rfl
theorem toldL_snoc (l : List (Int × Rpt)) (x : Int × Rpt) : toldL (l ++ [x]) = toldL l ++ (if toldC x = true then [x.2] else []) := by
  unfold toldL
  rw [List.filter_append, List.map_append]
  cases h : toldC x <;> simp [h]
theorem toldL_len (l : List (Int × Rpt)) : (toldL l).length ≤ l.length := by
  unfold toldL
  rw [List.length_map]
  exact List.length_filter_le _ _
def allW (d : Dk) (s : Lg) : List Rpt := toldL (slotsL d s 24)
theorem infoRp : (Tryz.prog.info? 44).map (fun i => (i.zero, i.size, i.bytes)) = some (some (.agg (rptA zeroR')), 11, 112) := by kernel_rfl
def InvA (w : World) (pre : List (Int × Rpt)) (W : World) : Prop := (∃ v, Boxed W w.heap.size 39 v ∧ W.ownsRow (w.heap.size + 2) 44 11 v (toldL pre).length ((toldL pre).flatMap rptC) ∧ True) ∧ Below w.heap.size w W ∧ w.heap.size + 2 ≤ W.heap.size
theorem ownFrom_invA (w : World) {B : Nat} (hB : w.heap.size + 2 ≤ B) : OwnFrom B (InvA w) :=
  OwnFrom.and (Own.from (holdsRow_own (w.heap.size + 2) w.heap.size 39 44 11 (fun (pre : List (Int × Rpt)) => (toldL pre).length) (fun (pre : List (Int × Rpt)) => (toldL pre).flatMap rptC) (fun _ _ => True)) B) (OwnFrom.and (ownFrom_below (Nat.le_refl _) (by omega)) (fun _ _ _ _ hs hg _ => Nat.le_trans hs hg.size))
theorem box_appW {W w1 : World} {n₀ n1 B m : Nat} {t e : TypeId} {size : Nat} {v v' : Value} {k k' : Nat} {xs ys : List Value} {tmp : Obj}
    (hv : Boxed W B t v) (hte : t ≠ e) (hrow : W.ownsRow n1 e size v k xs) (hn1 : n1 ≤ W.heap.size) (hB : n₀ ≤ B) (hBm : B < m) (hm : m < n1)
    (hown' : w1.ownsRow n1 e size v' k' ys) (hgrow : (W.alloc tmp).grownBy w1 v.ownBlock) :
    Boxed w1 B t v ∧ Boxed (w1.setCell ⟨B, 0, none⟩ v') B t v' ∧ (w1.setCell ⟨B, 0, none⟩ v').ownsRow n1 e size v' k' ys ∧ KeepsOthers W (w1.setCell ⟨B, 0, none⟩ v') ∧ KpB n₀ m W (w1.setCell ⟨B, 0, none⟩ v') ∧ ∀ k, k < n1 → k ≠ B → (w1.setCell ⟨B, 0, none⟩ v').heap[k]? = W.heap[k]? := by
  obtain ⟨h1, h2, _, h4, h5⟩ := hv.appended hte (owns_mono hrow (show n₀ ≤ n1 by omega)) (by omega) hB (owns_mono hown' (show n₀ ≤ n1 by omega)) hgrow
  have hk : ∀ k, k < n1 → k ≠ B → (w1.setCell ⟨B, 0, none⟩ v').heap[k]? = W.heap[k]? := fun k hk1 hk2 => by
    have hkw : k < W.heap.size := by omega
    have e1 : (w1.setCell ⟨B, 0, none⟩ v').heap[k]? = w1.heap[k]? := Below.heap_setCell _ _ _ k (by simp only; omega)
    have e2 : w1.heap[k]? = (W.alloc tmp).heap[k]? := hgrow.block k (by simp; omega) (fun e => by
      rcases hrow.2 with ⟨rfl, _⟩ | ⟨g, cap, cur, rfl, hg, _⟩
      · simp [Value.ownBlock] at e
      · simp [Value.ownBlock] at e
        omega)
    exact e1.trans (e2.trans (Below.heap_alloc W tmp k hkw))
  exact ⟨h1, h2, hown'.kept (grownBy_setCell' w1 B v') (.inr (h1.not_row hte hown').symm), h4, ⟨h5, hk m hm (by omega)⟩, hk⟩
def actA (q g F : Nat) (x : Int × Rpt) (q9 : Nat) : Act := { tmps := #[Value.pointer (some ⟨q, 0, none⟩), undef, .slice none 0 0, .int .i64 0, Value.pointer (some ⟨F, 0, none⟩), .int .u8 x.1, Value.pointer (some ⟨q9, 0, none⟩), Value.pointer (some ⟨q, 0, none⟩), .bool false, Value.pointer (some ⟨q, 0, none⟩), Value.pointer (some ⟨q, 0, none⟩), Value.pointer (some ⟨q, 0, none⟩), Value.pointer (some ⟨g, 0, none⟩), .bool true, .bool false, Value.pointer (some ⟨q, 0, none⟩), .func (.func 67) #[] #[.pointer (some ⟨F + 1, 0, none⟩)], .int .u8 x.1, .agg (rptA x.2), undef, undef, undef, undef, undef, undef, undef, undef, undef, undef, undef], defers := [] }
def AxA (q g F : Nat) (x : Int × Rpt) (a' : Act) (W : World) : Prop := ∃ q9, F + 2 ≤ q9 ∧ W.heap[q9]? = some (Obj.cells (rptA x.2) 44 (0, 0)) ∧ a' = actA q g F x q9
theorem ownFrom_axA (B q g F : Nat) (x : Int × Rpt) (a' : Act) : OwnFrom B (fun (_ : Unit) W => AxA q g F x a' W) := by
  rintro s W W' row ⟨q9, hq, hx, e⟩ hg hr
  refine ⟨q9, hq, (hg.block q9 (Array.getElem?_eq_some_iff.1 hx).1 (fun e2 => ?_)).trans hx, e⟩
  obtain ⟨_, o, ho, hc⟩ := hr q9 e2.symm
  rw [hx] at ho
  injection ho with ho
  subst ho
  cases hc
theorem new_rowA (w : World) (cs : Array Value) (T : TypeId) : ∀ (j : Nat) (u : Value), cs.toList[j]? = some u → (w.alloc (Obj.cells cs T)).cell? ((⟨w.heap.size, 0, none⟩ : Addr).add j) = some u := fun j u h => by
  rw [addr_add, Nat.zero_add, cell_new]
  simpa using h
section
variable {B g gp q : Nat} {wv : Value} {d : Dk} {w : World} {s : Lg}
set_option maxRecDepth 100000 in
set_option maxHeartbeats 1000000 in
theorem lall_any2 (h : LgB w q g s) (hd : DiskB B g gp wv d w) (hs : LgOk s) (hup : upD d = true) : Calls Tryz.prog 12 #[.pointer (some ⟨q, 0, none⟩)] w fun e w' => ∃ v, e = .returned (.tuple #[v, .int .i64 0]) ∧ w'.ownsRow w.heap.size 44 11 v (allW d s).length ((allW d s).flatMap rptC) ∧ Below w.heap.size w w' := by
  refine calls_marks Tryz.func12 rfl ?_
  simp only [Tryz.ntmps12, List.size_toArray, List.length_cons, List.length_nil, Nat.reduceAdd, Nat.reduceSub, Array.replicate_succ, Array.replicate_zero, List.push_toArray, List.append_toArray, List.nil_append, List.cons_append]
  obtain ⟨i0, hi, hz0, hz1, hz2⟩ := info_parts infoRp
  have hno := lnone_any2 h
  have hu := up_any hd
  rw [hup] at hu
  have c0 := h.c0
  go_wp2_with (first
    | (go_at_call 36; refine hno.mono ?_; rintro e w1 ⟨rfl, rfl⟩)
    | (go_at_call 28; refine hu.mono ?_; rintro e w1 ⟨rfl, rfl⟩))
  refine (lslots_any (q := q) _).mono ?_
  rintro e w1 ⟨rfl, rfl⟩
  go_wp2
  have hb0 := blw w (Obj.cells #[.slice none 0 0] 39)
  have hb2 := hb0.trans ((blw (w.alloc (Obj.cells #[.slice none 0 0] 39)) (Obj.cells #[.pointer (some ⟨q, 0, none⟩)] 27)).mono hb0.size)
  have hbx : Boxed ((w.alloc (Obj.cells #[.slice none 0 0] 39)).alloc (Obj.cells #[.pointer (some ⟨q, 0, none⟩)] 27)) w.heap.size 39 (.slice none 0 0) := tr_al (Obj.cells #[.pointer (some ⟨q, 0, none⟩)] 27) (heap_alloc_new w (Obj.cells #[.slice none 0 0] 39))
  have hsz : ((w.alloc (Obj.cells #[.slice none 0 0] 39)).alloc (Obj.cells #[.pointer (some ⟨q, 0, none⟩)] 27)).heap.size = w.heap.size + 2 := by simp
  have hq2 : ((w.alloc (Obj.cells #[.slice none 0 0] 39)).alloc (Obj.cells #[.pointer (some ⟨q, 0, none⟩)] 27)).cell? ⟨w.heap.size + 1, 0, none⟩ = some (.pointer (some ⟨q, 0, none⟩)) := blk_cell (new_two w (Obj.cells #[.slice none 0 0] 39) (Obj.cells #[.pointer (some ⟨q, 0, none⟩)] 27)) 0 _ rfl
  have hI0 : InvA w [] ((w.alloc (Obj.cells #[.slice none 0 0] 39)).alloc (Obj.cells #[.pointer (some ⟨q, 0, none⟩)] 27)) := ⟨⟨_, hbx, World.ownsRow_nil _ _ _ _, trivial⟩, hb2, by omega⟩
  clear hbx
  generalize (w.alloc (Obj.cells #[.slice none 0 0] 39)).alloc (Obj.cells #[.pointer (some ⟨q, 0, none⟩)] 27) = w2 at *
  have hsq := lslots_stops h hd hs (w := w2) (w.heap.size + 1) (by omega) (by omega) hb2 hq2
  have hkb := KpB.put2 (n := w.heap.size) (m := w.heap.size + 1) (w := w2) (by omega) (by omega)
  have hIo := ownFrom_invA w (B := w2.heap.size) (by omega)
  have hen := enters_of Tryz.func67 (by kernel_rfl) rfl
  refine wp_range_h (gf := 67) rfl hen hsq KpB.trans hkb (fun _ => rfl) (InvA w) (fun _ _ _ => False) hIo (fun _ _ _ _ _ hs _ _ => hs) hI0
    (AxA q g w.heap.size) (fun x a' => ownFrom_axA _ _ _ _ x a') ?assign ?body ?done ?stop
  case assign =>
    intro l pre x W K hI hK
    have hsW := hI.2.2
    have hK2 := fun W' h1 h2 h3 q h4 h5 => hK _ W' h1 h2 h3 ⟨q, h4, h5, rfl⟩
    clear hK
    unfold actA at hK2
    obtain ⟨cl, ⟨ri, rs, ⟨br, bp⟩, ⟨kd, ec, es, ⟨ok, key, old, val⟩⟩⟩⟩ := x
    simp only [rptA, rpA] at hK2 ⊢
    gi_wp2
    refine hK2 _ ?_ ?_ ?_ W.heap.size hsW (heap_alloc_new W _)
    · exact (KeepsOthers.alloc W _).from _
    · exact KpB.below (blw W _) (by omega) (by omega)
    · exact (ownFrom_invA w (B := w.heap.size + 2) (Nat.le_refl _)).alloc _ hI
  case body =>
    rintro l pre x a' W ⟨⟨v, hv, hrow, _⟩, hB, hsW⟩ ⟨q9, hq9, hxq, rfl⟩ hlt
    have hsn := toldL_snoc pre x
    have hln := toldL_len pre
    unfold toldC at hsn
    unfold actA
    obtain ⟨cl, ⟨ri, rs, ⟨br, bp⟩, ⟨kd, ec, es, ⟨ok, key, old, val⟩⟩⟩⟩ := x
    have hrc : (toldL pre ++ [(⟨ri, rs, ⟨br, bp⟩, ⟨kd, ec, es, ⟨ok, key, old, val⟩⟩⟩ : Rpt)]).flatMap rptC = (toldL pre).flatMap rptC ++ rptC ⟨ri, rs, ⟨br, bp⟩, ⟨kd, ec, es, ⟨ok, key, old, val⟩⟩⟩ := by simp
    simp only at hsn
    have HRC := Lib.hid hrc
    have HSN := Lib.hid hsn
    clear hrc hsn
    cases h3 : (cl == 3)
    case false =>
      cases h2 : (cl == 2)
      case false =>
        have hs2 := HSN.out
        rw [h3, h2, if_neg (by decide), List.append_nil] at hs2
        have HS2 := Lib.hid hs2
        clear hs2
        gi_wp2
        exact ⟨(KeepsOthers.refl W).from _, KpB.refl _ _ _, ⟨v, hv, by rw [HS2.out]; exact hrow, trivial⟩, hB, hsW⟩
      case true =>
        have hs2 := HSN.out
        rw [h3, h2, if_pos (by decide)] at hs2
        have HS2 := Lib.hid hs2
        clear hs2
        simp only [rptA, rpA] at hxq
        have c0 := blk_cell hxq 0 _ rfl
        have c1 := blk_cell hxq 1 _ rfl
        have c2 := blk_cell hxq 2 _ rfl
        have c3 := blk_cell hxq 3 _ rfl
        have c4 := blk_cell hxq 4 _ rfl
        have c5 := blk_cell hxq 5 _ rfl
        have c6 := blk_cell hxq 6 _ rfl
        have c7 := blk_cell hxq 7 _ rfl
        have c8 := blk_cell hxq 8 _ rfl
        have c9 := blk_cell hxq 9 _ rfl
        have c10 := blk_cell hxq 10 _ rfl
        have co := hv.cell
        have dfz := hv.frozen
        have hcn := new_rowA W (rptA ⟨ri, rs, ⟨br, bp⟩, ⟨kd, ec, es, ⟨ok, key, old, val⟩⟩⟩) 44
        gi_wp2_with (gi_at_builtin; refine wpListIn_append_own _ rfl _ _ 39 rfl (w.heap.size + 2) 44 i0 (.agg (rptA zeroR')) 11 112 Tryz.underlying39 hi hz0 hz1 hz2 rfl (by decide) _ _ _ rfl (hrow.alloc _) ⟨W.heap.size, 0, none⟩ 1 1 (rptC ⟨ri, rs, ⟨br, bp⟩, ⟨kd, ec, es, ⟨ok, key, old, val⟩⟩⟩) rfl rfl hcn (by simp [rptC, rptA, rpA, Value.oneCell']) (by simp [maxLen]; omega) (by omega) (by simp; omega) ?_; intro v' w1 hown' hgrow _; obtain ⟨g', cap', rfl⟩ := ownsRow_succ hown'; obtain ⟨hv1, hv3, hr2, hk2, hb2, ho2⟩ := box_appW (n₀ := w.heap.size) (m := w.heap.size + 1) hv (by decide) hrow (by omega) (by omega) (by omega) (by omega) hown' hgrow; have hc1 := hv1.cell; have hf1 := hv1.frozen)
        refine ⟨hk2.from _, hb2, ⟨_, hv3, ?_, trivial⟩, hB.trans hb2.bl, Nat.le_trans hsW hk2.size⟩
        rw [HS2.out, List.length_append, HRC.out]
        exact hr2
    case true =>
      have hs2 := HSN.out
      rw [h3, if_pos (by rfl)] at hs2
      have HS2 := Lib.hid hs2
      clear hs2
      simp only [rptA, rpA] at hxq
      have c0 := blk_cell hxq 0 _ rfl
      have c1 := blk_cell hxq 1 _ rfl
      have c2 := blk_cell hxq 2 _ rfl
      have c3 := blk_cell hxq 3 _ rfl
      have c4 := blk_cell hxq 4 _ rfl
      have c5 := blk_cell hxq 5 _ rfl
      have c6 := blk_cell hxq 6 _ rfl
      have c7 := blk_cell hxq 7 _ rfl
      have c8 := blk_cell hxq 8 _ rfl
      have c9 := blk_cell hxq 9 _ rfl
      have c10 := blk_cell hxq 10 _ rfl
      have co := hv.cell
      have dfz := hv.frozen
      have hcn := new_rowA W (rptA ⟨ri, rs, ⟨br, bp⟩, ⟨kd, ec, es, ⟨ok, key, old, val⟩⟩⟩) 44
      gi_wp2_with (gi_at_builtin; refine wpListIn_append_own _ rfl _ _ 39 rfl (w.heap.size + 2) 44 i0 (.agg (rptA zeroR')) 11 112 Tryz.underlying39 hi hz0 hz1 hz2 rfl (by decide) _ _ _ rfl (hrow.alloc _) ⟨W.heap.size, 0, none⟩ 1 1 (rptC ⟨ri, rs, ⟨br, bp⟩, ⟨kd, ec, es, ⟨ok, key, old, val⟩⟩⟩) rfl rfl hcn (by simp [rptC, rptA, rpA, Value.oneCell']) (by simp [maxLen]; omega) (by omega) (by simp; omega) ?_; intro v' w1 hown' hgrow _; obtain ⟨g', cap', rfl⟩ := ownsRow_succ hown'; obtain ⟨hv1, hv3, hr2, hk2, hb2, ho2⟩ := box_appW (n₀ := w.heap.size) (m := w.heap.size + 1) hv (by decide) hrow (by omega) (by omega) (by omega) (by omega) hown' hgrow; have hc1 := hv1.cell; have hf1 := hv1.frozen)
      refine ⟨hk2.from _, hb2, ⟨_, hv3, ?_, trivial⟩, hB.trans hb2.bl, Nat.le_trans hsW hk2.size⟩
      rw [HS2.out, List.length_append, HRC.out]
      exact hr2
  case done =>
    rintro D ys W hD rfl ⟨⟨v, hv, hrow, _⟩, hB, hsW⟩ hK
    have hcl := hv.cell
    go_wp2
    refine marks_ret hK (results_tmp2 rfl _ _ _) ?_
    exact ⟨_, rfl, owns_mono (ownsRow_putObj hrow _ hK rfl) (by omega), below_mark hB (by omega)⟩
  case stop =>
    rintro D c pre W _ _ h _
    exact h.elim
end
end Go.Proofs.YtknchbhobopkeaaGreatDoor
namespace Go.Proofs.YtknchbhobopkeaaGreatDoor
def hurtB (d : Dk) (s : Int) : Bool := decide ((restD d s).2.2 = 0) && ((restD d s).2.1 || !decide ((restD d s).1 = (meantD d s).1))
def rangeI (f t : Nat) : List Int := (List.range' f (t - f)).map (fun (s : Nat) => (s : Int))
def hurtsL (d : Dk) (f t : Nat) : List Int := (rangeI f t).filter (hurtB d)
theorem rangeI_self (f : Nat) : rangeI f f = [] := by simp [rangeI]
theorem rangeI_succ {f t : Nat} (h : f ≤ t) : rangeI f (t + 1) = rangeI f t ++ [(t : Int)] := by
  unfold rangeI
  rw [show t + 1 - f = (t - f) + 1 by omega, List.range'_concat, List.map_append]
  simp only [List.map_cons, List.map_nil]
  rw [show f + 1 * (t - f) = t by omega]
theorem hurtsL_self (d : Dk) (f : Nat) : hurtsL d f f = [] := by simp [hurtsL, rangeI_self]
theorem hurtsL_yes {d : Dk} {f t : Nat} (h : f ≤ t) (hb : hurtB d t = true) : hurtsL d f (t + 1) = hurtsL d f t ++ [(t : Int)] := by
  unfold hurtsL
  rw [rangeI_succ h, List.filter_append]
  simp [hb]
theorem hurtsL_no {d : Dk} {f t : Nat} (h : f ≤ t) (hb : hurtB d t = false) : hurtsL d f (t + 1) = hurtsL d f t := by
  unfold hurtsL
  rw [rangeI_succ h, List.filter_append]
  simp [hb]
theorem hurtsL_len (d : Dk) (f t : Nat) : (hurtsL d f t).length ≤ t - f := by
  unfold hurtsL rangeI
  refine Nat.le_trans (List.length_filter_le _ _) ?_
  simp
theorem hurtsL_nil {d : Dk} {f t : Nat} (h : ∀ s : Nat, f ≤ s → s < t → hurtB d s = false) : hurtsL d f t = [] := by
  unfold hurtsL
  rw [List.filter_eq_nil_iff]
  intro x hx
  unfold rangeI at hx
  simp only [List.mem_map, List.mem_range'_1] at hx
  obtain ⟨s, ⟨h1, h2⟩, rfl⟩ := hx
  rw [h s h1 (by omega)]
  simp
theorem hurtsL_ne {d : Dk} {f t s : Nat} (h1 : f ≤ s) (h2 : s < t) (h : hurtB d s = true) : hurtsL d f t ≠ [] := by
  intro hh
  unfold hurtsL at hh
  rw [List.filter_eq_nil_iff] at hh
  refine hh (s : Int) ?_ h
  unfold rangeI
  simp only [List.mem_map, List.mem_range'_1]
  exact ⟨s, ⟨h1, by omega⟩, rfl⟩
def askN (n : Nat) (rep reg pla : Int) : Int := if n = 0 then 1 else if n < 156 ∨ rep < 0 ∨ 7 ≤ rep ∨ firstN reg pla < 0 then 2 else 0
def askG (d : Dk) (rep reg pla : Int) : Int := askN d.pl.length rep reg pla
def allG (f : Int → List UInt8) (a n : Nat) : List UInt8 := (List.range n).flatMap (fun (k : Nat) => f ((a + k : Nat) : Int))
def goneG (d : Dk) (a n : Nat) : Bool := (List.range n).any (fun (k : Nat) => (restD d ((a + k : Nat) : Int)).2.1)
theorem allG_zero (f : Int → List UInt8) (a : Nat) : allG f a 0 = [] := rfl
theorem allG_succ (f : Int → List UInt8) (a n : Nat) : allG f a (n + 1) = allG f a n ++ f ((a + n : Nat) : Int) := by
  unfold allG
  rw [List.range_succ, List.flatMap_append, List.flatMap_singleton]
theorem goneG_zero (d : Dk) (a : Nat) : goneG d a 0 = false := rfl
theorem goneG_succ (d : Dk) (a n : Nat) : goneG d a (n + 1) = (goneG d a n || (restD d ((a + n : Nat) : Int)).2.1) := by
  unfold goneG
  rw [List.range_succ, List.any_append]
  simp
def isHurt (d : Dk) (a n : Nat) : Bool := !(hurtsL d a (a + n)).isEmpty
def allR (d : Dk) (a n : Nat) : List UInt8 := allG (fun s => (restD d s).1) a n
def allM (d : Dk) (a n : Nat) : List UInt8 := allG (fun s => (meantD d s).1) a n
def placeG (d : Dk) (rep reg pla : Int) : Bool × Bool × Int :=
  if askG d rep reg pla ≠ 0 then (false, false, askG d rep reg pla) else
  (isHurt d (firstN reg pla).toNat (wideN reg).toNat, isHurt d (firstN reg pla).toNat (wideN reg).toNat && (goneG d (firstN reg pla).toNat (wideN reg).toNat || decide ((mineF (allR d (firstN reg pla).toNat (wideN reg).toNat) rep reg pla).1 = 2)), 0)
def honG (d : Dk) (rep reg pla : Int) : (Nat × Tg × List UInt8) × Int :=
  if askG d rep reg pla ≠ 0 then ((0, zeroTg, []), askG d rep reg pla) else
  (mineF (allM d (firstN reg pla).toNat (wideN reg).toNat) rep reg pla, 0)
def seenP (d : Dk) (rep : Int) (reg : Nat) (n : Nat) : Bool := (List.range n).all (fun (p : Nat) => (placeG d rep reg p).1 == (placeG d rep reg p).2.1)
def seenR (d : Dk) (rep : Int) (n : Nat) : Bool := (List.range n).all (fun (r : Nat) => seenP d rep (r + 1) (placesN ((r + 1 : Nat) : Int)).toNat)
def seenG (d : Dk) (rep : Int) : Bool × Int := if askG d rep 1 0 ≠ 0 then (false, askG d rep 1 0) else (seenR d rep 5, 0)
theorem seenP_succ (d : Dk) (rep : Int) (reg n : Nat) : seenP d rep reg (n + 1) = (seenP d rep reg n && (placeG d rep reg n).1 == (placeG d rep reg n).2.1) := by
  unfold seenP
  rw [List.range_succ, List.all_append]
  simp
theorem seenR_succ (d : Dk) (rep : Int) (n : Nat) : seenR d rep (n + 1) = (seenR d rep n && seenP d rep (n + 1) (placesN ((n + 1 : Nat) : Int)).toNat) := by
  unfold seenR
  rw [List.range_succ, List.all_append]
  simp
theorem ask_first {d : Dk} {rep reg pla : Int} (h : askG d rep reg pla = 0) : 156 ≤ d.pl.length ∧ 0 ≤ rep ∧ rep ≤ 6 ∧ 1 ≤ reg ∧ reg ≤ 5 ∧ 0 ≤ pla ∧ pla < placesN reg ∧ 0 ≤ firstN reg pla ∧ firstN reg pla + wideN reg ≤ 156 ∧ 1 ≤ wideN reg ∧ wideN reg ≤ 2 := by
  unfold askG askN at h
  split at h
  · cases h
  · split at h
    · cases h
    · rename_i h1 h2
      have h3 : ¬ firstN reg pla < 0 := fun hh => h2 (.inr (.inr (.inr hh)))
      have h4 : ¬ (placesN reg = 0 ∨ pla < 0 ∨ placesN reg ≤ pla) := fun hh => h3 (by unfold firstN; rw [if_pos hh]; decide)
      have h5 : 0 < placesN reg := by
        have : 0 ≤ placesN reg := by unfold placesN; repeat' split <;> omega
        omega
      obtain ⟨r1, r2, _⟩ := placesN_reg h5
      refine ⟨by omega, by omega, by omega, r1, r2, by omega, by omega, by omega, ?_⟩
      have hf : firstN reg pla = startN reg + pla * wideN reg := by unfold firstN; rw [if_neg h4]
      rw [hf]
      have hr : reg = 1 ∨ reg = 2 ∨ reg = 3 ∨ reg = 4 ∨ reg = 5 := by omega
      rcases hr with rfl | rfl | rfl | rfl | rfl <;> simp [placesN, startN, wideN] at h4 ⊢ <;> omega
end Go.Proofs.YtknchbhobopkeaaGreatDoor
namespace Go.Proofs.YtknchbhobopkeaaGreatDoor
/-! Without faults nothing is hurt. -/
def CleanL (l : List Pl) : Prop := ∀ p ∈ l, p.rest = p.meant ∧ p.lost = false
theorem there_pl {d : Dk} {s : Int} (h : thereD d s = 0) : ∃ p, d.pl[s.toNat]? = some p ∧ d.pl.getD s.toNat zeroPl = p ∧ p ∈ d.pl := by
  have hlt : s.toNat < d.pl.length := by
    unfold thereD at h
    split at h
    · cases h
    · split at h
      · cases h
      · omega
  have e := List.getElem?_eq_getElem hlt
  exact ⟨_, e, by rw [List.getD_eq_getElem?_getD, e]; rfl, List.getElem_mem hlt⟩
theorem hurt_pl {d : Dk} {s : Int} {p : Pl} (h : thereD d s = 0) (hp : d.pl.getD s.toNat zeroPl = p) : hurtB d s = (p.lost || !decide (p.rest = p.meant)) := by
  unfold hurtB restD meantD
  simp only [h, ne_eq, not_true_eq_false, if_false, hp]
  cases hl : p.lost <;> simp
theorem hurt_none {d : Dk} {s : Int} (h : thereD d s ≠ 0) : hurtB d s = false := by
  unfold hurtB restD
  rw [if_pos h]
  simp [h]
theorem clean_hurt {d : Dk} (h : CleanL d.pl) (s : Int) : hurtB d s = false := by
  by_cases h0 : thereD d s = 0
  · obtain ⟨p, h1, h2, h3⟩ := there_pl h0
    rw [hurt_pl h0 h2]
    obtain ⟨h4, h5⟩ := h p h3
    rw [h4, h5]
    simp
  · exact hurt_none h0
theorem clean_set {l : List Pl} (h : CleanL l) (k : Nat) (b : List UInt8) : CleanL (l.set k ⟨b, b, false⟩) := by
  intro p hp
  rcases List.mem_or_eq_of_mem_set hp with h1 | rfl
  · exact h p h1
  · exact ⟨rfl, rfl⟩
theorem clean_thru : ∀ (ws : List (List UInt8 × Nat)) (pl : List Pl) (k : Nat) (is : Nat → Bool), CleanL pl → CleanL (thruD pl ws k is)
  | [], _, _, _, h => h
  | (b, s) :: l, pl, k, is, h => by
    unfold thruD
    refine clean_thru l _ (k + 1) is ?_
    split
    · exact clean_set h s b
    · exact h
theorem spend_pl (d : Dk) : (spendD d).1.pl = d.pl ∧ (spendD d).1.waits = d.waits := by
  unfold spendD
  split
  · exact ⟨rfl, rfl⟩
  · split <;> exact ⟨rfl, rfl⟩
theorem write_pl (d : Dk) (s : Int) (b : List UInt8) : (writeD d s b).1.pl = d.pl ∧ (writeD d s b).1.waits.length ≤ d.waits.length + 1 := by
  obtain ⟨h1, h2⟩ := spend_pl d
  unfold writeD
  split
  · exact ⟨rfl, by simp⟩
  · split
    · exact ⟨rfl, by simp⟩
    · split
      · exact ⟨h1, by rw [h2]; omega⟩
      · exact ⟨h1, by simp [h2]⟩
theorem flush_pl (d : Dk) : ((flushD d).1.pl = d.pl ∧ (flushD d).1.waits = d.waits) ∨ ((flushD d).1.pl = thruD d.pl d.waits 0 (fun _ => true) ∧ (flushD d).1.waits = []) := by
  obtain ⟨h1, h2⟩ := spend_pl d
  unfold flushD
  split
  · exact .inl ⟨rfl, rfl⟩
  · split
    · exact .inl ⟨h1, h2⟩
    · exact .inr ⟨by simp [h1, h2], rfl⟩
theorem crash_pl (d : Dk) (keep : List Bool) : ((crashD d keep).1.pl = d.pl ∧ (crashD d keep).1.waits = d.waits) ∨ ((crashD d keep).1.pl = thruD d.pl d.waits 0 (keepB keep) ∧ (crashD d keep).1.waits = []) := by
  unfold crashD
  split
  · exact .inl ⟨rfl, rfl⟩
  · split
    · exact .inl ⟨rfl, rfl⟩
    · exact .inr ⟨rfl, rfl⟩
theorem start_pl (d : Dk) : (startD d).1.pl = d.pl ∧ (startD d).1.waits = d.waits := by
  unfold startD
  split
  · exact ⟨rfl, rfl⟩
  · split <;> exact ⟨rfl, rfl⟩
theorem power_pl (d : Dk) (n : Int) : (powerD d n).1.pl = d.pl ∧ (powerD d n).1.waits = d.waits := by
  unfold powerD
  split
  · exact ⟨rfl, rfl⟩
  · split <;> exact ⟨rfl, rfl⟩
/-! Acts. -/
def sectorL (n : Int) (bytes : List UInt8) : List UInt8 := if 0 < bytes.length then bytes else List.replicate 64 (UInt8.ofNat (n % 256).toNat)
def do5 (d : Dk) (k : Nat) (s n : Int) (bytes : List UInt8) (keep : List Bool) : Dk × Int :=
  if k % 9 = 0 then flushD d else if k % 9 = 1 then crashD d keep else if k % 9 = 2 then startD d else if k % 9 = 3 then flipD d s n else if k % 9 = 4 then loseD d s else if k % 9 = 5 then strayD d s n else if k % 9 = 8 then powerD d n else writeD d s (sectorL n bytes)
structure Wk (d : Dk) (n : Nat) : Prop where
  len : d.pl.length = 156
  wt : d.waits.length ≤ n
theorem thru_len2 (pl : List Pl) (ws : List (List UInt8 × Nat)) (k : Nat) (is : Nat → Bool) : (thruD pl ws k is).length = pl.length := thru_len ws pl k is
theorem Wk.of {d d' : Dk} {n : Nat} (h : Wk d n) (h1 : d'.pl.length = d.pl.length) (h2 : d'.waits.length ≤ d.waits.length + 1) : Wk d' (n + 1) := ⟨h1.trans h.len, by have := h.wt; omega⟩
theorem flip_pl (d : Dk) (s n : Int) : (flipD d s n).1.pl.length = d.pl.length ∧ (flipD d s n).1.waits = d.waits ∧ ∀ j : Int, meantD (flipD d s n).1 j = meantD d j := by
  unfold flipD
  split
  · exact ⟨rfl, rfl, fun _ => rfl⟩
  · split
    · exact ⟨rfl, rfl, fun _ => rfl⟩
    · refine ⟨by simp, rfl, fun j => ?_⟩
      unfold meantD thereD
      simp only [List.length_modify, List.getD_eq_getElem?_getD, List.getElem?_modify]
      congr 2
      cases hj : d.pl[j.toNat]? with
      | none => rfl
      | some p => by_cases he : s.toNat = j.toNat <;> simp [he]
theorem lose_pl (d : Dk) (s : Int) : (loseD d s).1.pl.length = d.pl.length ∧ (loseD d s).1.waits = d.waits ∧ ∀ j : Int, meantD (loseD d s).1 j = meantD d j := by
  unfold loseD
  split
  · exact ⟨rfl, rfl, fun _ => rfl⟩
  · refine ⟨by simp, rfl, fun j => ?_⟩
    unfold meantD thereD
    simp only [List.length_modify, List.getD_eq_getElem?_getD, List.getElem?_modify]
    congr 2
    cases hj : d.pl[j.toNat]? with
    | none => rfl
    | some p => by_cases he : s.toNat = j.toNat <;> simp [he]
theorem stray_pl (d : Dk) (s t : Int) : (strayD d s t).1.pl.length = d.pl.length ∧ (strayD d s t).1.waits = d.waits ∧ ∀ j : Int, meantD (strayD d s t).1 j = meantD d j := by
  unfold strayD
  split
  · exact ⟨rfl, rfl, fun _ => rfl⟩
  · split
    · exact ⟨rfl, rfl, fun _ => rfl⟩
    · refine ⟨by simp, rfl, fun j => ?_⟩
      unfold meantD thereD
      simp only [List.length_modify, List.getD_eq_getElem?_getD, List.getElem?_modify]
      congr 2
      cases hj : d.pl[j.toNat]? with
      | none => rfl
      | some p => by_cases he : t.toNat = j.toNat <;> simp [he]
theorem do5_wk {d : Dk} {m : Nat} (h : Wk d m) (k : Nat) (s n : Int) (bytes : List UInt8) (keep : List Bool) : Wk (do5 d k s n bytes keep).1 (m + 1) := by
  unfold do5
  split
  · rcases flush_pl d with ⟨h1, h2⟩ | ⟨h1, h2⟩
    · exact h.of (by rw [h1]) (by rw [h2]; omega)
    · exact h.of (by rw [h1, thru_len2]) (by rw [h2]; simp)
  · split
    · rcases crash_pl d keep with ⟨h1, h2⟩ | ⟨h1, h2⟩
      · exact h.of (by rw [h1]) (by rw [h2]; omega)
      · exact h.of (by rw [h1, thru_len2]) (by rw [h2]; simp)
    · split
      · obtain ⟨h1, h2⟩ := start_pl d
        exact h.of (by rw [h1]) (by rw [h2]; omega)
      · split
        · obtain ⟨h1, h2, _⟩ := flip_pl d s n
          exact h.of h1 (by rw [h2]; omega)
        · split
          · obtain ⟨h1, h2, _⟩ := lose_pl d s
            exact h.of h1 (by rw [h2]; omega)
          · split
            · obtain ⟨h1, h2, _⟩ := stray_pl d s n
              exact h.of h1 (by rw [h2]; omega)
            · split
              · obtain ⟨h1, h2⟩ := power_pl d n
                exact h.of (by rw [h1]) (by rw [h2]; omega)
              · obtain ⟨h1, h2⟩ := write_pl d s (sectorL n bytes)
                exact h.of (by rw [h1]) h2
theorem do5_clean {d : Dk} (h : CleanL d.pl) {k : Nat} (hk : k % 9 < 3 ∨ 5 < k % 9) (s n : Int) (bytes : List UInt8) (keep : List Bool) : CleanL (do5 d k s n bytes keep).1.pl := by
  unfold do5
  split
  · rcases flush_pl d with ⟨h1, _⟩ | ⟨h1, _⟩
    · rw [h1]; exact h
    · rw [h1]; exact clean_thru _ _ _ _ h
  · split
    · rcases crash_pl d keep with ⟨h1, _⟩ | ⟨h1, _⟩
      · rw [h1]; exact h
      · rw [h1]; exact clean_thru _ _ _ _ h
    · split
      · rw [(start_pl d).1]; exact h
      · rw [if_neg (by omega), if_neg (by omega), if_neg (by omega)]
        split
        · rw [(power_pl d n).1]; exact h
        · rw [(write_pl d s _).1]; exact h
theorem do5_meant {d : Dk} {k : Nat} (hk : 3 ≤ k % 9 ∧ k % 9 ≤ 5) (s n : Int) (bytes : List UInt8) (keep : List Bool) (j : Int) : meantD (do5 d k s n bytes keep).1 j = meantD d j := by
  unfold do5
  rw [if_neg (by omega), if_neg (by omega), if_neg (by omega)]
  split
  · exact (flip_pl d s n).2.2 j
  · split
    · exact (lose_pl d s).2.2 j
    · rw [if_pos (by omega)]
      exact (stray_pl d s n).2.2 j
theorem clean_nil {d : Dk} (h : CleanL d.pl) (f t : Nat) : hurtsL d f t = [] := hurtsL_nil fun s _ _ => clean_hurt h s
theorem clean_place {d : Dk} (h : CleanL d.pl) (rep reg pla : Int) : (placeG d rep reg pla).1 = false ∧ (placeG d rep reg pla).2.1 = false := by
  unfold placeG
  split
  · exact ⟨rfl, rfl⟩
  · simp [isHurt, clean_nil h]
theorem clean_seen {d : Dk} (h : CleanL d.pl) (hl : 156 ≤ d.pl.length) {rep : Int} (hr : 0 ≤ rep ∧ rep ≤ 6) : seenG d rep = (true, 0) := by
  have ha : askG d rep 1 0 = 0 := by
    unfold askG askN
    rw [if_neg (by omega), if_neg]
    rintro (h1 | h1 | h1 | h1)
    · omega
    · omega
    · omega
    · exact absurd h1 (by decide)
  unfold seenG
  rw [if_neg (by simpa using ha)]
  congr 1
  unfold seenR seenP
  rw [List.all_eq_true]
  intro r _
  rw [List.all_eq_true]
  intro p _
  obtain ⟨h1, h2⟩ := clean_place h rep ((r : Nat) + 1 : Int) p
  simp only [Int.natCast_add, Int.natCast_one]
  rw [h1, h2]
  rfl
theorem new_clean (n : Nat) : CleanL (newDk n).pl := fun p hp => by
  rw [(List.mem_replicate.1 hp).2]
  exact ⟨rfl, rfl⟩
end Go.Proofs.YtknchbhobopkeaaGreatDoor
namespace Go.Proofs.YtknchbhobopkeaaGreatDoor
/-! Acts that came in. -/
structure A5 where
  kind : Nat
  sec : Int
  n : Int
  ba : Option Addr
  bytes : List UInt8
  bc : Nat
  ka : Option Addr
  keep : List Bool
  kc : Nat
structure A6 where
  sl : Bool
  tg : Tg
  oa : Option Addr
  body : List UInt8
  oc : Nat
  dk : A5
def do5A (d : Dk) (x : A5) : Dk × Int := do5 d x.kind x.sec x.n x.bytes x.keep
def wideT (t : Tg) : Nat := if mayTg t = true then (wideN t.reg).toNat else 0
def sealR (t : Tg) (body : List UInt8) (n : Nat) : List UInt8 := if mayTg t = true ∧ roomN (64 * n) ≠ 0 ∧ body.length ≤ roomN (64 * n) then sealF t body (64 * n) else []
def sealE (t : Tg) (body : List UInt8) (n : Nat) : Int := if mayTg t = false ∨ roomN (64 * n) = 0 then 2 else if roomN (64 * n) < body.length then 3 else 0
def pcD (b : List UInt8) (k : Nat) : List UInt8 := (b.drop (64 * k)).take 64
def putsD (d : Dk) (f : Int) (b : List UInt8) : Nat → Dk
  | 0 => d
  | k + 1 => (writeD (putsD d f b k) (f + k) (pcD b k)).1
def do6 (d : Dk) (x : A6) : Dk := if x.sl = false then (do5A d x.dk).1 else putsD d (firstN x.tg.reg x.tg.pla) (sealR x.tg x.body (wideT x.tg)) ((sealR x.tg x.body (wideT x.tg)).length / 64)
def fault (x : A6) : Bool := !x.sl && (decide (3 ≤ x.dk.kind % 9) && decide (x.dk.kind % 9 ≤ 5))
theorem wideN_le (r : Int) : 0 ≤ wideN r ∧ wideN r ≤ 2 := by
  unfold wideN
  repeat' split
  all_goals omega
theorem wideT_le (t : Tg) : wideT t ≤ 2 := by
  unfold wideT
  split
  · have := wideN_le t.reg; omega
  · omega
theorem wide_may {t : Tg} (h : mayTg t = true) : (wideT t : Int) = wideN t.reg ∧ 1 ≤ wideT t ∧ wideT t ≤ 2 := by
  obtain ⟨h1, h2, _⟩ := mayTg_small h
  have h3 := wideN_le t.reg
  have h4 : 1 ≤ wideN t.reg := by
    have hr : t.reg = 1 ∨ t.reg = 2 ∨ t.reg = 3 ∨ t.reg = 4 ∨ t.reg = 5 := by omega
    unfold wideN
    rcases hr with h | h | h | h | h <;> rw [h] <;> decide
  unfold wideT
  rw [if_pos h]
  omega
theorem room_wide {n : Nat} (h1 : 1 ≤ n) (h2 : n ≤ 2) : roomN (64 * n) ≠ 0 ∧ 43 ≤ roomN (64 * n) := by
  rcases (show n = 1 ∨ n = 2 by omega) with rfl | rfl <;> decide
theorem sealR_len (t : Tg) (body : List UInt8) (n : Nat) : (sealR t body n).length = 64 * n ∧ (n = 1 ∨ n = 2) ∧ sealE t body n = 0 ∨ (sealR t body n).length = 0 ∧ sealE t body n ≠ 0 := by
  unfold sealR sealE
  by_cases h1 : mayTg t = true
  · by_cases h2 : roomN (64 * n) = 0
    · rw [if_neg (by simp [h2]), if_pos (.inr h2)]
      exact .inr ⟨rfl, by decide⟩
    · by_cases h3 : body.length ≤ roomN (64 * n)
      · rw [if_pos ⟨h1, h2, h3⟩, if_neg (by simp [h1, h2]), if_neg (by omega)]
        have hn := (roomN_of (n := 64 * n) (by omega)).1
        exact .inl ⟨sealF_len (by omega) h3, by omega, rfl⟩
      · rw [if_neg (by omega), if_neg (by simp [h1, h2]), if_pos (by omega)]
        exact .inr ⟨rfl, by decide⟩
  · rw [if_neg (by simp [h1]), if_pos (.inl (by simpa using h1))]
    exact .inr ⟨rfl, by decide⟩
theorem sealR_le (t : Tg) (body : List UInt8) (n : Nat) : (sealR t body n).length ≤ 128 ∧ (sealR t body n).length / 64 ≤ 2 := by
  rcases sealR_len t body n with ⟨h, h2, _⟩ | ⟨h, _⟩ <;> omega
theorem sealR_may {t : Tg} (h : mayTg t = true) {body : List UInt8} (hb : body.length ≤ 43) : sealR t body (wideT t) = sealF t body (64 * wideT t) ∧ sealE t body (wideT t) = 0 := by
  obtain ⟨_, h1, h2⟩ := wide_may h
  obtain ⟨h3, h4⟩ := room_wide h1 h2
  unfold sealR sealE
  rw [if_pos ⟨h, h3, by omega⟩, if_neg (by simp [h, h3]), if_neg (by omega)]
  exact ⟨rfl, rfl⟩
theorem puts_pl (d : Dk) (f : Int) (b : List UInt8) : ∀ k, (putsD d f b k).pl = d.pl ∧ (putsD d f b k).waits.length ≤ d.waits.length + k
  | 0 => ⟨rfl, by simp [putsD]⟩
  | k + 1 => by
    obtain ⟨h1, h2⟩ := puts_pl d f b k
    obtain ⟨h3, h4⟩ := write_pl (putsD d f b k) (f + k) (pcD b k)
    exact ⟨h3.trans h1, by show (writeD (putsD d f b k) (f + k) (pcD b k)).1.waits.length ≤ _; omega⟩
theorem do6_wk {d : Dk} {m : Nat} (h : Wk d m) (x : A6) : Wk (do6 d x) (m + 2) := by
  unfold do6
  split
  · have := do5_wk h x.dk.kind x.dk.sec x.dk.n x.dk.bytes x.dk.keep
    exact ⟨this.len, by have := this.wt; unfold do5A; omega⟩
  · obtain ⟨h1, h2⟩ := puts_pl d (firstN x.tg.reg x.tg.pla) (sealR x.tg x.body (wideT x.tg)) ((sealR x.tg x.body (wideT x.tg)).length / 64)
    exact ⟨by rw [h1]; exact h.len, by have := h.wt; have := (sealR_le x.tg x.body (wideT x.tg)).2; omega⟩
theorem do6_clean {d : Dk} (h : CleanL d.pl) {x : A6} (hx : x.sl = true ∨ x.dk.kind % 9 < 3 ∨ 5 < x.dk.kind % 9) : CleanL (do6 d x).pl := by
  unfold do6
  split
  · rename_i h1
    exact do5_clean h (hx.resolve_left (by rw [h1]; decide)) x.dk.sec x.dk.n x.dk.bytes x.dk.keep
  · rw [(puts_pl d _ _ _).1]
    exact h
theorem do6_meant {d : Dk} {x : A6} (hx : fault x = true) (j : Int) : meantD (do6 d x) j = meantD d j := by
  unfold fault at hx
  simp only [Bool.and_eq_true, Bool.not_eq_true', decide_eq_true_eq] at hx
  unfold do6
  rw [if_pos hx.1]
  exact do5_meant hx.2 x.dk.sec x.dk.n x.dk.bytes x.dk.keep j
/-! A frame that is put. -/
structure Ready (d : Dk) : Prop where
  len : d.pl.length = 156
  dn : d.down = false
  de : d.dead = false
  lf : d.left < 0 ∨ 4 ≤ d.left
theorem puts_ready {d : Dk} (h : Ready d) {f : Nat} {b : List UInt8} : ∀ k, k ≤ 2 → f + k ≤ 156 → 64 * k ≤ b.length →
    ((putsD d f b k).pl = d.pl ∧ (putsD d f b k).down = false ∧ (putsD d f b k).dead = false ∧ ((putsD d f b k).left < 0 ∨ (putsD d f b k).left + k ≥ 4) ∧ (putsD d f b k).waits = d.waits ++ (List.range k).map (fun j => (pcD b j, f + j))) ∧
    (∀ j, j < k → (writeD (putsD d f b j) ((f : Int) + j) (pcD b j)).2 = 0)
  | 0, _, _, _ => ⟨⟨rfl, h.dn, h.de, by have := h.lf; show d.left < 0 ∨ d.left + 0 ≥ 4; omega, by simp [putsD]⟩, fun j hj => absurd hj (by omega)⟩
  | k + 1, h2, h3, h4 => by
    obtain ⟨⟨e1, e2, e3, e4, e5⟩, hw⟩ := puts_ready h (f := f) (b := b) k (by omega) (by omega) (by omega)
    have hlv : liveD (putsD d f b k) ((f : Int) + k) = 0 := by
      unfold liveD thereD
      rw [e1, e2, e3, h.len]
      rw [if_neg (by simp), if_neg (by decide), if_neg (by omega)]
    have hpl : (pcD b k).length = 64 := by unfold pcD; rw [List.length_take, List.length_drop]; omega
    have hsp : spendD (putsD d f b k) = (if 0 < (putsD d f b k).left then ({ putsD d f b k with left := (putsD d f b k).left - 1 }, 0) else (putsD d f b k, 0)) := by
      unfold spendD
      rw [if_neg (by omega)]
    have hwr : writeD (putsD d f b k) ((f : Int) + k) (pcD b k) = ({ (spendD (putsD d f b k)).1 with waits := (spendD (putsD d f b k)).1.waits ++ [(pcD b k, f + k)] }, 0) := by
      unfold writeD
      rw [if_neg (by simp [hlv]), if_neg (by simp [hpl]), if_neg (by rw [hsp]; split <;> simp), show ((f : Int) + k).toNat = f + k by omega]
    have hs1 : (spendD (putsD d f b k)).1.pl = d.pl ∧ (spendD (putsD d f b k)).1.down = false ∧ (spendD (putsD d f b k)).1.dead = false ∧ ((spendD (putsD d f b k)).1.left < 0 ∨ (spendD (putsD d f b k)).1.left + ((k + 1 : Nat) : Int) ≥ 4) ∧ (spendD (putsD d f b k)).1.waits = d.waits ++ (List.range k).map (fun j => (pcD b j, f + j)) := by
      rw [hsp]
      split
      · exact ⟨e1, e2, e3, by simp only; omega, e5⟩
      · exact ⟨e1, e2, e3, by simp only; omega, e5⟩
    refine ⟨?_, fun j hj => ?_⟩
    · rw [show putsD d f b (k + 1) = (writeD (putsD d f b k) ((f : Int) + k) (pcD b k)).1 from rfl, hwr]
      refine ⟨hs1.1, hs1.2.1, hs1.2.2.1, hs1.2.2.2.1, ?_⟩
      simp only
      rw [hs1.2.2.2.2, List.range_succ, List.map_append, List.append_assoc]
      rfl
    · by_cases hjk : j = k
      · subst hjk
        rw [hwr]
      · exact hw j (by omega)
theorem thru_app : ∀ (a b : List (List UInt8 × Nat)) (pl : List Pl) (k : Nat) (is : Nat → Bool), thruD pl (a ++ b) k is = thruD (thruD pl a k is) b (k + a.length) is
  | [], _, _, _, _ => rfl
  | (x, s) :: a, b, pl, k, is => by
    simp only [List.cons_append, thruD, List.length_cons]
    rw [thru_app a b]
    congr 1
    omega
structure Held (d : Dk) (f : Nat) (b : List UInt8) (n : Nat) : Prop where
  len : d.pl.length = 156
  at_ : ∀ k, k < n → d.pl[f + k]? = some ⟨pcD b k, pcD b k, false⟩
theorem put_held {d : Dk} (h : Ready d) {f n : Nat} {b : List UInt8} (h1 : 1 ≤ n) (h2 : n ≤ 2) (h3 : f + n ≤ 156) (h4 : b.length = 64 * n) :
    (flushD (putsD d f b n)).2 = 0 ∧ Held (flushD (putsD d f b n)).1 f b n ∧ (flushD (putsD d f b n)).1.waits = [] := by
  obtain ⟨⟨e1, e2, e3, e4, e5⟩, _⟩ := puts_ready h (f := f) (b := b) n h2 h3 (by omega)
  have hlv : live0 (putsD d f b n) = 0 := by
    unfold live0 there0
    rw [e1, e2, e3, h.len]
    simp
  have hsp : spendD (putsD d f b n) = (if 0 < (putsD d f b n).left then ({ putsD d f b n with left := (putsD d f b n).left - 1 }, 0) else (putsD d f b n, 0)) := by
    unfold spendD
    rw [if_neg (by omega)]
  have hs1 : (spendD (putsD d f b n)).2 = 0 ∧ (spendD (putsD d f b n)).1.pl = d.pl ∧ (spendD (putsD d f b n)).1.waits = d.waits ++ (List.range n).map (fun j => (pcD b j, f + j)) := by
    rw [hsp]
    split
    · exact ⟨rfl, e1, e5⟩
    · exact ⟨rfl, e1, e5⟩
  have hfl : flushD (putsD d f b n) = ({ (spendD (putsD d f b n)).1 with pl := thruD d.pl (d.waits ++ (List.range n).map (fun j => (pcD b j, f + j))) 0 (fun _ => true), waits := [] }, 0) := by
    unfold flushD
    rw [if_neg (by simp [hlv]), if_neg (by simp [hs1.1]), hs1.2.1, hs1.2.2]
  rw [hfl]
  have hl0 : (thruD d.pl d.waits 0 (fun _ => true)).length = 156 := by rw [thru_len2]; exact h.len
  refine ⟨rfl, ⟨?_, fun k hk => ?_⟩, rfl⟩
  · simp only
    rw [thru_len2]
    exact h.len
  · simp only
    rw [thru_app]
    generalize thruD d.pl d.waits 0 (fun _ => true) = P at hl0 ⊢
    rcases (show n = 1 ∨ n = 2 by omega) with rfl | rfl
    · obtain rfl : k = 0 := by omega
      simp only [List.range_one, List.map_cons, List.map_nil, thruD, if_true, Nat.add_zero]
      exact List.getElem?_set_self (by omega)
    · simp only [show List.range 2 = [0, 1] from rfl, List.map_cons, List.map_nil, thruD, if_true, Nat.add_zero]
      rcases (show k = 0 ∨ k = 1 by omega) with rfl | rfl
      · rw [Nat.add_zero, List.getElem?_set_ne (by omega)]
        exact List.getElem?_set_self (by omega)
      · exact List.getElem?_set_self (by rw [List.length_set]; omega)
theorem pcs_all {b : List UInt8} {n : Nat} (h1 : 1 ≤ n) (h2 : n ≤ 2) (hb : b.length = 64 * n) : (List.range n).flatMap (fun k => pcD b k) = b := by
  rcases (show n = 1 ∨ n = 2 by omega) with rfl | rfl
  · simp only [List.range_one, List.flatMap_cons, List.flatMap_nil, List.append_nil, pcD, Nat.mul_zero, List.drop_zero]
    exact List.take_of_length_le (by omega)
  · simp only [show List.range 2 = [0, 1] from rfl, List.flatMap_cons, List.flatMap_nil, List.append_nil, pcD, Nat.mul_zero, List.drop_zero, Nat.mul_one]
    rw [List.take_of_length_le (show (b.drop 64).length ≤ 64 by rw [List.length_drop]; omega), List.take_append_drop]
theorem there_of {d : Dk} {j : Nat} (hl : d.pl.length = 156) (hj : j < 156) : thereD d (j : Int) = 0 := by
  unfold thereD
  rw [if_neg (by omega), if_neg (by omega)]
def MeantIs (d : Dk) (f : Nat) (b : List UInt8) (n : Nat) : Prop := ∀ k, k < n → meantD d ((f + k : Nat) : Int) = (pcD b k, 0)
theorem Held.meant {d : Dk} {f n : Nat} {b : List UInt8} (h : Held d f b n) (h3 : f + n ≤ 156) : MeantIs d f b n := fun k hk => by
  unfold meantD
  rw [there_of h.len (by omega), if_neg (by decide), Int.toNat_natCast, List.getD_eq_getElem?_getD, h.at_ k hk]
  rfl
theorem allM_of {d : Dk} {f n : Nat} {b : List UInt8} (h1 : 1 ≤ n) (h2 : n ≤ 2) (hb : b.length = 64 * n) (h : MeantIs d f b n) : allM d f n = b := by
  unfold allM allG
  have e : ∀ k ∈ List.range n, (meantD d ((f + k : Nat) : Int)).1 = pcD b k := fun k hk => by rw [h k (List.mem_range.1 hk)]
  rw [show (List.range n).flatMap (fun (k : Nat) => (meantD d ((f + k : Nat) : Int)).1) = (List.range n).flatMap (fun k => pcD b k) from by
    rw [List.flatMap_def, List.flatMap_def, List.map_congr_left e]]
  exact pcs_all h1 h2 hb
theorem place_of {t : Tg} (h : mayTg t = true) : ∃ f : Nat, firstN t.reg t.pla = f ∧ f + wideT t ≤ 156 ∧ ∀ d : Dk, d.pl.length = 156 → askG d t.rep t.reg t.pla = 0 := by
  obtain ⟨h1, h2, h3, h4, _⟩ := mayTg_parts h
  obtain ⟨g1, g2, g3⟩ := mayTg_small h
  obtain ⟨w1, w2, w3⟩ := wide_may h
  have hp : 0 < placesN t.reg := by omega
  have hf : firstN t.reg t.pla = startN t.reg + t.pla * wideN t.reg := by unfold firstN; rw [if_neg (by omega)]
  have h0 : 0 ≤ firstN t.reg t.pla ∧ firstN t.reg t.pla + wideN t.reg ≤ 156 := by
    rw [hf]
    have hr : t.reg = 1 ∨ t.reg = 2 ∨ t.reg = 3 ∨ t.reg = 4 ∨ t.reg = 5 := by omega
    rcases hr with h | h | h | h | h <;> rw [h] at h4 ⊢ <;> simp [placesN, startN, wideN] at h4 ⊢ <;> omega
  refine ⟨(firstN t.reg t.pla).toNat, by omega, by omega, fun d hd => ?_⟩
  unfold askG askN
  rw [hd, if_neg (by decide), if_neg (by omega)]
theorem hon_of {d : Dk} {t : Tg} {body : List UInt8} {f : Nat} (ht : mayTg t = true) (hb : body.length ≤ 43) (hl : d.pl.length = 156) (hf : firstN t.reg t.pla = f) (hm : MeantIs d f (sealF t body (64 * wideT t)) (wideT t)) : honG d t.rep t.reg t.pla = ((1, t, body), 0) := by
  obtain ⟨f', hf', _, ha⟩ := place_of ht
  obtain ⟨w1, w2, w3⟩ := wide_may ht
  obtain ⟨r1, r2⟩ := room_wide w2 w3
  have hsl : (sealF t body (64 * wideT t)).length = 64 * wideT t := sealF_len (by omega) (by omega)
  unfold honG
  rw [if_neg (by rw [ha d hl]; decide), hf, show (wideN t.reg).toNat = wideT t by omega, Int.toNat_natCast, allM_of w2 w3 hsl hm, mine_seal ht (by omega) (by omega)]
theorem place_held {d : Dk} {t : Tg} {body : List UInt8} {f : Nat} (ht : mayTg t = true) (hf : firstN t.reg t.pla = f) (h : Held d f (sealF t body (64 * wideT t)) (wideT t)) : placeG d t.rep t.reg t.pla = (false, false, 0) := by
  obtain ⟨f', hf', hn, ha⟩ := place_of ht
  obtain ⟨w1, w2, w3⟩ := wide_may ht
  have hff : f' = f := by omega
  subst hff
  have hno : isHurt d f' (wideT t) = false := by
    unfold isHurt
    rw [hurtsL_nil (fun s h1 h2 => ?_)]
    · rfl
    · have he := h.at_ (s - f') (by omega)
      rw [show f' + (s - f') = s by omega] at he
      rw [hurt_pl (there_of h.len (by omega)) (by rw [Int.toNat_natCast, List.getD_eq_getElem?_getD, he])]
      simp
  unfold placeG
  rw [if_neg (by rw [ha d h.len]; decide), hf, show (wideN t.reg).toNat = wideT t by omega, Int.toNat_natCast, hno]
  rfl
theorem place_sound {d : Dk} {t : Tg} {body : List UInt8} {f : Nat} (ht : mayTg t = true) (hb : body.length ≤ 43) (hl : d.pl.length = 156) (hf : firstN t.reg t.pla = f) (hm : MeantIs d f (sealF t body (64 * wideT t)) (wideT t)) :
    ∃ hu go st, placeG d t.rep t.reg t.pla = (hu, hu && (go || decide (st = 2)), 0) ∧ goneG d f (wideT t) = go ∧ (mineF (allR d f (wideT t)) t.rep t.reg t.pla).1 = st ∧ (hu = false → go = false ∧ mineF (allR d f (wideT t)) t.rep t.reg t.pla = (1, t, body)) := by
  obtain ⟨f', hf', hn, ha⟩ := place_of ht
  obtain ⟨w1, w2, w3⟩ := wide_may ht
  have hff : f' = f := by omega
  subst hff
  obtain ⟨r1, r2⟩ := room_wide w2 w3
  have hsl : (sealF t body (64 * wideT t)).length = 64 * wideT t := sealF_len (by omega) (by omega)
  refine ⟨isHurt d f' (wideT t), _, _, ?_, rfl, rfl, fun hu => ?_⟩
  · unfold placeG
    rw [if_neg (by rw [ha d hl]; decide), hf, show (wideN t.reg).toNat = wideT t by omega, Int.toNat_natCast]
  · have hno : ∀ k, k < wideT t → (restD d ((f' + k : Nat) : Int)).2.1 = false ∧ (restD d ((f' + k : Nat) : Int)).1 = (meantD d ((f' + k : Nat) : Int)).1 := fun k hk => by
      have h0 := there_of hl (show f' + k < 156 by omega)
      obtain ⟨p, e1, e2, e3⟩ := there_pl h0
      have hb : hurtB d ((f' + k : Nat) : Int) = false := by
        cases hh : hurtB d ((f' + k : Nat) : Int)
        · rfl
        · have hne := hurtsL_ne (d := d) (f := f') (t := f' + wideT t) (s := f' + k) (by omega) (by omega) hh
          unfold isHurt at hu
          cases hL : hurtsL d f' (f' + wideT t)
          · exact absurd hL hne
          · rw [hL] at hu; cases hu
      rw [hurt_pl h0 e2] at hb
      rw [Bool.or_eq_false_iff] at hb
      obtain ⟨b1, b2⟩ := hb
      have b3 : p.rest = p.meant := by simpa using b2
      unfold restD meantD
      simp only [h0, e2, b1, ne_eq, not_true_eq_false, if_false, Bool.false_eq_true]
      exact ⟨trivial, b3⟩
    refine ⟨?_, ?_⟩
    · unfold goneG
      rw [List.any_eq_false]
      intro k hk
      rw [(hno k (List.mem_range.1 hk)).1]
      decide
    · have e : allR d f' (wideT t) = allM d f' (wideT t) := by
        unfold allR allM allG
        rw [List.flatMap_def, List.flatMap_def]
        congr 1
        exact List.map_congr_left fun k hk => (hno k (List.mem_range.1 hk)).2
      rw [e, allM_of w2 w3 hsl hm, mine_seal ht (by omega) (by omega)]
/-! A disk that is got up anew. -/
def upped (d : Dk) : Dk := (powerD (startD (if upD d = true then d else (crashD d []).1)).1 1000).1
theorem upped_ready {d : Dk} {m : Nat} (h : Wk d m) : Ready (upped d) ∧ (upped d).waits.length ≤ m := by
  have hl := h.len
  have hw := h.wt
  have key : ∀ e : Dk, e.pl.length = 156 → e.waits.length ≤ m → (e.down = true ∨ upD e = true) → Ready (powerD (startD e).1 1000).1 ∧ (powerD (startD e).1 1000).1.waits.length ≤ m := fun e h1 h2 h3 => by
    have hs : (startD e).1.pl.length = 156 ∧ (startD e).1.waits = e.waits ∧ (startD e).1.down = false ∧ (startD e).1.dead = false := by
      unfold startD there0
      rw [h1]
      cases hd : e.down with
      | true => simp [h1]
      | false =>
        have h4 := h3.resolve_left (by rw [hd]; decide)
        unfold upD at h4
        rw [hd] at h4
        simp at h4
        simp [h1, hd, h4.2]
    obtain ⟨s1, s2, s3, s4⟩ := hs
    generalize (startD e).1 = e2 at *
    have hp : powerD e2 1000 = ({ e2 with left := 1000 }, 0) := by
      unfold powerD live0 there0
      rw [s1, s3, s4]
      simp
    rw [hp]
    exact ⟨⟨s1, s3, s4, .inr (show (4 : Int) ≤ 1000 by decide)⟩, by simp only; rw [s2]; exact h2⟩
  unfold upped
  by_cases hu : upD d = true
  · rw [if_pos hu]
    exact key d hl hw (.inr hu)
  · rw [if_neg hu]
    rcases crash_pl d [] with ⟨e1, e2⟩ | ⟨e1, e2⟩
    · refine key _ (by rw [e1]; exact hl) (by rw [e2]; exact hw) (.inl ?_)
      unfold crashD there0
      split
      · rename_i hh; exact hh.2
      · rw [if_neg (by rw [hl]; decide)]
    · refine key _ (by rw [e1, thru_len2]; exact hl) (by rw [e2]; simp) (.inl ?_)
      unfold crashD there0
      split
      · rename_i hh; exact hh.2
      · rw [if_neg (by rw [hl]; decide)]
theorem new_ready : Ready (newDk 156) := ⟨List.length_replicate, rfl, rfl, .inl (by decide)⟩
theorem new_wk (n : Nat) : Wk (newDk 156) n := ⟨List.length_replicate, Nat.zero_le _⟩
end Go.Proofs.YtknchbhobopkeaaGreatDoor
namespace Go.Proofs.YtknchbhobopkeaaGreatDoor
open Go.RowKit
structure WBx (w : World) (n5 n6 n7 nk ns q G : Nat) (reg pla : Int) (k N : Nat) : Prop where
  c5 : w.heap[n5]? = some (.cells #[.pointer (some ⟨q, 0, none⟩)] 27 (0, 0))
  c6 : w.heap[n6]? = some (.cells #[.int .i64 reg] 3 (0, 0))
  c7 : w.heap[n7]? = some (.cells #[.int .i64 pla] 3 (0, 0))
  ck : w.heap[nk]? = some (.cells #[.int .i64 (k : Int)] 3 (0, 0))
  cs : w.heap[ns]? = some (.cells #[.slice (some ⟨G, 0, none⟩) N N] 75 (0, 0))
theorem one_c {w : World} {n : Nat} {v : Value} {T : TypeId} (h : w.heap[n]? = some (.cells #[v] T (0, 0))) : w.cell? ⟨n, 0, none⟩ = some v := blk_cell h 0 _ rfl
theorem WBx.below {w w' : World} {n5 n6 n7 nk ns q G : Nat} {reg pla : Int} {k N : Nat} (h : WBx w n5 n6 n7 nk ns q G reg pla k N) (hb : Below w.heap.size w w') : WBx w' n5 n6 n7 nk ns q G reg pla k N := ⟨tr_bl hb h.c5, tr_bl hb h.c6, tr_bl hb h.c7, tr_bl hb h.ck, tr_bl hb h.cs⟩
theorem WBx.kt {B : Nat} {w w' : World} {n5 n6 n7 nk ns q G : Nat} {reg pla : Int} {k N : Nat} (h : WBx w n5 n6 n7 nk ns q G reg pla k N) (hb : Kt B w w') : WBx w' n5 n6 n7 nk ns q G reg pla k N := ⟨hb.ty _ _ _ h.c5 (by decide) (by decide) (by decide), hb.ty _ _ _ h.c6 (by decide) (by decide) (by decide), hb.ty _ _ _ h.c7 (by decide) (by decide) (by decide), hb.ty _ _ _ h.ck (by decide) (by decide) (by decide), hb.ty _ _ _ h.cs (by decide) (by decide) (by decide)⟩
abbrev wr2V (n5 n6 n7 nk ns : Nat) : Value := .func (.func 63) #[] #[.pointer (some ⟨n5, 0, none⟩), .pointer (some ⟨n6, 0, none⟩), .pointer (some ⟨n7, 0, none⟩), .pointer (some ⟨nk, 0, none⟩), .pointer (some ⟨ns, 0, none⟩)]
section
variable {B g gp q n5 n6 n7 nk ns G : Nat} {wv : Value} {d : Dk} {w : World} {s : Lg} {reg pla f : Int} {fr : List UInt8}
set_option maxRecDepth 100000 in
set_option maxHeartbeats 1000000 in
theorem wr2_any (h : LgB w q g s) (hd : DiskB B g gp wv d w) (hb : B ≤ w.heap.size) (k : Nat) (hk : k < 2) (hx : WBx w n5 n6 n7 nk ns q G reg pla k fr.length) (hO : OwnB w B (some ⟨G, 0, none⟩) fr.length fr) (hl : 64 * k + 64 ≤ fr.length) (hl2 : fr.length ≤ 128) (hf : firstN reg pla = f) (hfb : 0 ≤ f ∧ f < 200) (hw : d.waits.length ≤ 1000000) :
    Calls Tryz.prog 63 #[.pointer (some ⟨n5, 0, none⟩), .pointer (some ⟨n6, 0, none⟩), .pointer (some ⟨n7, 0, none⟩), .pointer (some ⟨nk, 0, none⟩), .pointer (some ⟨ns, 0, none⟩)] w fun e w' => e = .returned (.int .i64 (writeD d (f + k) (pcD fr k)).2) ∧ (∃ wv', DiskB B g gp wv' (writeD d (f + k) (pcD fr k)).1 w') ∧ Kt B w w' := by
  have hp0 : (pcD fr k).length = 64 := by unfold pcD; rw [List.length_take, List.length_drop]; omega
  have HW0 := fun w' (D : DiskB B g gp wv d w') hB O => write_any D hB (f + k) (some ⟨G, 64 * k, none⟩) (fr.length - 64 * k) (pcD fr k) O hw
  rw [hp0] at HW0
  have HS : ∀ w1, OwnB w1 B (some ⟨G, 0, none⟩) fr.length fr → ∀ w', Kt B w1 w' → SlB w' (some ⟨G, 64 * k, none⟩) (fr.length - 64 * k) (pcD fr k) := fun w1 O w' hk' => by
    have h1 := ((O.kt hk').slb).sub (64 * k) 64 (by omega)
    rw [Nat.zero_add] at h1
    exact h1
  obtain ⟨d1, e1, hd1⟩ : ∃ d1 e1, writeD d (f + k) (pcD fr k) = (d1, e1) := ⟨_, _, rfl⟩
  rw [hd1]
  simp only [hd1] at HW0
  have HF := Lib.hid hf
  clear hd1 hf hp0
  generalize fr.length = N at *
  generalize pcD fr k = pc at *
  have hO2 : ∃ (ob : World → Prop), ob w ∧ (∀ w1 w', ob w1 → Below w1.heap.size w1 w' → ob w') ∧ ∀ w1, ob w1 → ∀ w', Kt B w1 w' → SlB w' (some ⟨G, 64 * k, none⟩) (N - 64 * k) pc := ⟨fun w1 => OwnB w1 B (some ⟨G, 0, none⟩) N fr, hO, fun _ _ a b => a.below b, HS⟩
  obtain ⟨ob, O0, obl, HS2⟩ := hO2
  clear HS hO
  have hki : (k : Int) = 0 ∨ (k : Int) = 1 := by omega
  rcases (show k = 0 ∨ k = 1 by omega) with rfl | rfl
  · rw [show f + ((0 : Nat) : Int) = f by omega, Nat.mul_zero, Nat.sub_zero] at HW0
    rw [Nat.mul_zero, Nat.sub_zero] at HS2
    go_enter Tryz.func63, Tryz.ntmps63
    refine wp_seq_k (fun K hK => ?_)
    have HK := Lib.hid hK
    clear hK
    go_wp2
    refine HK.out _ _ ?_
    clear HK
    refine wp_seq_k (fun K hK => ?_)
    have HK := Lib.hid hK
    clear hK
    go_wp2_with fail
    have hbd := (Below.refl w.heap.size w).drew
    have D1 := hd.below hbd
    have S1 := h.below hbd
    have X1 := hx.below hbd
    have O1 := obl _ _ O0 hbd
    have k1 := Kt.of hbd hb
    have hb1 := Nat.le_trans hb hbd.size
    refine wp_region_held_drew (S := fun w' => LgB w' q g s ∧ WBx w' n5 n6 n7 nk ns q G reg pla 0 N) (by kernel_rfl) ⟨S1, X1⟩ (fun hS0 => ?_)
    clear hbd hd h hx O0 hb
    generalize w.drew = x0 at *
    refine wpAnyH_take (i := 0) (oi := ⟨_, _, _, _, _, _⟩) (v := ?_) rfl (by kernel_rfl) (by kernel_rfl) (by kernel_rfl) (fun _ _ _ h => h) (Or.inl ⟨by rfl, ?_⟩) (by assumption) ?_
    rotate_left
    · intro wS hSw
      have c := one_c hSw.2.c5; go_simp; (try with_reducible rfl)
    (try simp only [Act.put]); (try simp only [List.setIfInBounds_toArray]); (try simp only [List.set_cons_succ]); (try simp only [List.set_cons_zero])
    refine wpAnyH_take (i := 1) (oi := ⟨_, _, _, _, _, _⟩) (v := ?_) rfl (by kernel_rfl) (by kernel_rfl) (by kernel_rfl) (fun _ _ _ h => h) (Or.inl ⟨by rfl, ?_⟩) (by assumption) ?_
    rotate_left
    · intro wS hSw; go_simp; (try with_reducible rfl)
    (try simp only [Act.put]); (try simp only [List.setIfInBounds_toArray]); (try simp only [List.set_cons_succ]); (try simp only [List.set_cons_zero])
    refine wpAnyH_take (i := 2) (oi := ⟨_, _, _, _, _, _⟩) (v := ?_) rfl (by kernel_rfl) (by kernel_rfl) (by kernel_rfl) (fun _ _ _ h => h) (Or.inl ⟨by rfl, ?_⟩) (by assumption) ?_
    rotate_left
    · intro wS hSw; go_simp; (try with_reducible rfl)
    (try simp only [Act.put]); (try simp only [List.setIfInBounds_toArray]); (try simp only [List.set_cons_succ]); (try simp only [List.set_cons_zero])
    refine wpAnyH_take (i := 3) (oi := ⟨_, _, _, _, _, _⟩) (v := ?_) rfl (by kernel_rfl) (by kernel_rfl) (by kernel_rfl) (fun _ _ _ h => h) (Or.inl ⟨by rfl, ?_⟩) (by assumption) ?_
    rotate_left
    · intro wS hSw
      have c := hSw.1.c0; go_simp; (try with_reducible rfl)
    (try simp only [Act.put]); (try simp only [List.setIfInBounds_toArray]); (try simp only [List.set_cons_succ]); (try simp only [List.set_cons_zero])
    refine wpAnyH_take (i := 4) (oi := ⟨_, _, _, _, _, _⟩) (v := ?_) rfl (by kernel_rfl) (by kernel_rfl) (by kernel_rfl) (fun _ _ _ h => h) (Or.inl ⟨by rfl, ?_⟩) (by assumption) ?_
    rotate_left
    · intro wS hSw
      have c := one_c hSw.2.c6; go_simp; (try with_reducible rfl)
    (try simp only [Act.put]); (try simp only [List.setIfInBounds_toArray]); (try simp only [List.set_cons_succ]); (try simp only [List.set_cons_zero])
    refine wpAnyH_take (i := 5) (oi := ⟨_, _, _, _, _, _⟩) (v := ?_) rfl (by kernel_rfl) (by kernel_rfl) (by kernel_rfl) (fun _ _ _ h => h) (Or.inl ⟨by rfl, ?_⟩) (by assumption) ?_
    rotate_left
    · intro wS hSw
      have c := one_c hSw.2.c7; go_simp; (try with_reducible rfl)
    (try simp only [Act.put]); (try simp only [List.setIfInBounds_toArray]); (try simp only [List.set_cons_succ]); (try simp only [List.set_cons_zero])
    refine wpAnyH_take (i := 7) (oi := ⟨_, _, _, _, _, _⟩) (v := .int .i64 0) rfl (by kernel_rfl) (by kernel_rfl) (by kernel_rfl) (fun _ _ _ h => h) (Or.inl ⟨by rfl, fun wS hSw => ?_⟩) (by assumption) ?_
    · have c := one_c hSw.2.ck; go_simp; (try rfl)
    (try simp only [Act.put]); (try simp only [List.setIfInBounds_toArray]); (try simp only [List.set_cons_succ]); (try simp only [List.set_cons_zero])
    refine wpAnyH_take (i := 9) (oi := ⟨_, _, _, _, _, _⟩) (v := ?_) rfl (by kernel_rfl) (by kernel_rfl) (by kernel_rfl) (fun _ _ _ h => h) (Or.inl ⟨by rfl, ?_⟩) (by assumption) ?_
    rotate_left
    · intro wS hSw
      have c := one_c hSw.2.cs; go_simp; (try with_reducible rfl)
    (try simp only [Act.put]); (try simp only [List.setIfInBounds_toArray]); (try simp only [List.set_cons_succ]); (try simp only [List.set_cons_zero])
    refine wpAnyH_take (i := 10) (oi := ⟨_, _, _, _, _, _⟩) (v := .int .i64 0) rfl (by kernel_rfl) (by kernel_rfl) (by kernel_rfl) (fun _ _ _ h => h) (Or.inl ⟨by rfl, fun wS hSw => ?_⟩) (by assumption) ?_
    · have c := one_c hSw.2.ck; go_simp; (try rfl)
    (try simp only [Act.put]); (try simp only [List.setIfInBounds_toArray]); (try simp only [List.set_cons_succ]); (try simp only [List.set_cons_zero])
    refine wpAnyH_take (i := 11) (oi := ⟨_, _, _, _, _, _⟩) (v := .int .i64 0) rfl (by kernel_rfl) (by kernel_rfl) (by kernel_rfl) (fun _ _ _ h => h) (Or.inl ⟨by rfl, fun wS hSw => ?_⟩) (by assumption) ?_
    · go_simp; (try rfl)
    (try simp only [Act.put]); (try simp only [List.setIfInBounds_toArray]); (try simp only [List.set_cons_succ]); (try simp only [List.set_cons_zero])
    refine wpAnyH_take (i := 12) (oi := ⟨_, _, _, _, _, _⟩) (v := .int .i64 0) rfl (by kernel_rfl) (by kernel_rfl) (by kernel_rfl) (fun _ _ _ h => h) (Or.inl ⟨by rfl, fun wS hSw => ?_⟩) (by assumption) ?_
    · have c := one_c hSw.2.ck; go_simp; (try rfl)
    (try simp only [Act.put]); (try simp only [List.setIfInBounds_toArray]); (try simp only [List.set_cons_succ]); (try simp only [List.set_cons_zero])
    refine wpAnyH_take (i := 13) (oi := ⟨_, _, _, _, _, _⟩) (v := .int .i64 1) rfl (by kernel_rfl) (by kernel_rfl) (by kernel_rfl) (fun _ _ _ h => h) (Or.inl ⟨by rfl, fun wS hSw => ?_⟩) (by assumption) ?_
    · go_simp; (try rfl)
    (try simp only [Act.put]); (try simp only [List.setIfInBounds_toArray]); (try simp only [List.set_cons_succ]); (try simp only [List.set_cons_zero])
    refine wpAnyH_take (i := 14) (oi := ⟨_, _, _, _, _, _⟩) (v := .int .i64 64) rfl (by kernel_rfl) (by kernel_rfl) (by kernel_rfl) (fun _ _ _ h => h) (Or.inl ⟨by rfl, fun wS hSw => ?_⟩) (by assumption) ?_
    · go_simp; (try rfl)
    (try simp only [Act.put]); (try simp only [List.setIfInBounds_toArray]); (try simp only [List.set_cons_succ]); (try simp only [List.set_cons_zero])
    refine wpAnyH_take (i := 15) (oi := ⟨_, _, _, _, _, _⟩) (v := .slice (some ⟨G, 0, none⟩) 64 N) rfl (by kernel_rfl) (by kernel_rfl) (by kernel_rfl) (fun _ _ _ h => h) (Or.inl ⟨by rfl, fun wS hSw => ?_⟩) (by assumption) ?_
    · go_simp; (intro hx9; omega)
    (try simp only [Act.put]); (try simp only [List.setIfInBounds_toArray]); (try simp only [List.set_cons_succ]); (try simp only [List.set_cons_zero])
    refine wpAnyH_ready (rs := [6]) (by kernel_rfl) (by simp) ?_
    refine AllReadyH.cons (o := ⟨_, _, _, _, _, _⟩) rfl (fun K' hK' => ?_) AllReadyH.nil
    refine (if_pos (by rfl)).mpr ?_
    go_simp
    refine (first_any reg pla _).mono ?_
    rintro e w10 ⟨rfl, hb10⟩
    rw [HF.out]
    have D10 := D1.below hb10
    have S10 := S1.below hb10
    have X10 := X1.below hb10
    have O10 := obl _ _ O1 hb10
    have k10 := k1.trans (Kt.of hb10 hb1)
    have hB10 := Nat.le_trans hb1 hb10.size
    refine hK'.out _ _ ⟨S10, X10⟩ (fun _ => ?_)
    clear hK' hS0 D1 S1 X1 O1 k1 hb1 hb10
    (try simp only [Act.put]); (try simp only [List.setIfInBounds_toArray]); (try simp only [List.set_cons_succ]); (try simp only [List.set_cons_zero])
    refine wpAnyH_take (i := 8) (oi := ⟨_, _, _, _, _, _⟩) (v := .int .i64 f) rfl (by kernel_rfl) (by kernel_rfl) (by kernel_rfl) (fun _ _ _ h => h) (Or.inl ⟨by rfl, fun wS hSw => ?_⟩) (by assumption) ?_
    · go_simp; (try rw [IntWalk.i64_in _ (by omega)])
    (try simp only [Act.put]); (try simp only [List.setIfInBounds_toArray]); (try simp only [List.set_cons_succ]); (try simp only [List.set_cons_zero])
    refine wpAnyH_ready (rs := [16]) (by kernel_rfl) (by simp) ?_
    refine AllReadyH.cons (o := ⟨_, _, _, _, _, _⟩) rfl (fun K' hK' => ?_) AllReadyH.nil
    refine (if_pos (by rfl)).mpr ?_
    go_simp
    refine (HW0 _ D10 hB10 (HS2 _ O10)).mono ?_
    rintro e w11 ⟨rfl, ⟨wv11, D11⟩, hk11⟩
    refine hK'.out _ _ ⟨S10.kt hk11, X10.kt hk11⟩ (fun _ => ?_)
    clear hK'
    (try simp only [Act.put]); (try simp only [List.setIfInBounds_toArray]); (try simp only [List.set_cons_succ]); (try simp only [List.set_cons_zero])
    refine wpAnyH_take (i := 17) (oi := ⟨_, _, _, _, _, _⟩) (v := ?_) rfl (by kernel_rfl) (by kernel_rfl) (by kernel_rfl) (fun _ _ _ h => h) (Or.inl ⟨by rfl, ?_⟩) (by assumption) ?_
    rotate_left
    · intro wS hSw; go_simp; (try with_reducible rfl)
    (try simp only [Act.put]); (try simp only [List.setIfInBounds_toArray]); (try simp only [List.set_cons_succ]); (try simp only [List.set_cons_zero])
    refine wpAnyH_done (by kernel_rfl) ?_ _
    refine HK.out _ _ ?_
    clear HK
    go_wp2
    go_ret
    exact ⟨rfl, ⟨_, D11⟩, k10.trans hk11⟩
  · rw [show f + ((1 : Nat) : Int) = f + 1 by omega, Nat.mul_one] at HW0
    rw [Nat.mul_one] at HS2
    go_enter Tryz.func63, Tryz.ntmps63
    refine wp_seq_k (fun K hK => ?_)
    have HK := Lib.hid hK
    clear hK
    go_wp2
    refine HK.out _ _ ?_
    clear HK
    refine wp_seq_k (fun K hK => ?_)
    have HK := Lib.hid hK
    clear hK
    go_wp2_with fail
    have hbd := (Below.refl w.heap.size w).drew
    have D1 := hd.below hbd
    have S1 := h.below hbd
    have X1 := hx.below hbd
    have O1 := obl _ _ O0 hbd
    have k1 := Kt.of hbd hb
    have hb1 := Nat.le_trans hb hbd.size
    refine wp_region_held_drew (S := fun w' => LgB w' q g s ∧ WBx w' n5 n6 n7 nk ns q G reg pla 1 N) (by kernel_rfl) ⟨S1, X1⟩ (fun hS0 => ?_)
    clear hbd hd h hx O0 hb
    generalize w.drew = x0 at *
    refine wpAnyH_take (i := 0) (oi := ⟨_, _, _, _, _, _⟩) (v := ?_) rfl (by kernel_rfl) (by kernel_rfl) (by kernel_rfl) (fun _ _ _ h => h) (Or.inl ⟨by rfl, ?_⟩) (by assumption) ?_
    rotate_left
    · intro wS hSw
      have c := one_c hSw.2.c5; go_simp; (try with_reducible rfl)
    (try simp only [Act.put]); (try simp only [List.setIfInBounds_toArray]); (try simp only [List.set_cons_succ]); (try simp only [List.set_cons_zero])
    refine wpAnyH_take (i := 1) (oi := ⟨_, _, _, _, _, _⟩) (v := ?_) rfl (by kernel_rfl) (by kernel_rfl) (by kernel_rfl) (fun _ _ _ h => h) (Or.inl ⟨by rfl, ?_⟩) (by assumption) ?_
    rotate_left
    · intro wS hSw; go_simp; (try with_reducible rfl)
    (try simp only [Act.put]); (try simp only [List.setIfInBounds_toArray]); (try simp only [List.set_cons_succ]); (try simp only [List.set_cons_zero])
    refine wpAnyH_take (i := 2) (oi := ⟨_, _, _, _, _, _⟩) (v := ?_) rfl (by kernel_rfl) (by kernel_rfl) (by kernel_rfl) (fun _ _ _ h => h) (Or.inl ⟨by rfl, ?_⟩) (by assumption) ?_
    rotate_left
    · intro wS hSw; go_simp; (try with_reducible rfl)
    (try simp only [Act.put]); (try simp only [List.setIfInBounds_toArray]); (try simp only [List.set_cons_succ]); (try simp only [List.set_cons_zero])
    refine wpAnyH_take (i := 3) (oi := ⟨_, _, _, _, _, _⟩) (v := ?_) rfl (by kernel_rfl) (by kernel_rfl) (by kernel_rfl) (fun _ _ _ h => h) (Or.inl ⟨by rfl, ?_⟩) (by assumption) ?_
    rotate_left
    · intro wS hSw
      have c := hSw.1.c0; go_simp; (try with_reducible rfl)
    (try simp only [Act.put]); (try simp only [List.setIfInBounds_toArray]); (try simp only [List.set_cons_succ]); (try simp only [List.set_cons_zero])
    refine wpAnyH_take (i := 4) (oi := ⟨_, _, _, _, _, _⟩) (v := ?_) rfl (by kernel_rfl) (by kernel_rfl) (by kernel_rfl) (fun _ _ _ h => h) (Or.inl ⟨by rfl, ?_⟩) (by assumption) ?_
    rotate_left
    · intro wS hSw
      have c := one_c hSw.2.c6; go_simp; (try with_reducible rfl)
    (try simp only [Act.put]); (try simp only [List.setIfInBounds_toArray]); (try simp only [List.set_cons_succ]); (try simp only [List.set_cons_zero])
    refine wpAnyH_take (i := 5) (oi := ⟨_, _, _, _, _, _⟩) (v := ?_) rfl (by kernel_rfl) (by kernel_rfl) (by kernel_rfl) (fun _ _ _ h => h) (Or.inl ⟨by rfl, ?_⟩) (by assumption) ?_
    rotate_left
    · intro wS hSw
      have c := one_c hSw.2.c7; go_simp; (try with_reducible rfl)
    (try simp only [Act.put]); (try simp only [List.setIfInBounds_toArray]); (try simp only [List.set_cons_succ]); (try simp only [List.set_cons_zero])
    refine wpAnyH_take (i := 7) (oi := ⟨_, _, _, _, _, _⟩) (v := .int .i64 1) rfl (by kernel_rfl) (by kernel_rfl) (by kernel_rfl) (fun _ _ _ h => h) (Or.inl ⟨by rfl, fun wS hSw => ?_⟩) (by assumption) ?_
    · have c := one_c hSw.2.ck; go_simp; (try rfl)
    (try simp only [Act.put]); (try simp only [List.setIfInBounds_toArray]); (try simp only [List.set_cons_succ]); (try simp only [List.set_cons_zero])
    refine wpAnyH_take (i := 9) (oi := ⟨_, _, _, _, _, _⟩) (v := ?_) rfl (by kernel_rfl) (by kernel_rfl) (by kernel_rfl) (fun _ _ _ h => h) (Or.inl ⟨by rfl, ?_⟩) (by assumption) ?_
    rotate_left
    · intro wS hSw
      have c := one_c hSw.2.cs; go_simp; (try with_reducible rfl)
    (try simp only [Act.put]); (try simp only [List.setIfInBounds_toArray]); (try simp only [List.set_cons_succ]); (try simp only [List.set_cons_zero])
    refine wpAnyH_take (i := 10) (oi := ⟨_, _, _, _, _, _⟩) (v := .int .i64 1) rfl (by kernel_rfl) (by kernel_rfl) (by kernel_rfl) (fun _ _ _ h => h) (Or.inl ⟨by rfl, fun wS hSw => ?_⟩) (by assumption) ?_
    · have c := one_c hSw.2.ck; go_simp; (try rfl)
    (try simp only [Act.put]); (try simp only [List.setIfInBounds_toArray]); (try simp only [List.set_cons_succ]); (try simp only [List.set_cons_zero])
    refine wpAnyH_take (i := 11) (oi := ⟨_, _, _, _, _, _⟩) (v := .int .i64 64) rfl (by kernel_rfl) (by kernel_rfl) (by kernel_rfl) (fun _ _ _ h => h) (Or.inl ⟨by rfl, fun wS hSw => ?_⟩) (by assumption) ?_
    · go_simp; (try rfl)
    (try simp only [Act.put]); (try simp only [List.setIfInBounds_toArray]); (try simp only [List.set_cons_succ]); (try simp only [List.set_cons_zero])
    refine wpAnyH_take (i := 12) (oi := ⟨_, _, _, _, _, _⟩) (v := .int .i64 1) rfl (by kernel_rfl) (by kernel_rfl) (by kernel_rfl) (fun _ _ _ h => h) (Or.inl ⟨by rfl, fun wS hSw => ?_⟩) (by assumption) ?_
    · have c := one_c hSw.2.ck; go_simp; (try rfl)
    (try simp only [Act.put]); (try simp only [List.setIfInBounds_toArray]); (try simp only [List.set_cons_succ]); (try simp only [List.set_cons_zero])
    refine wpAnyH_take (i := 13) (oi := ⟨_, _, _, _, _, _⟩) (v := .int .i64 2) rfl (by kernel_rfl) (by kernel_rfl) (by kernel_rfl) (fun _ _ _ h => h) (Or.inl ⟨by rfl, fun wS hSw => ?_⟩) (by assumption) ?_
    · go_simp; (try rfl)
    (try simp only [Act.put]); (try simp only [List.setIfInBounds_toArray]); (try simp only [List.set_cons_succ]); (try simp only [List.set_cons_zero])
    refine wpAnyH_take (i := 14) (oi := ⟨_, _, _, _, _, _⟩) (v := .int .i64 128) rfl (by kernel_rfl) (by kernel_rfl) (by kernel_rfl) (fun _ _ _ h => h) (Or.inl ⟨by rfl, fun wS hSw => ?_⟩) (by assumption) ?_
    · go_simp; (try rfl)
    (try simp only [Act.put]); (try simp only [List.setIfInBounds_toArray]); (try simp only [List.set_cons_succ]); (try simp only [List.set_cons_zero])
    refine wpAnyH_take (i := 15) (oi := ⟨_, _, _, _, _, _⟩) (v := .slice (some ⟨G, 64, none⟩) 64 (N - 64)) rfl (by kernel_rfl) (by kernel_rfl) (by kernel_rfl) (fun _ _ _ h => h) (Or.inl ⟨by rfl, fun wS hSw => ?_⟩) (by assumption) ?_
    · go_simp; (rw [if_pos (show (128 : Int) ≤ N by omega), if_neg (show ¬ N = 64 by omega)])
    (try simp only [Act.put]); (try simp only [List.setIfInBounds_toArray]); (try simp only [List.set_cons_succ]); (try simp only [List.set_cons_zero])
    refine wpAnyH_ready (rs := [6]) (by kernel_rfl) (by simp) ?_
    refine AllReadyH.cons (o := ⟨_, _, _, _, _, _⟩) rfl (fun K' hK' => ?_) AllReadyH.nil
    refine (if_pos (by rfl)).mpr ?_
    go_simp
    refine (first_any reg pla _).mono ?_
    rintro e w10 ⟨rfl, hb10⟩
    rw [HF.out]
    have D10 := D1.below hb10
    have S10 := S1.below hb10
    have X10 := X1.below hb10
    have O10 := obl _ _ O1 hb10
    have k10 := k1.trans (Kt.of hb10 hb1)
    have hB10 := Nat.le_trans hb1 hb10.size
    refine hK'.out _ _ ⟨S10, X10⟩ (fun _ => ?_)
    clear hK' hS0 D1 S1 X1 O1 k1 hb1 hb10
    (try simp only [Act.put]); (try simp only [List.setIfInBounds_toArray]); (try simp only [List.set_cons_succ]); (try simp only [List.set_cons_zero])
    refine wpAnyH_take (i := 8) (oi := ⟨_, _, _, _, _, _⟩) (v := .int .i64 (f + 1)) rfl (by kernel_rfl) (by kernel_rfl) (by kernel_rfl) (fun _ _ _ h => h) (Or.inl ⟨by rfl, fun wS hSw => ?_⟩) (by assumption) ?_
    · go_simp; (try rw [IntWalk.i64_in _ (by omega)])
    (try simp only [Act.put]); (try simp only [List.setIfInBounds_toArray]); (try simp only [List.set_cons_succ]); (try simp only [List.set_cons_zero])
    refine wpAnyH_ready (rs := [16]) (by kernel_rfl) (by simp) ?_
    refine AllReadyH.cons (o := ⟨_, _, _, _, _, _⟩) rfl (fun K' hK' => ?_) AllReadyH.nil
    refine (if_pos (by rfl)).mpr ?_
    go_simp
    refine (HW0 _ D10 hB10 (HS2 _ O10)).mono ?_
    rintro e w11 ⟨rfl, ⟨wv11, D11⟩, hk11⟩
    refine hK'.out _ _ ⟨S10.kt hk11, X10.kt hk11⟩ (fun _ => ?_)
    clear hK'
    (try simp only [Act.put]); (try simp only [List.setIfInBounds_toArray]); (try simp only [List.set_cons_succ]); (try simp only [List.set_cons_zero])
    refine wpAnyH_take (i := 17) (oi := ⟨_, _, _, _, _, _⟩) (v := ?_) rfl (by kernel_rfl) (by kernel_rfl) (by kernel_rfl) (fun _ _ _ h => h) (Or.inl ⟨by rfl, ?_⟩) (by assumption) ?_
    rotate_left
    · intro wS hSw; go_simp; (try with_reducible rfl)
    (try simp only [Act.put]); (try simp only [List.setIfInBounds_toArray]); (try simp only [List.set_cons_succ]); (try simp only [List.set_cons_zero])
    refine wpAnyH_done (by kernel_rfl) ?_ _
    refine HK.out _ _ ?_
    clear HK
    go_wp2
    go_ret
    exact ⟨rfl, ⟨_, D11⟩, k10.trans hk11⟩
end
end Go.Proofs.YtknchbhobopkeaaGreatDoor
namespace Go.Proofs.YtknchbhobopkeaaGreatDoor
open Go.RowKit
structure Kw (B eb : Nat) (w w' : World) : Prop where
  bl : Below B w w'
  ty : ∀ (j : Nat) (cs : Array Value) (T : TypeId), w.heap[j]? = some (.cells cs T (0, 0)) → T ≠ 71 → T ≠ 134 → T ≠ 132 → j ≠ eb → w'.heap[j]? = some (.cells cs T (0, 0))
section
variable {B eb g gp q n5 n6 n7 nk ns G : Nat} {wv : Value} {d : Dk} {w w1 w2 : World} {s : Lg} {reg pla f : Int} {fr : List UInt8}
theorem Kw.refl (B eb : Nat) (w : World) : Kw B eb w w := ⟨Below.refl _ _, fun _ _ _ h _ _ _ _ => h⟩
theorem Kw.trans (h : Kw B eb w w1) (h2 : Kw B eb w1 w2) : Kw B eb w w2 := ⟨h.bl.trans h2.bl, fun j cs T a b c d e => h2.ty j cs T (h.ty j cs T a b c d e) b c d e⟩
theorem Kw.of (h : Kt B w w1) : Kw B eb w w1 := ⟨h.bl, fun j cs T a b c d _ => h.ty j cs T a b c d⟩
theorem Kw.st (hg : w.grownBy w1 (some eb)) (hB : B ≤ eb) (hs : B ≤ w.heap.size) : Kw B eb w w1 := ⟨(Below.refl B w).grown hg hs (fun k e => by cases e; exact hB), fun _ _ _ a _ _ _ e => tr_st hg a (Ne.symm e)⟩
theorem Kw.kt (h : Kw B eb w1 w2) (hb : Below w.heap.size w w1) (hB : B ≤ w.heap.size) (he : w.heap.size ≤ eb) : Kt B w w2 := ⟨(hb.mono hB).trans h.bl, fun j cs T a b c d => h.ty j cs T (tr_bl hb a) b c d (by have := lt_blk a; omega)⟩
theorem ne_ty2 {j mb : Nat} {cs xs : Array Value} {T T' : TypeId} (hc : w.heap[mb]? = some (.cells cs T (0, 0))) (hj : w.heap[j]? = some (.cells xs T' (0, 0))) (hT : T' ≠ T) : mb ≠ j := fun e => by
  subst e
  rw [hc] at hj
  injection hj with hj
  injection hj with _ e
  exact hT e.symm
theorem DiskB.oe {mb : Nat} {cs : Array Value} {T : TypeId} (h : DiskB B g gp wv d w) (hg : w.grownBy w1 (some mb)) (hc : w.heap[mb]? = some (.cells cs T (0, 0))) (h1 : 71 ≠ T) (h2 : 134 ≠ T) (h3 : 132 ≠ T) : DiskB B g gp wv d w1 :=
  ⟨tr_st hg h.box (ne_ty2 hc h.box h1), tr_st hg h.pls (ne_ty2 hc h.pls h2), owns_ne h.wts hg hc h3, h.gb, h.pb, h.n0, h.nl, h.lo, h.hi, h.ok, h.wk⟩
theorem er_st (x y : Int) : 0 + 1 ≤ (#[Value.int .i64 x] : Array Value).size ∧ (Value.int .i64 y).cells.size = 1 ∧ (∀ u ∈ (Value.int .i64 y).cells.toList, u.oneCell' = true) ∧ ((#[Value.int .i64 x] : Array Value).toList.take 0 ++ (Value.int .i64 y).cells.toList ++ (#[Value.int .i64 x] : Array Value).toList.drop (0 + 1)).toArray = #[.int .i64 y] :=
  ⟨by show _ ≤ 1; omega, rfl, by simp [Value.cells, Value.oneCell'], rfl⟩
def ErB (w : World) (eb : Nat) (x : Int) : Prop := w.heap[eb]? = some (.cells #[.int .i64 x] 24 (0, 0))
set_option maxRecDepth 100000 in
theorem do_skip (v : Value) (x : Int) (hx : x ≠ 0) (hE : ErB w eb x) : Calls Tryz.prog 62 #[v, .pointer (some ⟨eb, 0, none⟩)] w fun e w' => e = .returned (.tuple #[]) ∧ w = w' := by
  have c0 := one_c hE
  have e0 : (x == 0) = false := by rw [beq_eq_false_iff_ne]; exact hx
  go_enter Tryz.func62, Tryz.ntmps62
  go_wp2
  go_end0
  exact ⟨rfl, rfl⟩
set_option maxRecDepth 100000 in
set_option maxHeartbeats 1000000 in
theorem do_wr (hE : ErB w eb 0) (hBe : B ≤ eb) (h : LgB w q g s) (hd : DiskB B g gp wv d w) (hb : B ≤ w.heap.size) (k : Nat) (hk : k < 2) (hx : WBx w n5 n6 n7 nk ns q G reg pla k fr.length) (hO : OwnB w B (some ⟨G, 0, none⟩) fr.length fr) (hl : 64 * k + 64 ≤ fr.length) (hl2 : fr.length ≤ 128) (hf : firstN reg pla = f) (hfb : 0 ≤ f ∧ f < 200) (hw : d.waits.length ≤ 1000000) :
    Calls Tryz.prog 62 #[wr2V n5 n6 n7 nk ns, .pointer (some ⟨eb, 0, none⟩)] w fun e w' => e = .returned (.tuple #[]) ∧ (∃ wv', DiskB B g gp wv' (writeD d (f + k) (pcD fr k)).1 w') ∧ ErB w' eb (writeD d (f + k) (pcD fr k)).2 ∧ Kw B eb w w' := by
  have hcl := wr2_any h hd hb k hk hx hO hl hl2 hf hfb hw
  obtain ⟨d1, e1, hd1⟩ : ∃ d1 e1, writeD d (f + k) (pcD fr k) = (d1, e1) := ⟨_, _, rfl⟩
  rw [hd1] at hcl ⊢
  have c0 := one_c hE
  have HE : w.heap[eb]? = some (.cells #[.int .i64 0] 24 (0, 0)) := hE
  clear hd1 h hd hx hO hl hl2 hf hw hk
  go_enter Tryz.func62, Tryz.ntmps62
  go_wp2_with (first
    | (go_at_call 63; refine hcl.mono ?_; rintro e w1 ⟨rfl, ⟨wv1, D1⟩, hk1⟩; have E1 := hk1.ty _ _ _ HE (by decide) (by decide) (by decide))
    | ((with_reducible refine wpList_stB 24 _ _ ?_); refine ⟨_, _, _, ⟨_, _, _, Tryz.sizeOf24, rfl, E1, er_st _ e1⟩, ?_⟩; intro w2 E2 g2))
  go_end0
  exact ⟨rfl, ⟨_, D1.oe g2 E1 (by decide) (by decide) (by decide)⟩, E2, (Kw.of hk1).trans (Kw.st g2 hBe (Nat.le_trans hb hk1.bl.size))⟩
abbrev flV (g : Nat) : Value := .func (.func 65) #[.pointer (some ⟨g, 0, none⟩)] #[]
set_option maxRecDepth 100000 in
set_option maxHeartbeats 1000000 in
theorem do_fl (hE : ErB w eb 0) (hBe : B ≤ eb) (hd : DiskB B g gp wv d w) (hb : B ≤ w.heap.size) :
    Calls Tryz.prog 62 #[flV g, .pointer (some ⟨eb, 0, none⟩)] w fun e w' => e = .returned (.tuple #[]) ∧ (∃ wv', DiskB B g gp wv' (flushD d).1 w') ∧ ErB w' eb (flushD d).2 ∧ Kw B eb w w' := by
  have hcl := flush_any hd hb
  obtain ⟨d1, e1, hd1⟩ : ∃ d1 e1, flushD d = (d1, e1) := ⟨_, _, rfl⟩
  rw [hd1] at hcl ⊢
  have c0 := one_c hE
  have HE : w.heap[eb]? = some (.cells #[.int .i64 0] 24 (0, 0)) := hE
  clear hd1 hd
  go_enter Tryz.func62, Tryz.ntmps62
  go_wp2_with (first
    | (go_at_call 65; refine hcl.mono ?_; rintro e w1 ⟨rfl, ⟨wv1, D1⟩, hk1⟩; have E1 := hk1.ty _ _ _ HE (by decide) (by decide) (by decide))
    | ((with_reducible refine wpList_stB 24 _ _ ?_); refine ⟨_, _, _, ⟨_, _, _, Tryz.sizeOf24, rfl, E1, er_st _ e1⟩, ?_⟩; intro w2 E2 g2))
  go_end0
  exact ⟨rfl, ⟨_, D1.oe g2 E1 (by decide) (by decide) (by decide)⟩, E2, (Kw.of hk1).trans (Kw.st g2 hBe (Nat.le_trans hb hk1.bl.size))⟩
end
end Go.Proofs.YtknchbhobopkeaaGreatDoor
namespace Go.Proofs.YtknchbhobopkeaaGreatDoor
open Go.RowKit
structure WF (B g gp q nb : Nat) (wv : Value) (d : Dk) (s : Lg) (reg pla : Int) (w wx : World) : Prop where
  lg : LgB wx q g s
  b5 : wx.heap[nb]? = some (.cells #[.pointer (some ⟨q, 0, none⟩)] 27 (0, 0))
  b6 : wx.heap[nb + 1]? = some (.cells #[.int .i64 reg] 3 (0, 0))
  b7 : wx.heap[nb + 2]? = some (.cells #[.int .i64 pla] 3 (0, 0))
  er : ErB wx (nb + 3) 0
  dk : DiskB B g gp wv d wx
  bl : Below nb w wx
def Mid (B g gp q nb : Nat) (wv : Value) (d : Dk) (s : Lg) (reg pla : Int) (w : World) (fr : List UInt8) (v : Value) (wx : World) : Prop :=
  ∃ sb G, v = .pointer (some ⟨sb, 0, none⟩) ∧ wx.heap[sb]? = some (.cells #[.slice (some ⟨G, 0, none⟩) fr.length fr.length] 75 (0, 0)) ∧ OwnB wx nb (some ⟨G, 0, none⟩) fr.length fr ∧ WF B g gp q nb wv d s reg pla w wx
section
variable {B g gp q nb sb : Nat} {wv : Value} {d : Dk} {w wx wy : World} {s : Lg} {reg pla : Int} {cs : Array Value}
theorem WF.below (h : WF B g gp q nb wv d s reg pla w wx) (hb : Below wx.heap.size wx wy) : WF B g gp q nb wv d s reg pla w wy :=
  ⟨h.lg.below hb, tr_bl hb h.b5, tr_bl hb h.b6, tr_bl hb h.b7, tr_bl hb h.er, h.dk.below hb, h.bl.trans (hb.mono (by have := lt_blk h.b5; omega))⟩
theorem WF.st1 (h : WF B g gp q nb wv d s reg pla w wx) (hg : wx.grownBy wy (some sb)) (hc : wx.heap[sb]? = some (.cells cs 75 (0, 0))) (hsb : nb ≤ sb) : WF B g gp q nb wv d s reg pla w wy :=
  ⟨tr_st hg h.lg (ne_ty2 hc h.lg (by decide)), tr_st hg h.b5 (ne_ty2 hc h.b5 (by decide)), tr_st hg h.b6 (ne_ty2 hc h.b6 (by decide)), tr_st hg h.b7 (ne_ty2 hc h.b7 (by decide)), tr_st hg h.er (ne_ty2 hc h.er (by decide)), h.dk.oe hg hc (by decide) (by decide) (by decide), bl_st h.bl hg (by have := lt_blk h.b5; omega) hsb⟩
theorem WF.st2 (h : WF B g gp q nb wv d s reg pla w wx) (hg : wx.grownBy wy (some (nb + 3))) (he : ErB wy (nb + 3) 0) : WF B g gp q nb wv d s reg pla w wy :=
  ⟨tr_st hg h.lg (ne_ty2 h.er h.lg (by decide)), tr_st hg h.b5 (by omega), tr_st hg h.b6 (by omega), tr_st hg h.b7 (by omega), he, h.dk.oe hg h.er (by decide) (by decide) (by decide), bl_st h.bl hg (by have := lt_blk h.b5; omega) (by omega)⟩
theorem sl_over (a : Option Addr) (n c : Nat) : 0 + 1 ≤ (#[Value.slice none 0 0] : Array Value).size ∧ (Value.slice a n c).cells.size = 1 ∧ (∀ u ∈ (Value.slice a n c).cells.toList, u.oneCell' = true) ∧ ((#[Value.slice none 0 0] : Array Value).toList.take 0 ++ (Value.slice a n c).cells.toList ++ (#[Value.slice none 0 0] : Array Value).toList.drop (0 + 1)).toArray = #[.slice a n c] :=
  ⟨by show _ ≤ 1; omega, rfl, by simp [Value.cells, Value.oneCell'], rfl⟩
def wsD (d : Dk) (f : Int) (fr : List UInt8) : Nat → Dk × Int
  | 0 => (d, 0)
  | k + 1 => if (wsD d f fr k).2 ≠ 0 then wsD d f fr k else writeD (wsD d f fr k).1 (f + k) (pcD fr k)
def lputD (d : Dk) (f : Int) (fr : List UInt8) (n : Nat) : Dk × Int := if (wsD d f fr n).2 ≠ 0 then wsD d f fr n else flushD (wsD d f fr n).1
theorem wsD_wt (d : Dk) (f : Int) (fr : List UInt8) : ∀ k, (wsD d f fr k).1.waits.length ≤ d.waits.length + k
  | 0 => Nat.le_refl _
  | k + 1 => by
    have h := wsD_wt d f fr k
    unfold wsD
    split
    · omega
    · have := (write_pl (wsD d f fr k).1 (f + k) (pcD fr k)).2
      omega
theorem OwnB.kw {eb base c : Nat} {a : Option Addr} {l : List UInt8} {x : Int} (h : OwnB wx base a c l) (hk : Kw B eb wx wy) (he : ErB wx eb x) : OwnB wy base a c l := by
  rcases h with h | ⟨g, ys, h1, h2, h3, h4, h5⟩
  · exact .inl h
  · exact .inr ⟨g, ys, h1, h2, h3, h4, hk.ty _ _ _ h5 (by decide) (by decide) (by decide) (ne_ty2 h5 he (by decide))⟩
set_option maxRecDepth 100000 in
set_option maxHeartbeats 1000000 in
theorem lwrite1_any {f : Int} (h : LgB w q g s) (hd : DiskB B g gp wv d w) (hb : B ≤ w.heap.size) (hf : firstN 3 pla = f) (hfb : 0 ≤ f ∧ f < 200) (hw : d.waits.length ≤ 1000) (i : Int) (a : Option Addr) (cap : Nat) (body : List UInt8) (hs : SlB w a cap body) (hmay : mayTg ⟨s.rep, 3, pla, i, s.inc⟩ = true) (hbl : body.length ≤ 43) :
    Calls Tryz.prog 33 #[.pointer (some ⟨q, 0, none⟩), .int .i64 3, .int .i64 pla, .int .i64 i, .slice a body.length cap] w fun e w' => e = .returned (.int .i64 (lputD d f (sealF ⟨s.rep, 3, pla, i, s.inc⟩ body 64) 1).2) ∧ (∃ wv', DiskB B g gp wv' (lputD d f (sealF ⟨s.rep, 3, pla, i, s.inc⟩ body 64) 1).1 w') ∧ Kt B w w' := by
  obtain ⟨r, hr⟩ : ∃ r, lputD d f (sealF ⟨s.rep, 3, pla, i, s.inc⟩ body 64) 1 = r := ⟨_, rfl⟩
  rw [hr]
  have HR := Lib.hid hr
  have HF := Lib.hid hf
  clear hr hf
  have hfl : (sealF ⟨s.rep, 3, pla, i, s.inc⟩ body 64).length = 64 := sealF_len (by decide) (by simpa [roomN] using hbl)
  go_enter Tryz.func33, Tryz.ntmps33
  refine wp_seq_k (fun K hK => ?_)
  have HK := Lib.hid hK
  clear hK
  go_wp2
  refine HK.out _ _ ?_
  clear HK
  have hb1 := blw w (Obj.cells #[.pointer (some ⟨q, 0, none⟩)] 27)
  have hb2 := hb1.trans ((blw (w.alloc (Obj.cells #[.pointer (some ⟨q, 0, none⟩)] 27)) (Obj.cells #[.int .i64 3] 3)).mono hb1.size)
  have hb3 := hb2.trans ((blw ((w.alloc (Obj.cells #[.pointer (some ⟨q, 0, none⟩)] 27)).alloc (Obj.cells #[.int .i64 3] 3)) (Obj.cells #[.int .i64 pla] 3)).mono hb2.size)
  have hb4 := hb3.trans ((blw (((w.alloc (Obj.cells #[.pointer (some ⟨q, 0, none⟩)] 27)).alloc (Obj.cells #[.int .i64 3] 3)).alloc (Obj.cells #[.int .i64 pla] 3)) (Obj.cells #[.int .i64 0] 24)).mono hb3.size)
  have e1 : (w.alloc (Obj.cells #[.pointer (some ⟨q, 0, none⟩)] 27)).heap.size = w.heap.size + 1 := by simp
  have e2 : ((w.alloc (Obj.cells #[.pointer (some ⟨q, 0, none⟩)] 27)).alloc (Obj.cells #[.int .i64 3] 3)).heap.size = w.heap.size + 2 := by simp
  have e3 : (((w.alloc (Obj.cells #[.pointer (some ⟨q, 0, none⟩)] 27)).alloc (Obj.cells #[.int .i64 3] 3)).alloc (Obj.cells #[.int .i64 pla] 3)).heap.size = w.heap.size + 3 := by simp
  have F1 : WF B g gp q w.heap.size wv d s 3 pla w ((((w.alloc (Obj.cells #[.pointer (some ⟨q, 0, none⟩)] 27)).alloc (Obj.cells #[.int .i64 3] 3)).alloc (Obj.cells #[.int .i64 pla] 3)).alloc (Obj.cells #[.int .i64 0] 24)) :=
    ⟨h.below hb4, tr_al (Obj.cells #[.int .i64 0] 24) (tr_al (Obj.cells #[.int .i64 pla] 3) (tr_al (Obj.cells #[.int .i64 3] 3) (heap_alloc_new w (Obj.cells #[.pointer (some ⟨q, 0, none⟩)] 27)))), tr_al (Obj.cells #[.int .i64 0] 24) (tr_al (Obj.cells #[.int .i64 pla] 3) (e1 ▸ heap_alloc_new (w.alloc (Obj.cells #[.pointer (some ⟨q, 0, none⟩)] 27)) (Obj.cells #[.int .i64 3] 3))), tr_al (Obj.cells #[.int .i64 0] 24) (e2 ▸ heap_alloc_new ((w.alloc (Obj.cells #[.pointer (some ⟨q, 0, none⟩)] 27)).alloc (Obj.cells #[.int .i64 3] 3)) (Obj.cells #[.int .i64 pla] 3)), e3 ▸ heap_alloc_new (((w.alloc (Obj.cells #[.pointer (some ⟨q, 0, none⟩)] 27)).alloc (Obj.cells #[.int .i64 3] 3)).alloc (Obj.cells #[.int .i64 pla] 3)) (Obj.cells #[.int .i64 0] 24), hd.below hb4, hb4⟩
  have SB1 := hs.below hb4
  clear hb1 hb2 hb3 hb4 e1 e2 e3
  generalize (((w.alloc (Obj.cells #[.pointer (some ⟨q, 0, none⟩)] 27)).alloc (Obj.cells #[.int .i64 3] 3)).alloc (Obj.cells #[.int .i64 pla] 3)).alloc (Obj.cells #[.int .i64 0] 24) = w1 at *
  refine wp_seq_k (fun K hK => ?_)
  go_cut [11] (fun v wx => Mid B g gp q w.heap.size wv d s 3 pla w (sealF ⟨s.rep, 3, pla, i, s.inc⟩ body 64) v wx)
  case first =>
    have hbd := (Below.refl w1.heap.size w1).drew
    have F := F1.below hbd
    have SB := SB1.below hbd
    clear F1 SB1 hbd
    refine wp_region_held_drew (S := fun w' => LgB w' q g s ∧ w'.heap[w.heap.size]? = some (.cells #[.pointer (some ⟨q, 0, none⟩)] 27 (0, 0)) ∧ w'.heap[w.heap.size + 1]? = some (.cells #[.int .i64 3] 3 (0, 0)) ∧ w'.heap[w.heap.size + 2]? = some (.cells #[.int .i64 pla] 3 (0, 0))) (by kernel_rfl) ⟨F.lg, F.b5, F.b6, F.b7⟩ (fun hS0 => ?_)
    generalize w1.drew = x0 at *
    refine wpAnyH_take (i := 0) (oi := ⟨_, _, _, _, _, _⟩) (v := ?_) rfl (by kernel_rfl) (by kernel_rfl) (by kernel_rfl) (fun _ _ _ h => h) (Or.inl ⟨by rfl, ?_⟩) (by assumption) ?_
    rotate_left
    · intro wS hSw
      have c := one_c hSw.2.1; go_simp; (try with_reducible rfl)
    (try simp only [Act.put]); (try simp only [List.setIfInBounds_toArray]); (try simp only [List.set_cons_succ]); (try simp only [List.set_cons_zero])
    refine wpAnyH_take (i := 1) (oi := ⟨_, _, _, _, _, _⟩) (v := ?_) rfl (by kernel_rfl) (by kernel_rfl) (by kernel_rfl) (fun _ _ _ h => h) (Or.inl ⟨by rfl, ?_⟩) (by assumption) ?_
    rotate_left
    · intro wS hSw; go_simp; (try with_reducible rfl)
    (try simp only [Act.put]); (try simp only [List.setIfInBounds_toArray]); (try simp only [List.set_cons_succ]); (try simp only [List.set_cons_zero])
    refine wpAnyH_take (i := 2) (oi := ⟨_, _, _, _, _, _⟩) (v := ?_) rfl (by kernel_rfl) (by kernel_rfl) (by kernel_rfl) (fun _ _ _ h => h) (Or.inl ⟨by rfl, ?_⟩) (by assumption) ?_
    rotate_left
    · intro wS hSw; go_simp; (try with_reducible rfl)
    (try simp only [Act.put]); (try simp only [List.setIfInBounds_toArray]); (try simp only [List.set_cons_succ]); (try simp only [List.set_cons_zero])
    refine wpAnyH_take (i := 3) (oi := ⟨_, _, _, _, _, _⟩) (v := ?_) rfl (by kernel_rfl) (by kernel_rfl) (by kernel_rfl) (fun _ _ _ h => h) (Or.inl ⟨by rfl, ?_⟩) (by assumption) ?_
    rotate_left
    · intro wS hSw
      have c := hSw.1.c1; go_simp; (try with_reducible rfl)
    (try simp only [Act.put]); (try simp only [List.setIfInBounds_toArray]); (try simp only [List.set_cons_succ]); (try simp only [List.set_cons_zero])
    refine wpAnyH_take (i := 4) (oi := ⟨_, _, _, _, _, _⟩) (v := ?_) rfl (by kernel_rfl) (by kernel_rfl) (by kernel_rfl) (fun _ _ _ h => h) (Or.inl ⟨by rfl, ?_⟩) (by assumption) ?_
    rotate_left
    · intro wS hSw
      have c := one_c hSw.2.2.1; go_simp; (try with_reducible rfl)
    (try simp only [Act.put]); (try simp only [List.setIfInBounds_toArray]); (try simp only [List.set_cons_succ]); (try simp only [List.set_cons_zero])
    refine wpAnyH_take (i := 5) (oi := ⟨_, _, _, _, _, _⟩) (v := ?_) rfl (by kernel_rfl) (by kernel_rfl) (by kernel_rfl) (fun _ _ _ h => h) (Or.inl ⟨by rfl, ?_⟩) (by assumption) ?_
    rotate_left
    · intro wS hSw
      have c := one_c hSw.2.2.2; go_simp; (try with_reducible rfl)
    (try simp only [Act.put]); (try simp only [List.setIfInBounds_toArray]); (try simp only [List.set_cons_succ]); (try simp only [List.set_cons_zero])
    refine wpAnyH_take (i := 6) (oi := ⟨_, _, _, _, _, _⟩) (v := ?_) rfl (by kernel_rfl) (by kernel_rfl) (by kernel_rfl) (fun _ _ _ h => h) (Or.inl ⟨by rfl, ?_⟩) (by assumption) ?_
    rotate_left
    · intro wS hSw; go_simp; (try with_reducible rfl)
    (try simp only [Act.put]); (try simp only [List.setIfInBounds_toArray]); (try simp only [List.set_cons_succ]); (try simp only [List.set_cons_zero])
    refine wpAnyH_take (i := 7) (oi := ⟨_, _, _, _, _, _⟩) (v := ?_) rfl (by kernel_rfl) (by kernel_rfl) (by kernel_rfl) (fun _ _ _ h => h) (Or.inl ⟨by rfl, ?_⟩) (by assumption) ?_
    rotate_left
    · intro wS hSw
      have c := one_c hSw.2.1; go_simp; (try with_reducible rfl)
    (try simp only [Act.put]); (try simp only [List.setIfInBounds_toArray]); (try simp only [List.set_cons_succ]); (try simp only [List.set_cons_zero])
    refine wpAnyH_take (i := 8) (oi := ⟨_, _, _, _, _, _⟩) (v := ?_) rfl (by kernel_rfl) (by kernel_rfl) (by kernel_rfl) (fun _ _ _ h => h) (Or.inl ⟨by rfl, ?_⟩) (by assumption) ?_
    rotate_left
    · intro wS hSw; go_simp; (try with_reducible rfl)
    (try simp only [Act.put]); (try simp only [List.setIfInBounds_toArray]); (try simp only [List.set_cons_succ]); (try simp only [List.set_cons_zero])
    refine wpAnyH_take (i := 9) (oi := ⟨_, _, _, _, _, _⟩) (v := ?_) rfl (by kernel_rfl) (by kernel_rfl) (by kernel_rfl) (fun _ _ _ h => h) (Or.inl ⟨by rfl, ?_⟩) (by assumption) ?_
    rotate_left
    · intro wS hSw; go_simp; (try with_reducible rfl)
    (try simp only [Act.put]); (try simp only [List.setIfInBounds_toArray]); (try simp only [List.set_cons_succ]); (try simp only [List.set_cons_zero])
    refine wpAnyH_take (i := 10) (oi := ⟨_, _, _, _, _, _⟩) (v := ?_) rfl (by kernel_rfl) (by kernel_rfl) (by kernel_rfl) (fun _ _ _ h => h) (Or.inl ⟨by rfl, ?_⟩) (by assumption) ?_
    rotate_left
    · intro wS hSw
      have c := hSw.1.c2; go_simp; (try with_reducible rfl)
    (try simp only [Act.put]); (try simp only [List.setIfInBounds_toArray]); (try simp only [List.set_cons_succ]); (try simp only [List.set_cons_zero])
    refine wpAnyH_take (i := 11) (oi := ⟨_, _, _, _, _, _⟩) (v := tgV ⟨s.rep, 3, pla, i, s.inc⟩) rfl (by kernel_rfl) (by kernel_rfl) (by kernel_rfl) (fun _ _ _ h => h) (Or.inl ⟨by rfl, fun wS hSw => ?_⟩) (by assumption) ?_
    · kernel_rfl
    (try simp only [Act.put]); (try simp only [List.setIfInBounds_toArray]); (try simp only [List.set_cons_succ]); (try simp only [List.set_cons_zero])
    refine wpAnyH_take (i := 12) (oi := ⟨_, _, _, _, _, _⟩) (v := ?_) rfl (by kernel_rfl) (by kernel_rfl) (by kernel_rfl) (fun _ _ _ h => h) (Or.inl ⟨by rfl, ?_⟩) (by assumption) ?_
    rotate_left
    · intro wS hSw; go_simp; (try with_reducible rfl)
    (try simp only [Act.put]); (try simp only [List.setIfInBounds_toArray]); (try simp only [List.set_cons_succ]); (try simp only [List.set_cons_zero])
    refine wpAnyH_take (i := 13) (oi := ⟨_, _, _, _, _, _⟩) (v := ?_) rfl (by kernel_rfl) (by kernel_rfl) (by kernel_rfl) (fun _ _ _ h => h) (Or.inl ⟨by rfl, ?_⟩) (by assumption) ?_
    rotate_left
    · intro wS hSw
      have c := one_c hSw.2.2.1; go_simp; (try with_reducible rfl)
    (try simp only [Act.put]); (try simp only [List.setIfInBounds_toArray]); (try simp only [List.set_cons_succ]); (try simp only [List.set_cons_zero])
    refine wpAnyH_ready (rs := [14, 19]) (by kernel_rfl) (by simp) ?_
    refine AllReadyH.cons (o := ⟨_, _, _, _, _, _⟩) rfl (fun K' hK' => ?_) (AllReadyH.cons (o := ⟨_, _, _, _, _, _⟩) rfl (fun K' hK' => ?_) AllReadyH.nil)
    · refine (if_pos (by rfl)).mpr ?_
      go_simp
      refine (wide_any 3 _).mono ?_
      rintro e x2 ⟨rfl, hbk⟩
      rw [show wideN 3 = 1 from rfl]
      have F := F.below hbk
      have SB := SB.below hbk
      skip
      refine hK'.out _ _ ⟨F.lg, F.b5, F.b6, F.b7⟩ (fun _ => ?_)
      clear hK' hbk
      (try simp only [Act.put]); (try simp only [List.setIfInBounds_toArray]); (try simp only [List.set_cons_succ]); (try simp only [List.set_cons_zero])
      refine wpAnyH_ready (rs := [15, 19]) (by kernel_rfl) (by simp) ?_
      refine AllReadyH.cons (o := ⟨_, _, _, _, _, _⟩) rfl (fun K' hK' => ?_) (AllReadyH.cons (o := ⟨_, _, _, _, _, _⟩) rfl (fun K' hK' => ?_) AllReadyH.nil)
      · refine (if_pos (by rfl)).mpr ?_
        go_simp
        refine (seal1 ⟨s.rep, 3, pla, i, s.inc⟩ a cap body _ SB hmay hbl).mono ?_
        rintro e x3 ⟨⟨G, rfl, hG, FG⟩, hbk⟩
        have hnG := Nat.le_trans (Nat.le_of_lt (lt_blk F.b5)) hG
        have F := F.below hbk
        have O : OwnB _ w.heap.size (some ⟨G, 0, none⟩) (sealF ⟨s.rep, 3, pla, i, s.inc⟩ body 64).length (sealF ⟨s.rep, 3, pla, i, s.inc⟩ body 64) := .inr ⟨G, [], rfl, hnG, Nat.le_refl _, by rw [hfl]; unfold maxLen; omega, by rw [List.append_nil]; exact FG⟩
        skip
        refine hK'.out _ _ ⟨F.lg, F.b5, F.b6, F.b7⟩ (fun _ => ?_)
        clear hK' hbk FG SB
        (try simp only [Act.put]); (try simp only [List.setIfInBounds_toArray]); (try simp only [List.set_cons_succ]); (try simp only [List.set_cons_zero])
        refine wpAnyH_take (i := 16) (oi := ⟨_, _, _, _, _, _⟩) (v := ?_) rfl (by kernel_rfl) (by kernel_rfl) (by kernel_rfl) (fun _ _ _ h => h) (Or.inl ⟨by rfl, ?_⟩) (by assumption) ?_
        rotate_left
        · intro wS hSw; go_simp; (try with_reducible rfl)
        (try simp only [Act.put]); (try simp only [List.setIfInBounds_toArray]); (try simp only [List.set_cons_succ]); (try simp only [List.set_cons_zero])
        refine wpAnyH_take (i := 17) (oi := ⟨_, _, _, _, _, _⟩) (v := ?_) rfl (by kernel_rfl) (by kernel_rfl) (by kernel_rfl) (fun _ _ _ h => h) (Or.inl ⟨by rfl, ?_⟩) (by assumption) ?_
        rotate_left
        · intro wS hSw; go_simp; (try with_reducible rfl)
        (try simp only [Act.put]); (try simp only [List.setIfInBounds_toArray]); (try simp only [List.set_cons_succ]); (try simp only [List.set_cons_zero])
        refine wpAnyH_take (i := 18) (oi := ⟨_, _, _, _, _, _⟩) (v := ?_) rfl (by kernel_rfl) (by kernel_rfl) (by kernel_rfl) (fun _ _ _ h => h) (Or.inl ⟨by rfl, ?_⟩) (by assumption) ?_
        rotate_left
        · intro wS hSw; go_simp; (try with_reducible rfl)
        (try simp only [Act.put]); (try simp only [List.setIfInBounds_toArray]); (try simp only [List.set_cons_succ]); (try simp only [List.set_cons_zero])
        refine wpAnyH_ready (rs := [19]) (by kernel_rfl) (by simp) ?_
        refine AllReadyH.cons (o := ⟨_, _, _, _, _, _⟩) rfl (fun K' hK' => ?_) AllReadyH.nil
        refine (if_pos (by rfl)).mpr ?_
        go_simp
        change K' _ (World.alloc _ (Obj.cells #[.slice none 0 0] 75))
        have hbk := blw x3 (Obj.cells #[.slice none 0 0] 75)
        have SX := heap_alloc_new x3 (Obj.cells #[.slice none 0 0] 75)
        have hsb := Nat.le_of_lt (lt_blk F.b5)
        have F := F.below hbk
        have O := O.below hbk
        refine hK'.out _ _ ⟨F.lg, F.b5, F.b6, F.b7⟩ (fun _ => ?_)
        clear hK' hbk
        generalize x3.alloc (Obj.cells #[.slice none 0 0] 75) = x4 at *
        generalize x3.heap.size = sb at *
        (try simp only [Act.put]); (try simp only [List.setIfInBounds_toArray]); (try simp only [List.set_cons_succ]); (try simp only [List.set_cons_zero])
        refine wpAnyH_ready (rs := [20]) (by kernel_rfl) (by simp) ?_
        refine AllReadyH.cons (o := ⟨_, _, _, _, _, _⟩) rfl (fun K' hK' => ?_) AllReadyH.nil
        refine (if_pos (by rfl)).mpr ?_
        refine wp_stB 75 _ _ ?_
        refine ⟨_, _, _, ⟨_, _, _, Tryz.sizeOf75, rfl, SX, sl_over _ _ _⟩, ?_⟩
        intro w20 SY g20
        have F20 := F.st1 g20 SX hsb
        have O20 := O.st g20 SX (by decide)
        refine hK'.out _ _ ⟨F20.lg, F20.b5, F20.b6, F20.b7⟩ (fun _ => ?_)
        clear hK' F O SX
        (try simp only [Act.put]); (try simp only [List.setIfInBounds_toArray]); (try simp only [List.set_cons_succ]); (try simp only [List.set_cons_zero])
        refine wpAnyH_ready (rs := [21]) (by kernel_rfl) (by simp) ?_
        refine AllReadyH.cons (o := ⟨_, _, _, _, _, _⟩) rfl (fun K' hK' => ?_) AllReadyH.nil
        refine (if_pos (by rfl)).mpr ?_
        refine wp_stB 24 _ _ ?_
        refine ⟨_, _, _, ⟨_, _, _, Tryz.sizeOf24, rfl, F20.er, er_st _ 0⟩, ?_⟩
        intro w21 E21 g21
        have F21 := F20.st2 g21 E21
        have O21 := O20.st g21 F20.er (by decide)
        have SZ := tr_st g21 SY (ne_ty2 F20.er SY (by decide))
        refine hK'.out _ _ ⟨F21.lg, F21.b5, F21.b6, F21.b7⟩ (fun _ => ?_)
        clear hK'
        refine wpAnyH_done (by kernel_rfl) ?_ _
        go_wp2
        go_meet
        rw [← hfl] at SZ
        exact ⟨_, _, rfl, SZ, O21, F21⟩
      · refine (if_pos (by rfl)).mpr ?_
        go_simp
        change K' _ (World.alloc _ (Obj.cells #[.slice none 0 0] 75))
        have hbk := blw x2 (Obj.cells #[.slice none 0 0] 75)
        have SX := heap_alloc_new x2 (Obj.cells #[.slice none 0 0] 75)
        have hsb := Nat.le_of_lt (lt_blk F.b5)
        have F := F.below hbk
        have SB := SB.below hbk
        refine hK'.out _ _ ⟨F.lg, F.b5, F.b6, F.b7⟩ (fun _ => ?_)
        clear hK' hbk
        generalize x2.alloc (Obj.cells #[.slice none 0 0] 75) = x3 at *
        generalize x2.heap.size = sb at *
        (try simp only [Act.put]); (try simp only [List.setIfInBounds_toArray]); (try simp only [List.set_cons_succ]); (try simp only [List.set_cons_zero])
        refine wpAnyH_ready (rs := [15]) (by kernel_rfl) (by simp) ?_
        refine AllReadyH.cons (o := ⟨_, _, _, _, _, _⟩) rfl (fun K' hK' => ?_) AllReadyH.nil
        refine (if_pos (by rfl)).mpr ?_
        go_simp
        refine (seal1 ⟨s.rep, 3, pla, i, s.inc⟩ a cap body _ SB hmay hbl).mono ?_
        rintro e x4 ⟨⟨G, rfl, hG, FG⟩, hbk⟩
        have hnG := Nat.le_trans (Nat.le_of_lt (lt_blk F.b5)) hG
        have F := F.below hbk
        have O : OwnB _ w.heap.size (some ⟨G, 0, none⟩) (sealF ⟨s.rep, 3, pla, i, s.inc⟩ body 64).length (sealF ⟨s.rep, 3, pla, i, s.inc⟩ body 64) := .inr ⟨G, [], rfl, hnG, Nat.le_refl _, by rw [hfl]; unfold maxLen; omega, by rw [List.append_nil]; exact FG⟩
        have SX := tr_bl hbk SX
        refine hK'.out _ _ ⟨F.lg, F.b5, F.b6, F.b7⟩ (fun _ => ?_)
        clear hK' hbk FG SB
        (try simp only [Act.put]); (try simp only [List.setIfInBounds_toArray]); (try simp only [List.set_cons_succ]); (try simp only [List.set_cons_zero])
        refine wpAnyH_take (i := 16) (oi := ⟨_, _, _, _, _, _⟩) (v := ?_) rfl (by kernel_rfl) (by kernel_rfl) (by kernel_rfl) (fun _ _ _ h => h) (Or.inl ⟨by rfl, ?_⟩) (by assumption) ?_
        rotate_left
        · intro wS hSw; go_simp; (try with_reducible rfl)
        (try simp only [Act.put]); (try simp only [List.setIfInBounds_toArray]); (try simp only [List.set_cons_succ]); (try simp only [List.set_cons_zero])
        refine wpAnyH_take (i := 17) (oi := ⟨_, _, _, _, _, _⟩) (v := ?_) rfl (by kernel_rfl) (by kernel_rfl) (by kernel_rfl) (fun _ _ _ h => h) (Or.inl ⟨by rfl, ?_⟩) (by assumption) ?_
        rotate_left
        · intro wS hSw; go_simp; (try with_reducible rfl)
        (try simp only [Act.put]); (try simp only [List.setIfInBounds_toArray]); (try simp only [List.set_cons_succ]); (try simp only [List.set_cons_zero])
        refine wpAnyH_take (i := 18) (oi := ⟨_, _, _, _, _, _⟩) (v := ?_) rfl (by kernel_rfl) (by kernel_rfl) (by kernel_rfl) (fun _ _ _ h => h) (Or.inl ⟨by rfl, ?_⟩) (by assumption) ?_
        rotate_left
        · intro wS hSw; go_simp; (try with_reducible rfl)
        (try simp only [Act.put]); (try simp only [List.setIfInBounds_toArray]); (try simp only [List.set_cons_succ]); (try simp only [List.set_cons_zero])
        refine wpAnyH_ready (rs := [20]) (by kernel_rfl) (by simp) ?_
        refine AllReadyH.cons (o := ⟨_, _, _, _, _, _⟩) rfl (fun K' hK' => ?_) AllReadyH.nil
        refine (if_pos (by rfl)).mpr ?_
        refine wp_stB 75 _ _ ?_
        refine ⟨_, _, _, ⟨_, _, _, Tryz.sizeOf75, rfl, SX, sl_over _ _ _⟩, ?_⟩
        intro w20 SY g20
        have F20 := F.st1 g20 SX hsb
        have O20 := O.st g20 SX (by decide)
        refine hK'.out _ _ ⟨F20.lg, F20.b5, F20.b6, F20.b7⟩ (fun _ => ?_)
        clear hK' F O SX
        (try simp only [Act.put]); (try simp only [List.setIfInBounds_toArray]); (try simp only [List.set_cons_succ]); (try simp only [List.set_cons_zero])
        refine wpAnyH_ready (rs := [21]) (by kernel_rfl) (by simp) ?_
        refine AllReadyH.cons (o := ⟨_, _, _, _, _, _⟩) rfl (fun K' hK' => ?_) AllReadyH.nil
        refine (if_pos (by rfl)).mpr ?_
        refine wp_stB 24 _ _ ?_
        refine ⟨_, _, _, ⟨_, _, _, Tryz.sizeOf24, rfl, F20.er, er_st _ 0⟩, ?_⟩
        intro w21 E21 g21
        have F21 := F20.st2 g21 E21
        have O21 := O20.st g21 F20.er (by decide)
        have SZ := tr_st g21 SY (ne_ty2 F20.er SY (by decide))
        refine hK'.out _ _ ⟨F21.lg, F21.b5, F21.b6, F21.b7⟩ (fun _ => ?_)
        clear hK'
        refine wpAnyH_done (by kernel_rfl) ?_ _
        go_wp2
        go_meet
        rw [← hfl] at SZ
        exact ⟨_, _, rfl, SZ, O21, F21⟩
    · refine (if_pos (by rfl)).mpr ?_
      go_simp
      change K' _ (World.alloc _ (Obj.cells #[.slice none 0 0] 75))
      have hbk := blw x0 (Obj.cells #[.slice none 0 0] 75)
      have SX := heap_alloc_new x0 (Obj.cells #[.slice none 0 0] 75)
      have hsb := Nat.le_of_lt (lt_blk F.b5)
      have F := F.below hbk
      have SB := SB.below hbk
      refine hK'.out _ _ ⟨F.lg, F.b5, F.b6, F.b7⟩ (fun _ => ?_)
      clear hK' hbk
      generalize x0.alloc (Obj.cells #[.slice none 0 0] 75) = x2 at *
      generalize x0.heap.size = sb at *
      (try simp only [Act.put]); (try simp only [List.setIfInBounds_toArray]); (try simp only [List.set_cons_succ]); (try simp only [List.set_cons_zero])
      refine wpAnyH_ready (rs := [14]) (by kernel_rfl) (by simp) ?_
      refine AllReadyH.cons (o := ⟨_, _, _, _, _, _⟩) rfl (fun K' hK' => ?_) AllReadyH.nil
      refine (if_pos (by rfl)).mpr ?_
      go_simp
      refine (wide_any 3 _).mono ?_
      rintro e x3 ⟨rfl, hbk⟩
      rw [show wideN 3 = 1 from rfl]
      have F := F.below hbk
      have SB := SB.below hbk
      have SX := tr_bl hbk SX
      refine hK'.out _ _ ⟨F.lg, F.b5, F.b6, F.b7⟩ (fun _ => ?_)
      clear hK' hbk
      (try simp only [Act.put]); (try simp only [List.setIfInBounds_toArray]); (try simp only [List.set_cons_succ]); (try simp only [List.set_cons_zero])
      refine wpAnyH_ready (rs := [15]) (by kernel_rfl) (by simp) ?_
      refine AllReadyH.cons (o := ⟨_, _, _, _, _, _⟩) rfl (fun K' hK' => ?_) AllReadyH.nil
      refine (if_pos (by rfl)).mpr ?_
      go_simp
      refine (seal1 ⟨s.rep, 3, pla, i, s.inc⟩ a cap body _ SB hmay hbl).mono ?_
      rintro e x4 ⟨⟨G, rfl, hG, FG⟩, hbk⟩
      have hnG := Nat.le_trans (Nat.le_of_lt (lt_blk F.b5)) hG
      have F := F.below hbk
      have O : OwnB _ w.heap.size (some ⟨G, 0, none⟩) (sealF ⟨s.rep, 3, pla, i, s.inc⟩ body 64).length (sealF ⟨s.rep, 3, pla, i, s.inc⟩ body 64) := .inr ⟨G, [], rfl, hnG, Nat.le_refl _, by rw [hfl]; unfold maxLen; omega, by rw [List.append_nil]; exact FG⟩
      have SX := tr_bl hbk SX
      refine hK'.out _ _ ⟨F.lg, F.b5, F.b6, F.b7⟩ (fun _ => ?_)
      clear hK' hbk FG SB
      (try simp only [Act.put]); (try simp only [List.setIfInBounds_toArray]); (try simp only [List.set_cons_succ]); (try simp only [List.set_cons_zero])
      refine wpAnyH_take (i := 16) (oi := ⟨_, _, _, _, _, _⟩) (v := ?_) rfl (by kernel_rfl) (by kernel_rfl) (by kernel_rfl) (fun _ _ _ h => h) (Or.inl ⟨by rfl, ?_⟩) (by assumption) ?_
      rotate_left
      · intro wS hSw; go_simp; (try with_reducible rfl)
      (try simp only [Act.put]); (try simp only [List.setIfInBounds_toArray]); (try simp only [List.set_cons_succ]); (try simp only [List.set_cons_zero])
      refine wpAnyH_take (i := 17) (oi := ⟨_, _, _, _, _, _⟩) (v := ?_) rfl (by kernel_rfl) (by kernel_rfl) (by kernel_rfl) (fun _ _ _ h => h) (Or.inl ⟨by rfl, ?_⟩) (by assumption) ?_
      rotate_left
      · intro wS hSw; go_simp; (try with_reducible rfl)
      (try simp only [Act.put]); (try simp only [List.setIfInBounds_toArray]); (try simp only [List.set_cons_succ]); (try simp only [List.set_cons_zero])
      refine wpAnyH_take (i := 18) (oi := ⟨_, _, _, _, _, _⟩) (v := ?_) rfl (by kernel_rfl) (by kernel_rfl) (by kernel_rfl) (fun _ _ _ h => h) (Or.inl ⟨by rfl, ?_⟩) (by assumption) ?_
      rotate_left
      · intro wS hSw; go_simp; (try with_reducible rfl)
      (try simp only [Act.put]); (try simp only [List.setIfInBounds_toArray]); (try simp only [List.set_cons_succ]); (try simp only [List.set_cons_zero])
      refine wpAnyH_ready (rs := [20]) (by kernel_rfl) (by simp) ?_
      refine AllReadyH.cons (o := ⟨_, _, _, _, _, _⟩) rfl (fun K' hK' => ?_) AllReadyH.nil
      refine (if_pos (by rfl)).mpr ?_
      refine wp_stB 75 _ _ ?_
      refine ⟨_, _, _, ⟨_, _, _, Tryz.sizeOf75, rfl, SX, sl_over _ _ _⟩, ?_⟩
      intro w20 SY g20
      have F20 := F.st1 g20 SX hsb
      have O20 := O.st g20 SX (by decide)
      refine hK'.out _ _ ⟨F20.lg, F20.b5, F20.b6, F20.b7⟩ (fun _ => ?_)
      clear hK' F O SX
      (try simp only [Act.put]); (try simp only [List.setIfInBounds_toArray]); (try simp only [List.set_cons_succ]); (try simp only [List.set_cons_zero])
      refine wpAnyH_ready (rs := [21]) (by kernel_rfl) (by simp) ?_
      refine AllReadyH.cons (o := ⟨_, _, _, _, _, _⟩) rfl (fun K' hK' => ?_) AllReadyH.nil
      refine (if_pos (by rfl)).mpr ?_
      refine wp_stB 24 _ _ ?_
      refine ⟨_, _, _, ⟨_, _, _, Tryz.sizeOf24, rfl, F20.er, er_st _ 0⟩, ?_⟩
      intro w21 E21 g21
      have F21 := F20.st2 g21 E21
      have O21 := O20.st g21 F20.er (by decide)
      have SZ := tr_st g21 SY (ne_ty2 F20.er SY (by decide))
      refine hK'.out _ _ ⟨F21.lg, F21.b5, F21.b6, F21.b7⟩ (fun _ => ?_)
      clear hK'
      refine wpAnyH_done (by kernel_rfl) ?_ _
      go_wp2
      go_meet
      rw [← hfl] at SZ
      exact ⟨_, _, rfl, SZ, O21, F21⟩
  have hlen := hfl
  obtain ⟨fr, hfr⟩ : ∃ fr, sealF ⟨s.rep, 3, pla, i, s.inc⟩ body 64 = fr := ⟨_, rfl⟩
  rw [hfr] at hlen hcut HR
  clear hfr hfl
  obtain ⟨sb, G, rfl, SX, O, F⟩ := hcut
  refine hK _ _ ?_
  clear hK
  have hb' := Nat.le_trans hb F.bl.size
  have ce := one_c F.er
  refine wp_seq_k (fun K hK => ?_)
  have HK := Lib.hid hK
  clear hK
  go_wp2
  refine HK.out _ _ ?_
  clear HK
  refine wp_seq_k (fun K hK => ?_)
  have HK := Lib.hid hK
  clear hK
  go_wp2
  refine HK.out _ _ ?_
  clear HK
  refine wp_seq_k (fun K hK => ?_)
  have HK := Lib.hid hK
  clear hK ce
  have c6 := one_c F.b6
  go_wp2_with (go_at_call 49; refine (wide_any 3 _).mono ?_; rintro e w5 ⟨rfl, hb5⟩)
  rw [show wideN 3 = 1 from rfl]
  have SX := tr_bl hb5 SX
  have O := O.below hb5
  have F := F.below hb5
  have hb' := Nat.le_trans hb' hb5.size
  clear c6 hb5
  generalize w5 = wc at *
  go_loopw [39, 13] (fun i' _ wr => ∃ j : Nat, j ≤ 1 ∧ i' = .int .i64 (j : Nat) ∧ (∃ wv', DiskB B g gp wv' (wsD d f fr j).1 wr) ∧ ErB wr (w.heap.size + 3) (wsD d f fr j).2 ∧ Kw B (w.heap.size + 3) wc wr) (fun i' _ _ => 1 - (intOf i').toNat)
  case atStart => exact ⟨0, by omega, rfl, ⟨_, F.dk⟩, F.er, Kw.refl _ _ _⟩
  case' round =>
    obtain ⟨j, hj, rfl, ⟨wv5, D5⟩, E5, hkw⟩ := hrel
  rcases (show j = 0 ∨ j = 1 by omega) with rfl | rfl
  · skip
    have hB5 := Nat.le_trans hb' hkw.bl.size
    have hbk := blw wr (Obj.cells #[.int .i64 0] 3)
    have ck := heap_alloc_new wr (Obj.cells #[.int .i64 0] 3)
    have D6 := D5.below hbk
    have E6 : ErB (wr.alloc (Obj.cells #[.int .i64 0] 3)) (w.heap.size + 3) (wsD d f fr 0).2 := tr_bl hbk E5
    have L6 : LgB (wr.alloc (Obj.cells #[.int .i64 0] 3)) q g s := tr_bl hbk (hkw.ty _ _ _ F.lg (by decide) (by decide) (by decide) (ne_ty2 F.lg F.er (by decide)))
    have X6 : WBx (wr.alloc (Obj.cells #[.int .i64 0] 3)) w.heap.size (w.heap.size + 1) (w.heap.size + 2) wr.heap.size sb q G 3 pla 0 fr.length := ⟨tr_bl hbk (hkw.ty _ _ _ F.b5 (by decide) (by decide) (by decide) (by omega)), tr_bl hbk (hkw.ty _ _ _ F.b6 (by decide) (by decide) (by decide) (by omega)), tr_bl hbk (hkw.ty _ _ _ F.b7 (by decide) (by decide) (by decide) (by omega)), ck, tr_bl hbk (hkw.ty _ _ _ SX (by decide) (by decide) (by decide) (ne_ty2 SX F.er (by decide)))⟩
    have O6 : OwnB (wr.alloc (Obj.cells #[.int .i64 0] 3)) B (some ⟨G, 0, none⟩) fr.length fr := ((O.kw hkw F.er).below hbk).mono hb
    have k6 := hkw.trans (Kw.of (eb := w.heap.size + 3) (Kt.of hbk hB5))
    have hB6 := Nat.le_trans hB5 hbk.size
    have hw6 := wsD_wt d f fr 0
    obtain ⟨st, hst⟩ : ∃ st, wsD d f fr 0 = st := ⟨_, rfl⟩
    have hnx : wsD d f fr (0 + 1) = if st.2 ≠ 0 then st else writeD st.1 (f + (0 : Nat)) (pcD fr 0) := by rw [← hst]; rfl
    rw [hst] at D6 E6 hw6
    have HNX := Lib.hid hnx
    clear hst hnx D5 E5 hkw hbk hB5 ck
    obtain ⟨d6, e6⟩ := st
    simp only at D6 E6 hw6
    by_cases h6 : e6 = 0
    case pos =>
      subst h6
      have hnx := HNX.out
      rw [if_neg (by simp)] at hnx
      have hdo := do_wr E6 (by omega) L6 D6 hB6 0 (by omega) X6 O6 (by omega) (by omega) HF.out hfb (by omega)
      obtain ⟨r9, hr9⟩ : ∃ r9, writeD d6 (f + (0 : Nat)) (pcD fr 0) = r9 := ⟨_, rfl⟩
      simp only at hnx
      rw [hr9] at hdo hnx
      have HNY := Lib.hid hnx
      clear HNX hnx hr9
      go_wp2_with (go_at_call 62; refine hdo.mono ?_; rintro e w7 ⟨rfl, D7, E7, k7⟩)
      go_roundw
      case rel => exact ⟨0 + 1, by omega, by rfl, by rw [HNY.out]; exact D7, by rw [HNY.out]; exact E7, k6.trans k7⟩
      case measure => simp [intOf]
    case neg =>
      have hnx := HNX.out
      rw [if_pos h6] at hnx
      have HNY := Lib.hid hnx
      clear HNX hnx
      go_wp2_with (go_at_call 62; refine (do_skip _ e6 h6 E6).mono ?_; rintro e w7 ⟨rfl, rfl⟩)
      go_roundw
      case rel => exact ⟨0 + 1, by omega, by rfl, by rw [HNY.out]; exact ⟨_, D6⟩, by rw [HNY.out]; exact E6, k6⟩
      case measure => simp [intOf]
  · skip
    have hB5 := Nat.le_trans hb' hkw.bl.size
    have L6 : LgB wr q g s := hkw.ty _ _ _ F.lg (by decide) (by decide) (by decide) (ne_ty2 F.lg F.er (by decide))
    have c5 := one_c (hkw.ty _ _ _ F.b5 (by decide) (by decide) (by decide) (show w.heap.size ≠ w.heap.size + 3 by omega))
    have l0 := L6.c0
    have hpd : (if (wsD d f fr 1).2 ≠ 0 then wsD d f fr 1 else flushD (wsD d f fr 1).1) = r := HR.out
    obtain ⟨st, hst⟩ : ∃ st, wsD d f fr 1 = st := ⟨_, rfl⟩
    rw [hst] at D5 E5 hpd
    clear hst HR
    obtain ⟨d6, e6⟩ := st
    simp only at D5 E5 hpd
    have hfin : ∀ w', Kw B (w.heap.size + 3) wc w' → Kt B w w' := fun w' k => k.kt F.bl hb (by omega)
    go_wp2
    refine HK.out _ _ ?_
    clear HK
    by_cases h6 : e6 = 0
    case pos =>
      subst h6
      rw [if_neg (by simp)] at hpd
      have hdo := do_fl E5 (by omega) D5 hB5
      rw [hpd] at hdo
      have HPD := Lib.hid hpd
      clear hpd
      refine wp_seq_k (fun K hK => ?_)
      have HK := Lib.hid hK
      clear hK
      go_wp2_with (go_at_call 62; refine hdo.mono ?_; rintro e w7 ⟨rfl, ⟨wv7, D7⟩, E7, k7⟩)
      refine HK.out _ _ ?_
      clear HK
      have c7 := one_c E7
      have E7' : w7.heap[w.heap.size + 3]? = some (.cells #[.int .i64 r.2] 24 (0, 0)) := E7
      go_wp2_with ((with_reducible refine wpList_stB 24 _ _ ?_); refine ⟨_, _, _, ⟨_, _, _, Tryz.sizeOf24, rfl, E7', er_st _ r.2⟩, ?_⟩; intro w8 E8 g8)
      refine bodyPost_ret (results_c1 rfl rfl (by have c8 := one_c E8; go_simp; (try rfl))) rfl ⟨rfl, ⟨_, D7.oe g8 E7 (by decide) (by decide) (by decide)⟩, hfin _ ((hkw.trans k7).trans (Kw.st g8 (by omega) (Nat.le_trans hB5 k7.bl.size)))⟩
    case neg =>
      rw [if_pos h6] at hpd
      subst hpd
      refine wp_seq_k (fun K hK => ?_)
      have HK := Lib.hid hK
      clear hK
      go_wp2_with (go_at_call 62; refine (do_skip _ e6 h6 E5).mono ?_; rintro e w7 ⟨rfl, rfl⟩)
      refine HK.out _ _ ?_
      clear HK
      have c7 := one_c E5
      have E7' : wr.heap[w.heap.size + 3]? = some (.cells #[.int .i64 e6] 24 (0, 0)) := E5
      go_wp2_with ((with_reducible refine wpList_stB 24 _ _ ?_); refine ⟨_, _, _, ⟨_, _, _, Tryz.sizeOf24, rfl, E7', er_st _ e6⟩, ?_⟩; intro w8 E8 g8)
      refine bodyPost_ret (results_c1 rfl rfl (by have c8 := one_c E8; go_simp; (try rfl))) rfl ⟨rfl, ⟨_, D5.oe g8 E5 (by decide) (by decide) (by decide)⟩, hfin _ (hkw.trans (Kw.st g8 (by omega) hB5))⟩
set_option maxRecDepth 100000 in
set_option maxHeartbeats 1000000 in
theorem lwrite2_any {f : Int} (h : LgB w q g s) (hd : DiskB B g gp wv d w) (hb : B ≤ w.heap.size) (hf : firstN 4 pla = f) (hfb : 0 ≤ f ∧ f < 200) (hw : d.waits.length ≤ 1000) (i : Int) (a : Option Addr) (cap : Nat) (body : List UInt8) (hs : SlB w a cap body) (hmay : mayTg ⟨s.rep, 4, pla, i, s.inc⟩ = true) (hbl : body.length ≤ 88) :
    Calls Tryz.prog 33 #[.pointer (some ⟨q, 0, none⟩),   .int .i64 4, .int .i64 pla, .int .i64 i, .slice a body.length cap] w fun e w' => e = .returned (.int .i64 (lputD d f (sealF ⟨s.rep, 4, pla, i, s.inc⟩ body 128) 2).2) ∧ (∃ wv', DiskB B g gp wv' (lputD d f (sealF ⟨s.rep, 4, pla, i, s.inc⟩ body 128) 2).1 w') ∧ Kt B w w' := by
  obtain ⟨r, hr⟩ : ∃ r, lputD d f (sealF ⟨s.rep, 4, pla, i, s.inc⟩ body 128) 2 = r := ⟨_, rfl⟩
  rw [hr]
  have HR := Lib.hid hr
  have HF := Lib.hid hf
  clear hr hf
  have hfl : (sealF ⟨s.rep, 4, pla, i, s.inc⟩ body 128).length = 128 := sealF_len (by decide) (by simpa [roomN] using hbl)
  go_enter Tryz.func33, Tryz.ntmps33
  refine wp_seq_k (fun K hK => ?_)
  have HK := Lib.hid hK
  clear hK
  go_wp2
  refine HK.out _ _ ?_
  clear HK
  have hb1 := blw w (Obj.cells #[.pointer (some ⟨q, 0, none⟩)] 27)
  have hb2 := hb1.trans ((blw (w.alloc (Obj.cells #[.pointer (some ⟨q, 0, none⟩)] 27)) (Obj.cells #[.int .i64 4] 3)).mono hb1.size)
  have hb3 := hb2.trans ((blw ((w.alloc (Obj.cells #[.pointer (some ⟨q, 0, none⟩)] 27)).alloc (Obj.cells #[.int .i64 4] 3)) (Obj.cells #[.int .i64 pla] 3)).mono hb2.size)
  have hb4 := hb3.trans ((blw (((w.alloc (Obj.cells #[.pointer (some ⟨q, 0, none⟩)] 27)).alloc (Obj.cells #[.int .i64 4] 3)).alloc (Obj.cells #[.int .i64 pla] 3)) (Obj.cells #[.int .i64 0] 24)).mono hb3.size)
  have e1 : (w.alloc (Obj.cells #[.pointer (some ⟨q, 0, none⟩)] 27)).heap.size = w.heap.size + 1 := by simp
  have e2 : ((w.alloc (Obj.cells #[.pointer (some ⟨q, 0, none⟩)] 27)).alloc (Obj.cells #[.int .i64 4] 3)).heap.size = w.heap.size + 2 := by simp
  have e3 : (((w.alloc (Obj.cells #[.pointer (some ⟨q, 0, none⟩)] 27)).alloc (Obj.cells #[.int .i64 4] 3)).alloc (Obj.cells #[.int .i64 pla] 3)).heap.size = w.heap.size + 3 := by simp
  have F1 : WF B g gp q w.heap.size wv d s 4 pla w ((((w.alloc (Obj.cells #[.pointer (some ⟨q, 0, none⟩)] 27)).alloc (Obj.cells #[.int .i64 4] 3)).alloc (Obj.cells #[.int .i64 pla] 3)).alloc (Obj.cells #[.int .i64 0] 24)) :=
    ⟨h.below hb4, tr_al (Obj.cells #[.int .i64 0] 24) (tr_al (Obj.cells #[.int .i64 pla] 3) (tr_al (Obj.cells #[.int .i64 4] 3) (heap_alloc_new w (Obj.cells #[.pointer (some ⟨q, 0, none⟩)] 27)))), tr_al (Obj.cells #[.int .i64 0] 24) (tr_al (Obj.cells #[.int .i64 pla] 3) (e1 ▸ heap_alloc_new (w.alloc (Obj.cells #[.pointer (some ⟨q, 0, none⟩)] 27)) (Obj.cells #[.int .i64 4] 3))), tr_al (Obj.cells #[.int .i64 0] 24) (e2 ▸ heap_alloc_new ((w.alloc (Obj.cells #[.pointer (some ⟨q, 0, none⟩)] 27)).alloc (Obj.cells #[.int .i64 4] 3)) (Obj.cells #[.int .i64 pla] 3)), e3 ▸ heap_alloc_new (((w.alloc (Obj.cells #[.pointer (some ⟨q, 0, none⟩)] 27)).alloc (Obj.cells #[.int .i64 4] 3)).alloc (Obj.cells #[.int .i64 pla] 3)) (Obj.cells #[.int .i64 0] 24), hd.below hb4, hb4⟩
  have SB1 := hs.below hb4
  clear hb1 hb2 hb3 hb4 e1 e2 e3
  generalize (((w.alloc (Obj.cells #[.pointer (some ⟨q, 0, none⟩)] 27)).alloc (Obj.cells #[.int .i64 4] 3)).alloc (Obj.cells #[.int .i64 pla] 3)).alloc (Obj.cells #[.int .i64 0] 24) = w1 at *
  refine wp_seq_k (fun K hK => ?_)
  go_cut [11] (fun v wx => Mid B g gp q w.heap.size wv d s 4 pla w (sealF ⟨s.rep, 4, pla, i, s.inc⟩ body 128) v wx)
  case first =>
    have hbd := (Below.refl w1.heap.size w1).drew
    have F := F1.below hbd
    have SB := SB1.below hbd
    clear F1 SB1 hbd
    refine wp_region_held_drew (S := fun w' => LgB w' q g s ∧ w'.heap[w.heap.size]? = some (.cells #[.pointer (some ⟨q, 0, none⟩)] 27 (0, 0)) ∧ w'.heap[w.heap.size + 1]? = some (.cells #[.int .i64 4] 3 (0, 0)) ∧ w'.heap[w.heap.size + 2]? = some (.cells #[.int .i64 pla] 3 (0, 0))) (by kernel_rfl) ⟨F.lg, F.b5, F.b6, F.b7⟩ (fun hS0 => ?_)
    generalize w1.drew = x0 at *
    refine wpAnyH_take (i := 0) (oi := ⟨_, _, _, _, _, _⟩) (v := ?_) rfl (by kernel_rfl) (by kernel_rfl) (by kernel_rfl) (fun _ _ _ h => h) (Or.inl ⟨by rfl, ?_⟩) (by assumption) ?_
    rotate_left
    · intro wS hSw
      have c := one_c hSw.2.1; go_simp; (try with_reducible rfl)
    (try simp only [Act.put]); (try simp only [List.setIfInBounds_toArray]); (try simp only [List.set_cons_succ]); (try simp only [List.set_cons_zero])
    refine wpAnyH_take (i := 1) (oi := ⟨_, _, _, _, _, _⟩) (v := ?_) rfl (by kernel_rfl) (by kernel_rfl) (by kernel_rfl) (fun _ _ _ h => h) (Or.inl ⟨by rfl, ?_⟩) (by assumption) ?_
    rotate_left
    · intro wS hSw; go_simp; (try with_reducible rfl)
    (try simp only [Act.put]); (try simp only [List.setIfInBounds_toArray]); (try simp only [List.set_cons_succ]); (try simp only [List.set_cons_zero])
    refine wpAnyH_take (i := 2) (oi := ⟨_, _, _, _, _, _⟩) (v := ?_) rfl (by kernel_rfl) (by kernel_rfl) (by kernel_rfl) (fun _ _ _ h => h) (Or.inl ⟨by rfl, ?_⟩) (by assumption) ?_
    rotate_left
    · intro wS hSw; go_simp; (try with_reducible rfl)
    (try simp only [Act.put]); (try simp only [List.setIfInBounds_toArray]); (try simp only [List.set_cons_succ]); (try simp only [List.set_cons_zero])
    refine wpAnyH_take (i := 3) (oi := ⟨_, _, _, _, _, _⟩) (v := ?_) rfl (by kernel_rfl) (by kernel_rfl) (by kernel_rfl) (fun _ _ _ h => h) (Or.inl ⟨by rfl, ?_⟩) (by assumption) ?_
    rotate_left
    · intro wS hSw
      have c := hSw.1.c1; go_simp; (try with_reducible rfl)
    (try simp only [Act.put]); (try simp only [List.setIfInBounds_toArray]); (try simp only [List.set_cons_succ]); (try simp only [List.set_cons_zero])
    refine wpAnyH_take (i := 4) (oi := ⟨_, _, _, _, _, _⟩) (v := ?_) rfl (by kernel_rfl) (by kernel_rfl) (by kernel_rfl) (fun _ _ _ h => h) (Or.inl ⟨by rfl, ?_⟩) (by assumption) ?_
    rotate_left
    · intro wS hSw
      have c := one_c hSw.2.2.1; go_simp; (try with_reducible rfl)
    (try simp only [Act.put]); (try simp only [List.setIfInBounds_toArray]); (try simp only [List.set_cons_succ]); (try simp only [List.set_cons_zero])
    refine wpAnyH_take (i := 5) (oi := ⟨_, _, _, _, _, _⟩) (v := ?_) rfl (by kernel_rfl) (by kernel_rfl) (by kernel_rfl) (fun _ _ _ h => h) (Or.inl ⟨by rfl, ?_⟩) (by assumption) ?_
    rotate_left
    · intro wS hSw
      have c := one_c hSw.2.2.2; go_simp; (try with_reducible rfl)
    (try simp only [Act.put]); (try simp only [List.setIfInBounds_toArray]); (try simp only [List.set_cons_succ]); (try simp only [List.set_cons_zero])
    refine wpAnyH_take (i := 6) (oi := ⟨_, _, _, _, _, _⟩) (v := ?_) rfl (by kernel_rfl) (by kernel_rfl) (by kernel_rfl) (fun _ _ _ h => h) (Or.inl ⟨by rfl, ?_⟩) (by assumption) ?_
    rotate_left
    · intro wS hSw; go_simp; (try with_reducible rfl)
    (try simp only [Act.put]); (try simp only [List.setIfInBounds_toArray]); (try simp only [List.set_cons_succ]); (try simp only [List.set_cons_zero])
    refine wpAnyH_take (i := 7) (oi := ⟨_, _, _, _, _, _⟩) (v := ?_) rfl (by kernel_rfl) (by kernel_rfl) (by kernel_rfl) (fun _ _ _ h => h) (Or.inl ⟨by rfl, ?_⟩) (by assumption) ?_
    rotate_left
    · intro wS hSw
      have c := one_c hSw.2.1; go_simp; (try with_reducible rfl)
    (try simp only [Act.put]); (try simp only [List.setIfInBounds_toArray]); (try simp only [List.set_cons_succ]); (try simp only [List.set_cons_zero])
    refine wpAnyH_take (i := 8) (oi := ⟨_, _, _, _, _, _⟩) (v := ?_) rfl (by kernel_rfl) (by kernel_rfl) (by kernel_rfl) (fun _ _ _ h => h) (Or.inl ⟨by rfl, ?_⟩) (by assumption) ?_
    rotate_left
    · intro wS hSw; go_simp; (try with_reducible rfl)
    (try simp only [Act.put]); (try simp only [List.setIfInBounds_toArray]); (try simp only [List.set_cons_succ]); (try simp only [List.set_cons_zero])
    refine wpAnyH_take (i := 9) (oi := ⟨_, _, _, _, _, _⟩) (v := ?_) rfl (by kernel_rfl) (by kernel_rfl) (by kernel_rfl) (fun _ _ _ h => h) (Or.inl ⟨by rfl, ?_⟩) (by assumption) ?_
    rotate_left
    · intro wS hSw; go_simp; (try with_reducible rfl)
    (try simp only [Act.put]); (try simp only [List.setIfInBounds_toArray]); (try simp only [List.set_cons_succ]); (try simp only [List.set_cons_zero])
    refine wpAnyH_take (i := 10) (oi := ⟨_, _, _, _, _, _⟩) (v := ?_) rfl (by kernel_rfl) (by kernel_rfl) (by kernel_rfl) (fun _ _ _ h => h) (Or.inl ⟨by rfl, ?_⟩) (by assumption) ?_
    rotate_left
    · intro wS hSw
      have c := hSw.1.c2; go_simp; (try with_reducible rfl)
    (try simp only [Act.put]); (try simp only [List.setIfInBounds_toArray]); (try simp only [List.set_cons_succ]); (try simp only [List.set_cons_zero])
    refine wpAnyH_take (i := 11) (oi := ⟨_, _, _, _, _, _⟩) (v := tgV ⟨s.rep, 4, pla, i, s.inc⟩) rfl (by kernel_rfl) (by kernel_rfl) (by kernel_rfl) (fun _ _ _ h => h) (Or.inl ⟨by rfl, fun wS hSw => ?_⟩) (by assumption) ?_
    · kernel_rfl
    (try simp only [Act.put]); (try simp only [List.setIfInBounds_toArray]); (try simp only [List.set_cons_succ]); (try simp only [List.set_cons_zero])
    refine wpAnyH_take (i := 12) (oi := ⟨_, _, _, _, _, _⟩) (v := ?_) rfl (by kernel_rfl) (by kernel_rfl) (by kernel_rfl) (fun _ _ _ h => h) (Or.inl ⟨by rfl, ?_⟩) (by assumption) ?_
    rotate_left
    · intro wS hSw; go_simp; (try with_reducible rfl)
    (try simp only [Act.put]); (try simp only [List.setIfInBounds_toArray]); (try simp only [List.set_cons_succ]); (try simp only [List.set_cons_zero])
    refine wpAnyH_take (i := 13) (oi := ⟨_, _, _, _, _, _⟩) (v := ?_) rfl (by kernel_rfl) (by kernel_rfl) (by kernel_rfl) (fun _ _ _ h => h) (Or.inl ⟨by rfl, ?_⟩) (by assumption) ?_
    rotate_left
    · intro wS hSw
      have c := one_c hSw.2.2.1; go_simp; (try with_reducible rfl)
    (try simp only [Act.put]); (try simp only [List.setIfInBounds_toArray]); (try simp only [List.set_cons_succ]); (try simp only [List.set_cons_zero])
    refine wpAnyH_ready (rs := [14, 19]) (by kernel_rfl) (by simp) ?_
    refine AllReadyH.cons (o := ⟨_, _, _, _, _, _⟩) rfl (fun K' hK' => ?_) (AllReadyH.cons (o := ⟨_, _, _, _, _, _⟩) rfl (fun K' hK' => ?_) AllReadyH.nil)
    · refine (if_pos (by rfl)).mpr ?_
      go_simp
      refine (wide_any 4 _).mono ?_
      rintro e x2 ⟨rfl, hbk⟩
      rw [show wideN 4 = 2 from rfl]
      have F := F.below hbk
      have SB := SB.below hbk
      skip
      refine hK'.out _ _ ⟨F.lg, F.b5, F.b6, F.b7⟩ (fun _ => ?_)
      clear hK' hbk
      (try simp only [Act.put]); (try simp only [List.setIfInBounds_toArray]); (try simp only [List.set_cons_succ]); (try simp only [List.set_cons_zero])
      refine wpAnyH_ready (rs := [15, 19]) (by kernel_rfl) (by simp) ?_
      refine AllReadyH.cons (o := ⟨_, _, _, _, _, _⟩) rfl (fun K' hK' => ?_) (AllReadyH.cons (o := ⟨_, _, _, _, _, _⟩) rfl (fun K' hK' => ?_) AllReadyH.nil)
      · refine (if_pos (by rfl)).mpr ?_
        go_simp
        refine (seal2 ⟨s.rep, 4, pla, i, s.inc⟩ a cap body _ SB hmay hbl).mono ?_
        rintro e x3 ⟨⟨G, rfl, hG, FG⟩, hbk⟩
        have hnG := Nat.le_trans (Nat.le_of_lt (lt_blk F.b5)) hG
        have F := F.below hbk
        have O : OwnB _ w.heap.size (some ⟨G, 0, none⟩) (sealF ⟨s.rep, 4, pla, i, s.inc⟩ body 128).length (sealF ⟨s.rep, 4, pla, i, s.inc⟩ body 128) := .inr ⟨G, [], rfl, hnG, Nat.le_refl _, by rw [hfl]; unfold maxLen; omega, by rw [List.append_nil]; exact FG⟩
        skip
        refine hK'.out _ _ ⟨F.lg, F.b5, F.b6, F.b7⟩ (fun _ => ?_)
        clear hK' hbk FG SB
        (try simp only [Act.put]); (try simp only [List.setIfInBounds_toArray]); (try simp only [List.set_cons_succ]); (try simp only [List.set_cons_zero])
        refine wpAnyH_take (i := 16) (oi := ⟨_, _, _, _, _, _⟩) (v := ?_) rfl (by kernel_rfl) (by kernel_rfl) (by kernel_rfl) (fun _ _ _ h => h) (Or.inl ⟨by rfl, ?_⟩) (by assumption) ?_
        rotate_left
        · intro wS hSw; go_simp; (try with_reducible rfl)
        (try simp only [Act.put]); (try simp only [List.setIfInBounds_toArray]); (try simp only [List.set_cons_succ]); (try simp only [List.set_cons_zero])
        refine wpAnyH_take (i := 17) (oi := ⟨_, _, _, _, _, _⟩) (v := ?_) rfl (by kernel_rfl) (by kernel_rfl) (by kernel_rfl) (fun _ _ _ h => h) (Or.inl ⟨by rfl, ?_⟩) (by assumption) ?_
        rotate_left
        · intro wS hSw; go_simp; (try with_reducible rfl)
        (try simp only [Act.put]); (try simp only [List.setIfInBounds_toArray]); (try simp only [List.set_cons_succ]); (try simp only [List.set_cons_zero])
        refine wpAnyH_take (i := 18) (oi := ⟨_, _, _, _, _, _⟩) (v := ?_) rfl (by kernel_rfl) (by kernel_rfl) (by kernel_rfl) (fun _ _ _ h => h) (Or.inl ⟨by rfl, ?_⟩) (by assumption) ?_
        rotate_left
        · intro wS hSw; go_simp; (try with_reducible rfl)
        (try simp only [Act.put]); (try simp only [List.setIfInBounds_toArray]); (try simp only [List.set_cons_succ]); (try simp only [List.set_cons_zero])
        refine wpAnyH_ready (rs := [19]) (by kernel_rfl) (by simp) ?_
        refine AllReadyH.cons (o := ⟨_, _, _, _, _, _⟩) rfl (fun K' hK' => ?_) AllReadyH.nil
        refine (if_pos (by rfl)).mpr ?_
        go_simp
        change K' _ (World.alloc _ (Obj.cells #[.slice none 0 0] 75))
        have hbk := blw x3 (Obj.cells #[.slice none 0 0] 75)
        have SX := heap_alloc_new x3 (Obj.cells #[.slice none 0 0] 75)
        have hsb := Nat.le_of_lt (lt_blk F.b5)
        have F := F.below hbk
        have O := O.below hbk
        refine hK'.out _ _ ⟨F.lg, F.b5, F.b6, F.b7⟩ (fun _ => ?_)
        clear hK' hbk
        generalize x3.alloc (Obj.cells #[.slice none 0 0] 75) = x4 at *
        generalize x3.heap.size = sb at *
        (try simp only [Act.put]); (try simp only [List.setIfInBounds_toArray]); (try simp only [List.set_cons_succ]); (try simp only [List.set_cons_zero])
        refine wpAnyH_ready (rs := [20]) (by kernel_rfl) (by simp) ?_
        refine AllReadyH.cons (o := ⟨_, _, _, _, _, _⟩) rfl (fun K' hK' => ?_) AllReadyH.nil
        refine (if_pos (by rfl)).mpr ?_
        refine wp_stB 75 _ _ ?_
        refine ⟨_, _, _, ⟨_, _, _, Tryz.sizeOf75, rfl, SX, sl_over _ _ _⟩, ?_⟩
        intro w20 SY g20
        have F20 := F.st1 g20 SX hsb
        have O20 := O.st g20 SX (by decide)
        refine hK'.out _ _ ⟨F20.lg, F20.b5, F20.b6, F20.b7⟩ (fun _ => ?_)
        clear hK' F O SX
        (try simp only [Act.put]); (try simp only [List.setIfInBounds_toArray]); (try simp only [List.set_cons_succ]); (try simp only [List.set_cons_zero])
        refine wpAnyH_ready (rs := [21]) (by kernel_rfl) (by simp) ?_
        refine AllReadyH.cons (o := ⟨_, _, _, _, _, _⟩) rfl (fun K' hK' => ?_) AllReadyH.nil
        refine (if_pos (by rfl)).mpr ?_
        refine wp_stB 24 _ _ ?_
        refine ⟨_, _, _, ⟨_, _, _, Tryz.sizeOf24, rfl, F20.er, er_st _ 0⟩, ?_⟩
        intro w21 E21 g21
        have F21 := F20.st2 g21 E21
        have O21 := O20.st g21 F20.er (by decide)
        have SZ := tr_st g21 SY (ne_ty2 F20.er SY (by decide))
        refine hK'.out _ _ ⟨F21.lg, F21.b5, F21.b6, F21.b7⟩ (fun _ => ?_)
        clear hK'
        refine wpAnyH_done (by kernel_rfl) ?_ _
        go_wp2
        go_meet
        rw [← hfl] at SZ
        exact ⟨_, _, rfl, SZ, O21, F21⟩
      · refine (if_pos (by rfl)).mpr ?_
        go_simp
        change K' _ (World.alloc _ (Obj.cells #[.slice none 0 0] 75))
        have hbk := blw x2 (Obj.cells #[.slice none 0 0] 75)
        have SX := heap_alloc_new x2 (Obj.cells #[.slice none 0 0] 75)
        have hsb := Nat.le_of_lt (lt_blk F.b5)
        have F := F.below hbk
        have SB := SB.below hbk
        refine hK'.out _ _ ⟨F.lg, F.b5, F.b6, F.b7⟩ (fun _ => ?_)
        clear hK' hbk
        generalize x2.alloc (Obj.cells #[.slice none 0 0] 75) = x3 at *
        generalize x2.heap.size = sb at *
        (try simp only [Act.put]); (try simp only [List.setIfInBounds_toArray]); (try simp only [List.set_cons_succ]); (try simp only [List.set_cons_zero])
        refine wpAnyH_ready (rs := [15]) (by kernel_rfl) (by simp) ?_
        refine AllReadyH.cons (o := ⟨_, _, _, _, _, _⟩) rfl (fun K' hK' => ?_) AllReadyH.nil
        refine (if_pos (by rfl)).mpr ?_
        go_simp
        refine (seal2 ⟨s.rep, 4, pla, i, s.inc⟩ a cap body _ SB hmay hbl).mono ?_
        rintro e x4 ⟨⟨G, rfl, hG, FG⟩, hbk⟩
        have hnG := Nat.le_trans (Nat.le_of_lt (lt_blk F.b5)) hG
        have F := F.below hbk
        have O : OwnB _ w.heap.size (some ⟨G, 0, none⟩) (sealF ⟨s.rep, 4, pla, i, s.inc⟩ body 128).length (sealF ⟨s.rep, 4, pla, i, s.inc⟩ body 128) := .inr ⟨G, [], rfl, hnG, Nat.le_refl _, by rw [hfl]; unfold maxLen; omega, by rw [List.append_nil]; exact FG⟩
        have SX := tr_bl hbk SX
        refine hK'.out _ _ ⟨F.lg, F.b5, F.b6, F.b7⟩ (fun _ => ?_)
        clear hK' hbk FG SB
        (try simp only [Act.put]); (try simp only [List.setIfInBounds_toArray]); (try simp only [List.set_cons_succ]); (try simp only [List.set_cons_zero])
        refine wpAnyH_take (i := 16) (oi := ⟨_, _, _, _, _, _⟩) (v := ?_) rfl (by kernel_rfl) (by kernel_rfl) (by kernel_rfl) (fun _ _ _ h => h) (Or.inl ⟨by rfl, ?_⟩) (by assumption) ?_
        rotate_left
        · intro wS hSw; go_simp; (try with_reducible rfl)
        (try simp only [Act.put]); (try simp only [List.setIfInBounds_toArray]); (try simp only [List.set_cons_succ]); (try simp only [List.set_cons_zero])
        refine wpAnyH_take (i := 17) (oi := ⟨_, _, _, _, _, _⟩) (v := ?_) rfl (by kernel_rfl) (by kernel_rfl) (by kernel_rfl) (fun _ _ _ h => h) (Or.inl ⟨by rfl, ?_⟩) (by assumption) ?_
        rotate_left
        · intro wS hSw; go_simp; (try with_reducible rfl)
        (try simp only [Act.put]); (try simp only [List.setIfInBounds_toArray]); (try simp only [List.set_cons_succ]); (try simp only [List.set_cons_zero])
        refine wpAnyH_take (i := 18) (oi := ⟨_, _, _, _, _, _⟩) (v := ?_) rfl (by kernel_rfl) (by kernel_rfl) (by kernel_rfl) (fun _ _ _ h => h) (Or.inl ⟨by rfl, ?_⟩) (by assumption) ?_
        rotate_left
        · intro wS hSw; go_simp; (try with_reducible rfl)
        (try simp only [Act.put]); (try simp only [List.setIfInBounds_toArray]); (try simp only [List.set_cons_succ]); (try simp only [List.set_cons_zero])
        refine wpAnyH_ready (rs := [20]) (by kernel_rfl) (by simp) ?_
        refine AllReadyH.cons (o := ⟨_, _, _, _, _, _⟩) rfl (fun K' hK' => ?_) AllReadyH.nil
        refine (if_pos (by rfl)).mpr ?_
        refine wp_stB 75 _ _ ?_
        refine ⟨_, _, _, ⟨_, _, _, Tryz.sizeOf75, rfl, SX, sl_over _ _ _⟩, ?_⟩
        intro w20 SY g20
        have F20 := F.st1 g20 SX hsb
        have O20 := O.st g20 SX (by decide)
        refine hK'.out _ _ ⟨F20.lg, F20.b5, F20.b6, F20.b7⟩ (fun _ => ?_)
        clear hK' F O SX
        (try simp only [Act.put]); (try simp only [List.setIfInBounds_toArray]); (try simp only [List.set_cons_succ]); (try simp only [List.set_cons_zero])
        refine wpAnyH_ready (rs := [21]) (by kernel_rfl) (by simp) ?_
        refine AllReadyH.cons (o := ⟨_, _, _, _, _, _⟩) rfl (fun K' hK' => ?_) AllReadyH.nil
        refine (if_pos (by rfl)).mpr ?_
        refine wp_stB 24 _ _ ?_
        refine ⟨_, _, _, ⟨_, _, _, Tryz.sizeOf24, rfl, F20.er, er_st _ 0⟩, ?_⟩
        intro w21 E21 g21
        have F21 := F20.st2 g21 E21
        have O21 := O20.st g21 F20.er (by decide)
        have SZ := tr_st g21 SY (ne_ty2 F20.er SY (by decide))
        refine hK'.out _ _ ⟨F21.lg, F21.b5, F21.b6, F21.b7⟩ (fun _ => ?_)
        clear hK'
        refine wpAnyH_done (by kernel_rfl) ?_ _
        go_wp2
        go_meet
        rw [← hfl] at SZ
        exact ⟨_, _, rfl, SZ, O21, F21⟩
    · refine (if_pos (by rfl)).mpr ?_
      go_simp
      change K' _ (World.alloc _ (Obj.cells #[.slice none 0 0] 75))
      have hbk := blw x0 (Obj.cells #[.slice none 0 0] 75)
      have SX := heap_alloc_new x0 (Obj.cells #[.slice none 0 0] 75)
      have hsb := Nat.le_of_lt (lt_blk F.b5)
      have F := F.below hbk
      have SB := SB.below hbk
      refine hK'.out _ _ ⟨F.lg, F.b5, F.b6, F.b7⟩ (fun _ => ?_)
      clear hK' hbk
      generalize x0.alloc (Obj.cells #[.slice none 0 0] 75) = x2 at *
      generalize x0.heap.size = sb at *
      (try simp only [Act.put]); (try simp only [List.setIfInBounds_toArray]); (try simp only [List.set_cons_succ]); (try simp only [List.set_cons_zero])
      refine wpAnyH_ready (rs := [14]) (by kernel_rfl) (by simp) ?_
      refine AllReadyH.cons (o := ⟨_, _, _, _, _, _⟩) rfl (fun K' hK' => ?_) AllReadyH.nil
      refine (if_pos (by rfl)).mpr ?_
      go_simp
      refine (wide_any 4 _).mono ?_
      rintro e x3 ⟨rfl, hbk⟩
      rw [show wideN 4 = 2 from rfl]
      have F := F.below hbk
      have SB := SB.below hbk
      have SX := tr_bl hbk SX
      refine hK'.out _ _ ⟨F.lg, F.b5, F.b6, F.b7⟩ (fun _ => ?_)
      clear hK' hbk
      (try simp only [Act.put]); (try simp only [List.setIfInBounds_toArray]); (try simp only [List.set_cons_succ]); (try simp only [List.set_cons_zero])
      refine wpAnyH_ready (rs := [15]) (by kernel_rfl) (by simp) ?_
      refine AllReadyH.cons (o := ⟨_, _, _, _, _, _⟩) rfl (fun K' hK' => ?_) AllReadyH.nil
      refine (if_pos (by rfl)).mpr ?_
      go_simp
      refine (seal2 ⟨s.rep, 4, pla, i, s.inc⟩ a cap body _ SB hmay hbl).mono ?_
      rintro e x4 ⟨⟨G, rfl, hG, FG⟩, hbk⟩
      have hnG := Nat.le_trans (Nat.le_of_lt (lt_blk F.b5)) hG
      have F := F.below hbk
      have O : OwnB _ w.heap.size (some ⟨G, 0, none⟩) (sealF ⟨s.rep, 4, pla, i, s.inc⟩ body 128).length (sealF ⟨s.rep, 4, pla, i, s.inc⟩ body 128) := .inr ⟨G, [], rfl, hnG, Nat.le_refl _, by rw [hfl]; unfold maxLen; omega, by rw [List.append_nil]; exact FG⟩
      have SX := tr_bl hbk SX
      refine hK'.out _ _ ⟨F.lg, F.b5, F.b6, F.b7⟩ (fun _ => ?_)
      clear hK' hbk FG SB
      (try simp only [Act.put]); (try simp only [List.setIfInBounds_toArray]); (try simp only [List.set_cons_succ]); (try simp only [List.set_cons_zero])
      refine wpAnyH_take (i := 16) (oi := ⟨_, _, _, _, _, _⟩) (v := ?_) rfl (by kernel_rfl) (by kernel_rfl) (by kernel_rfl) (fun _ _ _ h => h) (Or.inl ⟨by rfl, ?_⟩) (by assumption) ?_
      rotate_left
      · intro wS hSw; go_simp; (try with_reducible rfl)
      (try simp only [Act.put]); (try simp only [List.setIfInBounds_toArray]); (try simp only [List.set_cons_succ]); (try simp only [List.set_cons_zero])
      refine wpAnyH_take (i := 17) (oi := ⟨_, _, _, _, _, _⟩) (v := ?_) rfl (by kernel_rfl) (by kernel_rfl) (by kernel_rfl) (fun _ _ _ h => h) (Or.inl ⟨by rfl, ?_⟩) (by assumption) ?_
      rotate_left
      · intro wS hSw; go_simp; (try with_reducible rfl)
      (try simp only [Act.put]); (try simp only [List.setIfInBounds_toArray]); (try simp only [List.set_cons_succ]); (try simp only [List.set_cons_zero])
      refine wpAnyH_take (i := 18) (oi := ⟨_, _, _, _, _, _⟩) (v := ?_) rfl (by kernel_rfl) (by kernel_rfl) (by kernel_rfl) (fun _ _ _ h => h) (Or.inl ⟨by rfl, ?_⟩) (by assumption) ?_
      rotate_left
      · intro wS hSw; go_simp; (try with_reducible rfl)
      (try simp only [Act.put]); (try simp only [List.setIfInBounds_toArray]); (try simp only [List.set_cons_succ]); (try simp only [List.set_cons_zero])
      refine wpAnyH_ready (rs := [20]) (by kernel_rfl) (by simp) ?_
      refine AllReadyH.cons (o := ⟨_, _, _, _, _, _⟩) rfl (fun K' hK' => ?_) AllReadyH.nil
      refine (if_pos (by rfl)).mpr ?_
      refine wp_stB 75 _ _ ?_
      refine ⟨_, _, _, ⟨_, _, _, Tryz.sizeOf75, rfl, SX, sl_over _ _ _⟩, ?_⟩
      intro w20 SY g20
      have F20 := F.st1 g20 SX hsb
      have O20 := O.st g20 SX (by decide)
      refine hK'.out _ _ ⟨F20.lg, F20.b5, F20.b6, F20.b7⟩ (fun _ => ?_)
      clear hK' F O SX
      (try simp only [Act.put]); (try simp only [List.setIfInBounds_toArray]); (try simp only [List.set_cons_succ]); (try simp only [List.set_cons_zero])
      refine wpAnyH_ready (rs := [21]) (by kernel_rfl) (by simp) ?_
      refine AllReadyH.cons (o := ⟨_, _, _, _, _, _⟩) rfl (fun K' hK' => ?_) AllReadyH.nil
      refine (if_pos (by rfl)).mpr ?_
      refine wp_stB 24 _ _ ?_
      refine ⟨_, _, _, ⟨_, _, _, Tryz.sizeOf24, rfl, F20.er, er_st _ 0⟩, ?_⟩
      intro w21 E21 g21
      have F21 := F20.st2 g21 E21
      have O21 := O20.st g21 F20.er (by decide)
      have SZ := tr_st g21 SY (ne_ty2 F20.er SY (by decide))
      refine hK'.out _ _ ⟨F21.lg, F21.b5, F21.b6, F21.b7⟩ (fun _ => ?_)
      clear hK'
      refine wpAnyH_done (by kernel_rfl) ?_ _
      go_wp2
      go_meet
      rw [← hfl] at SZ
      exact ⟨_, _, rfl, SZ, O21, F21⟩
  have hlen := hfl
  obtain ⟨fr, hfr⟩ : ∃ fr, sealF ⟨s.rep, 4, pla, i, s.inc⟩ body 128 = fr := ⟨_, rfl⟩
  rw [hfr] at hlen hcut HR
  clear hfr hfl
  obtain ⟨sb, G, rfl, SX, O, F⟩ := hcut
  refine hK _ _ ?_
  clear hK
  have hb' := Nat.le_trans hb F.bl.size
  have ce := one_c F.er
  refine wp_seq_k (fun K hK => ?_)
  have HK := Lib.hid hK
  clear hK
  go_wp2
  refine HK.out _ _ ?_
  clear HK
  refine wp_seq_k (fun K hK => ?_)
  have HK := Lib.hid hK
  clear hK
  go_wp2
  refine HK.out _ _ ?_
  clear HK
  refine wp_seq_k (fun K hK => ?_)
  have HK := Lib.hid hK
  clear hK ce
  have c6 := one_c F.b6
  go_wp2_with (go_at_call 49; refine (wide_any 4 _).mono ?_; rintro e w5 ⟨rfl, hb5⟩)
  rw [show wideN 4 = 2 from rfl]
  have SX := tr_bl hb5 SX
  have O := O.below hb5
  have F := F.below hb5
  have hb' := Nat.le_trans hb' hb5.size
  clear c6 hb5
  generalize w5 = wc at *
  go_loopw [39, 13] (fun i' _ wr => ∃ j : Nat, j ≤ 2 ∧ i' = .int .i64 (j : Nat) ∧ (∃ wv', DiskB B g gp wv' (wsD d f fr j).1 wr) ∧ ErB wr (w.heap.size + 3) (wsD d f fr j).2 ∧ Kw B (w.heap.size + 3) wc wr) (fun i' _ _ => 2 - (intOf i').toNat)
  case atStart => exact ⟨0, by omega, rfl, ⟨_, F.dk⟩, F.er, Kw.refl _ _ _⟩
  case' round =>
    obtain ⟨j, hj, rfl, ⟨wv5, D5⟩, E5, hkw⟩ := hrel
  rcases (show j = 0 ∨ j = 1 ∨ j = 2 by omega) with rfl | rfl | rfl
  · skip
    have hB5 := Nat.le_trans hb' hkw.bl.size
    have hbk := blw wr (Obj.cells #[.int .i64 0] 3)
    have ck := heap_alloc_new wr (Obj.cells #[.int .i64 0] 3)
    have D6 := D5.below hbk
    have E6 : ErB (wr.alloc (Obj.cells #[.int .i64 0] 3)) (w.heap.size + 3) (wsD d f fr 0).2 := tr_bl hbk E5
    have L6 : LgB (wr.alloc (Obj.cells #[.int .i64 0] 3)) q g s := tr_bl hbk (hkw.ty _ _ _ F.lg (by decide) (by decide) (by decide) (ne_ty2 F.lg F.er (by decide)))
    have X6 : WBx (wr.alloc (Obj.cells #[.int .i64 0] 3)) w.heap.size (w.heap.size + 1) (w.heap.size + 2) wr.heap.size sb q G 4 pla 0 fr.length := ⟨tr_bl hbk (hkw.ty _ _ _ F.b5 (by decide) (by decide) (by decide) (by omega)), tr_bl hbk (hkw.ty _ _ _ F.b6 (by decide) (by decide) (by decide) (by omega)), tr_bl hbk (hkw.ty _ _ _ F.b7 (by decide) (by decide) (by decide) (by omega)), ck, tr_bl hbk (hkw.ty _ _ _ SX (by decide) (by decide) (by decide) (ne_ty2 SX F.er (by decide)))⟩
    have O6 : OwnB (wr.alloc (Obj.cells #[.int .i64 0] 3)) B (some ⟨G, 0, none⟩) fr.length fr := ((O.kw hkw F.er).below hbk).mono hb
    have k6 := hkw.trans (Kw.of (eb := w.heap.size + 3) (Kt.of hbk hB5))
    have hB6 := Nat.le_trans hB5 hbk.size
    have hw6 := wsD_wt d f fr 0
    obtain ⟨st, hst⟩ : ∃ st, wsD d f fr 0 = st := ⟨_, rfl⟩
    have hnx : wsD d f fr (0 + 1) = if st.2 ≠ 0 then st else writeD st.1 (f + (0 : Nat)) (pcD fr 0) := by rw [← hst]; rfl
    rw [hst] at D6 E6 hw6
    have HNX := Lib.hid hnx
    clear hst hnx D5 E5 hkw hbk hB5 ck
    obtain ⟨d6, e6⟩ := st
    simp only at D6 E6 hw6
    by_cases h6 : e6 = 0
    case pos =>
      subst h6
      have hnx := HNX.out
      rw [if_neg (by simp)] at hnx
      have hdo := do_wr E6 (by omega) L6 D6 hB6 0 (by omega) X6 O6 (by omega) (by omega) HF.out hfb (by omega)
      obtain ⟨r9, hr9⟩ : ∃ r9, writeD d6 (f + (0 : Nat)) (pcD fr 0) = r9 := ⟨_, rfl⟩
      simp only at hnx
      rw [hr9] at hdo hnx
      have HNY := Lib.hid hnx
      clear HNX hnx hr9
      go_wp2_with (go_at_call 62; refine hdo.mono ?_; rintro e w7 ⟨rfl, D7, E7, k7⟩)
      go_roundw
      case rel => exact ⟨0 + 1, by omega, by rfl, by rw [HNY.out]; exact D7, by rw [HNY.out]; exact E7, k6.trans k7⟩
      case measure => simp [intOf]
    case neg =>
      have hnx := HNX.out
      rw [if_pos h6] at hnx
      have HNY := Lib.hid hnx
      clear HNX hnx
      go_wp2_with (go_at_call 62; refine (do_skip _ e6 h6 E6).mono ?_; rintro e w7 ⟨rfl, rfl⟩)
      go_roundw
      case rel => exact ⟨0 + 1, by omega, by rfl, by rw [HNY.out]; exact ⟨_, D6⟩, by rw [HNY.out]; exact E6, k6⟩
      case measure => simp [intOf]
  · skip
    have hB5 := Nat.le_trans hb' hkw.bl.size
    have hbk := blw wr (Obj.cells #[.int .i64 1] 3)
    have ck := heap_alloc_new wr (Obj.cells #[.int .i64 1] 3)
    have D6 := D5.below hbk
    have E6 : ErB (wr.alloc (Obj.cells #[.int .i64 1] 3)) (w.heap.size + 3) (wsD d f fr 1).2 := tr_bl hbk E5
    have L6 : LgB (wr.alloc (Obj.cells #[.int .i64 1] 3)) q g s := tr_bl hbk (hkw.ty _ _ _ F.lg (by decide) (by decide) (by decide) (ne_ty2 F.lg F.er (by decide)))
    have X6 : WBx (wr.alloc (Obj.cells #[.int .i64 1] 3)) w.heap.size (w.heap.size + 1) (w.heap.size + 2) wr.heap.size sb q G 4 pla 1 fr.length := ⟨tr_bl hbk (hkw.ty _ _ _ F.b5 (by decide) (by decide) (by decide) (by omega)), tr_bl hbk (hkw.ty _ _ _ F.b6 (by decide) (by decide) (by decide) (by omega)), tr_bl hbk (hkw.ty _ _ _ F.b7 (by decide) (by decide) (by decide) (by omega)), ck, tr_bl hbk (hkw.ty _ _ _ SX (by decide) (by decide) (by decide) (ne_ty2 SX F.er (by decide)))⟩
    have O6 : OwnB (wr.alloc (Obj.cells #[.int .i64 1] 3)) B (some ⟨G, 0, none⟩) fr.length fr := ((O.kw hkw F.er).below hbk).mono hb
    have k6 := hkw.trans (Kw.of (eb := w.heap.size + 3) (Kt.of hbk hB5))
    have hB6 := Nat.le_trans hB5 hbk.size
    have hw6 := wsD_wt d f fr 1
    obtain ⟨st, hst⟩ : ∃ st, wsD d f fr 1 = st := ⟨_, rfl⟩
    have hnx : wsD d f fr (1 + 1) = if st.2 ≠ 0 then st else writeD st.1 (f + (1 : Nat)) (pcD fr 1) := by rw [← hst]; rfl
    rw [hst] at D6 E6 hw6
    have HNX := Lib.hid hnx
    clear hst hnx D5 E5 hkw hbk hB5 ck
    obtain ⟨d6, e6⟩ := st
    simp only at D6 E6 hw6
    by_cases h6 : e6 = 0
    case pos =>
      subst h6
      have hnx := HNX.out
      rw [if_neg (by simp)] at hnx
      have hdo := do_wr E6 (by omega) L6 D6 hB6 1 (by omega) X6 O6 (by omega) (by omega) HF.out hfb (by omega)
      obtain ⟨r9, hr9⟩ : ∃ r9, writeD d6 (f + (1 : Nat)) (pcD fr 1) = r9 := ⟨_, rfl⟩
      simp only at hnx
      rw [hr9] at hdo hnx
      have HNY := Lib.hid hnx
      clear HNX hnx hr9
      go_wp2_with (go_at_call 62; refine hdo.mono ?_; rintro e w7 ⟨rfl, D7, E7, k7⟩)
      go_roundw
      case rel => exact ⟨1 + 1, by omega, by rfl, by rw [HNY.out]; exact D7, by rw [HNY.out]; exact E7, k6.trans k7⟩
      case measure => simp [intOf]
    case neg =>
      have hnx := HNX.out
      rw [if_pos h6] at hnx
      have HNY := Lib.hid hnx
      clear HNX hnx
      go_wp2_with (go_at_call 62; refine (do_skip _ e6 h6 E6).mono ?_; rintro e w7 ⟨rfl, rfl⟩)
      go_roundw
      case rel => exact ⟨1 + 1, by omega, by rfl, by rw [HNY.out]; exact ⟨_, D6⟩, by rw [HNY.out]; exact E6, k6⟩
      case measure => simp [intOf]
  · skip
    have hB5 := Nat.le_trans hb' hkw.bl.size
    have L6 : LgB wr q g s := hkw.ty _ _ _ F.lg (by decide) (by decide) (by decide) (ne_ty2 F.lg F.er (by decide))
    have c5 := one_c (hkw.ty _ _ _ F.b5 (by decide) (by decide) (by decide) (show w.heap.size ≠ w.heap.size + 3 by omega))
    have l0 := L6.c0
    have hpd : (if (wsD d f fr 2).2 ≠ 0 then wsD d f fr 2 else flushD (wsD d f fr 2).1) = r := HR.out
    obtain ⟨st, hst⟩ : ∃ st, wsD d f fr 2 = st := ⟨_, rfl⟩
    rw [hst] at D5 E5 hpd
    clear hst HR
    obtain ⟨d6, e6⟩ := st
    simp only at D5 E5 hpd
    have hfin : ∀ w', Kw B (w.heap.size + 3) wc w' → Kt B w w' := fun w' k => k.kt F.bl hb (by omega)
    go_wp2
    refine HK.out _ _ ?_
    clear HK
    by_cases h6 : e6 = 0
    case pos =>
      subst h6
      rw [if_neg (by simp)] at hpd
      have hdo := do_fl E5 (by omega) D5 hB5
      rw [hpd] at hdo
      have HPD := Lib.hid hpd
      clear hpd
      refine wp_seq_k (fun K hK => ?_)
      have HK := Lib.hid hK
      clear hK
      go_wp2_with (go_at_call 62; refine hdo.mono ?_; rintro e w7 ⟨rfl, ⟨wv7, D7⟩, E7, k7⟩)
      refine HK.out _ _ ?_
      clear HK
      have c7 := one_c E7
      have E7' : w7.heap[w.heap.size + 3]? = some (.cells #[.int .i64 r.2] 24 (0, 0)) := E7
      go_wp2_with ((with_reducible refine wpList_stB 24 _ _ ?_); refine ⟨_, _, _, ⟨_, _, _, Tryz.sizeOf24, rfl, E7', er_st _ r.2⟩, ?_⟩; intro w8 E8 g8)
      refine bodyPost_ret (results_c1 rfl rfl (by have c8 := one_c E8; go_simp; (try rfl))) rfl ⟨rfl, ⟨_, D7.oe g8 E7 (by decide) (by decide) (by decide)⟩, hfin _ ((hkw.trans k7).trans (Kw.st g8 (by omega) (Nat.le_trans hB5 k7.bl.size)))⟩
    case neg =>
      rw [if_pos h6] at hpd
      subst hpd
      refine wp_seq_k (fun K hK => ?_)
      have HK := Lib.hid hK
      clear hK
      go_wp2_with (go_at_call 62; refine (do_skip _ e6 h6 E5).mono ?_; rintro e w7 ⟨rfl, rfl⟩)
      refine HK.out _ _ ?_
      clear HK
      have c7 := one_c E5
      have E7' : wr.heap[w.heap.size + 3]? = some (.cells #[.int .i64 e6] 24 (0, 0)) := E5
      go_wp2_with ((with_reducible refine wpList_stB 24 _ _ ?_); refine ⟨_, _, _, ⟨_, _, _, Tryz.sizeOf24, rfl, E7', er_st _ e6⟩, ?_⟩; intro w8 E8 g8)
      refine bodyPost_ret (results_c1 rfl rfl (by have c8 := one_c E8; go_simp; (try rfl))) rfl ⟨rfl, ⟨_, D5.oe g8 E5 (by decide) (by decide) (by decide)⟩, hfin _ (hkw.trans (Kw.st g8 (by omega) hB5))⟩
end
end Go.Proofs.YtknchbhobopkeaaGreatDoor
namespace Go.Proofs.YtknchbhobopkeaaGreatDoor
open Go.RowKit
def frmL (s : Lg) (i : Int) (k : Nat) (b : Bal) (e : En) : List UInt8 := sealF ⟨s.rep, 4, 2 * plW i + k, i, s.inc⟩ (bodyE b e) 128
def frmR (s : Lg) (i : Int) (k : Nat) (b : Bal) : List UInt8 := sealF ⟨s.rep, 3, plW i, i, s.inc⟩ (recB b k) 64
def putL1 (d : Dk) (s : Lg) (i : Int) (k : Nat) (b : Bal) (e : En) : Dk × Int := lputD d (firstN 4 (2 * plW i + k)) (frmL s i k b e) 2
def putL2 (d : Dk) (s : Lg) (i : Int) (k : Nat) (b : Bal) : Dk × Int := lputD d (firstN 3 (plW i)) (frmR s i k b) 1
def putW (d : Dk) (s : Lg) (i : Int) (b : Bal) (e : En) : Dk × Int :=
  if (putL1 d s i (nextS (recW d s i) (ffW d s i) i) b e).2 ≠ 0 then putL1 d s i (nextS (recW d s i) (ffW d s i) i) b e else putL2 (putL1 d s i (nextS (recW d s i) (ffW d s i) i) b e).1 s i (nextS (recW d s i) (ffW d s i) i) b
theorem nextS_lt (p : SRec) (f : Nat → SCp) (i : Int) : nextS p f i < 2 := by
  unfold nextS
  cases h : intactS p f i with
  | some k => have := intact_lt h; simp only; omega
  | none => simp only; split <;> omega
theorem lputD_wt (d : Dk) (f : Int) (fr : List UInt8) (n : Nat) : (lputD d f fr n).1.waits.length ≤ d.waits.length + n := by
  have h := wsD_wt d f fr n
  unfold lputD
  split
  · exact h
  · rcases flush_pl (wsD d f fr n).1 with h2 | h2
    · rw [h2.2]; exact h
    · rw [h2.2]; simp
section
variable {B g gp q : Nat} {wv : Value} {d : Dk} {w w' : World} {s : Lg} {b : Bal} {e : En}
theorem mayT4 (hs : LgOk s) {i : Int} (h1 : 1 ≤ i) (h2 : i ≤ 1099511627776) {k : Nat} (hk : k < 2) : mayTg ⟨s.rep, 4, 2 * plW i + k, i, s.inc⟩ = true := by
  have := hs.r
  have := hs.n
  have := plW_in (i := i)
  unfold mayTg
  simp [placesN]
  omega
theorem mayT3 (hs : LgOk s) {i : Int} (h1 : 1 ≤ i) (h2 : i ≤ 1099511627776) : mayTg ⟨s.rep, 3, plW i, i, s.inc⟩ = true := by
  have := hs.r
  have := hs.n
  have := plW_in (i := i)
  unfold mayTg
  simp [placesN]
  omega
set_option maxRecDepth 100000 in
set_option maxHeartbeats 1000000 in
theorem lopen_ok (hd : DiskB B g gp wv d w) (rep inc snap : Int) (h156 : 156 ≤ d.pl.length) (hok : LgOk ⟨rep, inc, snap⟩) (hup : upD d = true) : Calls Tryz.prog 8 #[.pointer (some ⟨g, 0, none⟩), .int .i64 rep, .int .i64 inc, .int .i64 snap] w fun e w' => (∃ q, e = .returned (.tuple #[.pointer (some ⟨q, 0, none⟩), .int .i64 0]) ∧ w.heap.size ≤ q ∧ LgB w' q g ⟨rep, inc, snap⟩) ∧ Below w.heap.size w w' := by
  have h1 := hok.r
  have h2 := hok.n
  have h3 := hok.p
  have hsz := dsize hd
  have hu := fun w' (D : DiskB B g gp wv d w') => up_any D
  rw [hup] at hu
  simp only at h1 h2 h3
  have hn0 : ¬ ((d.pl.length : Int) < 156) := by omega
  have hn1 : ((d.pl.length : Int) == 0) = false := by rw [beq_eq_false_iff_ne]; omega
  have hf : fitW snap = true := by unfold fitW; rw [decide_eq_true h3.1, decide_eq_true h3.2]; rfl
  have hfi := fun w => lfits_any snap w
  rw [hf] at hfi
  clear hf hup h156 hok
  go_enter Tryz.func8, Tryz.ntmps8
  go_wp2_with (first
    | (go_at_call 25; refine hsz.mono ?_; rintro e w1 ⟨rfl, rfl⟩)
    | (go_at_call 26; refine (all_any _).mono ?_; rintro e w1 ⟨rfl, hb1⟩)
    | (go_at_call 27; refine (hfi _).mono ?_; rintro e w1 ⟨rfl, rfl⟩)
    | (go_at_call 28; refine (hu _ (hd.below hb1)).mono ?_; rintro e w1 ⟨rfl, rfl⟩))
  go_ret2
  exact ⟨⟨_, rfl, hb1.size, heap_alloc_new _ (Obj.cells #[.pointer (some ⟨g, 0, none⟩), .int .i64 rep, .int .i64 inc, .int .i64 snap] 74)⟩, hb1.trans ((blw _ (Obj.cells #[.pointer (some ⟨g, 0, none⟩), .int .i64 rep, .int .i64 inc, .int .i64 snap] 74)).mono hb1.size)⟩
end
end Go.Proofs.YtknchbhobopkeaaGreatDoor
