/- Texts that the claim leans on, part 14: G2, G3, C17, G4, G5, C18, G6, G7. -/
import Derived.Test.YtddddemclhlfaaaGreatDoorZ1
import Derived.Test.YtddddemclhlfaaaGreatDoorZ2
import Derived.Test.YtddddemclhlfaaaGreatDoorZ3
import Derived.Test.YtddddemclhlfaaaGreatDoorZ4
import Derived.Test.YtddddemclhlfaaaGreatDoorZ5
import Derived.Test.YtddddemclhlfaaaGreatDoorZ6
import Derived.Test.YtddddemclhlfaaaGreatDoorZ7
import Derived.Test.YtddddemclhlfaaaGreatDoorZ8
import Derived.Test.YtddddemclhlfaaaGreatDoorZ9
import Derived.Test.YtddddemclhlfaaaGreatDoorZ10
import Derived.Test.YtddddemclhlfaaaGreatDoorZ11
import Derived.Test.YtddddemclhlfaaaGreatDoorZ12
import Derived.Test.YtddddemclhlfaaaGreatDoorZ13
import Derived.Test.YtddddemclhlfaaaGreatDoorRows
import Derived.WalkKit
import Derived.WalkSpells
import Derived.WalkLawsBesides
import Derived.Handy
import Derived.Deep.QuietTactic
import Derived.BigQuiet
import Derived.Deep.DeepCutAuto
import Derived.Lib.Hide
import Derived.RegionTactic
import Derived.ChangeAlike
import Derived.Shelf.Abstract
import Derived.Shelf.RegionOpen
import Derived.OwnWalkIn
import Derived.TacticsInMore
import Derived.LoopNIn
import Derived.LoopIn
import Derived.Laws.ResultCell
import Derived.Outline
import Derived.Maps.AppendAt
import Derived.IntWalk
import Derived.RangeFuncNested
import Derived.RangeFuncBound
import Derived.RangeFuncCalls
import Derived.RangeFuncLeaves
import Derived.RangeFuncBox
import Derived.Laws.MakeOwn
import Derived.Laws.OwnMore
import Derived.Laws.IdiomStrings
import Derived.Laws.BytesArg
import Derived.Laws.BitsAllLaws
import Derived.Lib.SliceRun
import Derived.Great.BuildSlice
import Derived.Great.FillDense
import Derived.Laws.Rows
import Derived.Deep.Quiet
import Derived.Deep.RegionHeld3
import Derived.ProofKit
import Derived.OpenShut
import Derived.Laws.CopyOwn
import Derived.Laws.CopyRow
import Derived.Laws.NewBlocks
import Derived.Deep.RegionLaw
namespace Go.Proofs.YtddddemclhlfaaaGreatDoor
open Go.RowKit Go.Shelf
theorem hurtsL_pre (d : Dk) {f k t : Nat} (h1 : f ≤ k) (h2 : k ≤ t) : hurtsL d f k <+: hurtsL d f t := by
  unfold hurtsL rangeI
  refine List.IsPrefix.filter _ (List.IsPrefix.map _ ?_)
  refine ⟨List.range' k (t - k), ?_⟩
  have := List.range'_append_1 (s := f) (m := k - f) (n := t - k)
  rw [show f + (k - f) = k by omega, show k - f + (t - k) = t - f by omega] at this
  exact this
structure HuB (pa : Option Addr) (m f t : Nat) (w : World) : Prop where
  c0 : w.cell? ⟨m, 0, none⟩ = some (.pointer pa)
  c1 : w.cell? ⟨m + 1, 0, none⟩ = some (.int .i64 (f : Int))
  c2 : w.cell? ⟨m + 2, 0, none⟩ = some (.int .i64 (t : Int))
  c3 : w.cell? ⟨m + 3, 0, none⟩ = some (.func (.func 105) #[] #[.pointer (some ⟨m, 0, none⟩)])
theorem cell_bx {n m k : Nat} {w w' : World} {v : Value} (h : KpH n m w w') (h1 : m ≤ k) (h2 : k < m + 4) (hc : w.cell? ⟨k, 0, none⟩ = some v) : w'.cell? ⟨k, 0, none⟩ = some v := by
  unfold World.cell? at hc ⊢
  simp only at hc ⊢
  rw [h.bx k h1 h2]
  exact hc
theorem HuB.kp {pa : Option Addr} {m f t n : Nat} {w w' : World} (h : HuB pa m f t w) (hk : KpH n m w w') : HuB pa m f t w' :=
  ⟨cell_bx hk (by omega) (by omega) h.c0, cell_bx hk (by omega) (by omega) h.c1, cell_bx hk (by omega) (by omega) h.c2, cell_bx hk (by omega) (by omega) h.c3⟩
theorem HuB.below {pa : Option Addr} {m f t : Nat} {w w' : World} (h : HuB pa m f t w) (hb : Below w.heap.size w w') : HuB pa m f t w' :=
  ⟨cell_later hb h.c0, cell_later hb h.c1, cell_later hb h.c2, cell_later hb h.c3⟩
theorem fn_new (f : Fn) (ts lb : Array Value) : (Value.func f ts lb).cells = #[.func f ts lb] ∧ (#[Value.func f ts lb]).size = 1 ∧ ∀ u ∈ (#[Value.func f ts lb]).toList, u.oneCell' = true := ⟨rfl, rfl, by simp [Value.oneCell']⟩
set_option maxRecDepth 100000 in
theorem hurts_any (pa : Option Addr) (f t : Nat) (w : World) : Calls Tryz.prog 45 #[.pointer pa, .int .i64 (f : Int), .int .i64 (t : Int)] w fun e w' =>
    e = .returned (.func (.func 107) #[] #[.pointer (some ⟨w.heap.size + 1, 0, none⟩), .pointer (some ⟨w.heap.size + 2, 0, none⟩), .pointer (some ⟨w.heap.size + 3, 0, none⟩)]) ∧ HuB pa w.heap.size f t w' ∧ w'.heap.size = w.heap.size + 4 ∧ Below w.heap.size w w' := by
  go_enter Tryz.func45, Tryz.ntmps45
  refine wp_seq_k (fun K hK => ?_)
  have HK := Lib.hid hK
  clear hK
  go_wp2
  refine HK.out _ _ ?_
  clear HK
  have hb1 := blw w (Obj.cells #[.pointer pa] 24)
  have hb2 := hb1.alloc (by simp) (Obj.cells #[.int .i64 (f : Int)] 3)
  have hb3 := hb2.alloc (by simp; omega) (Obj.cells #[.int .i64 (t : Int)] 3)
  have d0 : (((w.alloc (Obj.cells #[.pointer pa] 24)).alloc (Obj.cells #[.int .i64 (f : Int)] 3)).alloc (Obj.cells #[.int .i64 (t : Int)] 3)).cell? ⟨w.heap.size, 0, none⟩ = some (.pointer pa) := by go_simp
  have d1 : (((w.alloc (Obj.cells #[.pointer pa] 24)).alloc (Obj.cells #[.int .i64 (f : Int)] 3)).alloc (Obj.cells #[.int .i64 (t : Int)] 3)).cell? ⟨w.heap.size + 1, 0, none⟩ = some (.int .i64 (f : Int)) := by go_simp
  have d2 : (((w.alloc (Obj.cells #[.pointer pa] 24)).alloc (Obj.cells #[.int .i64 (f : Int)] 3)).alloc (Obj.cells #[.int .i64 (t : Int)] 3)).cell? ⟨w.heap.size + 2, 0, none⟩ = some (.int .i64 (t : Int)) := by go_simp
  have hs : (((w.alloc (Obj.cells #[.pointer pa] 24)).alloc (Obj.cells #[.int .i64 (f : Int)] 3)).alloc (Obj.cells #[.int .i64 (t : Int)] 3)).heap.size = w.heap.size + 3 := by simp
  generalize (((w.alloc (Obj.cells #[.pointer pa] 24)).alloc (Obj.cells #[.int .i64 (f : Int)] 3)).alloc (Obj.cells #[.int .i64 (t : Int)] 3)) = w3 at *
  have HS := Lib.hid hs
  clear hs
  refine wp_seq_k (fun K hK => ?_)
  have HK := Lib.hid hK
  clear hK
  go_wp2_with ((first | (with_reducible refine wpList_stNew 152 _ _ ?_) | (with_reducible refine wp_stNew 152 _ _ ?_)); refine ⟨_, _, ⟨Tryz.sizeOf152, rfl, fn_new _ _ _⟩, rfl, ?_⟩)
  refine HK.out _ _ ?_
  clear HK
  have c3 := blk_cell (heap_alloc_new w3 (Obj.cells #[.func (.func 105) #[] #[.pointer (some ⟨w.heap.size, 0, none⟩)]] 152)) 0 _ rfl
  rw [HS.out] at c3
  have hb4 := blw w3 (Obj.cells #[.func (.func 105) #[] #[.pointer (some ⟨w.heap.size, 0, none⟩)]] 152)
  have hz := HS.out
  have HC := Lib.hid c3
  clear c3
  go_wp2
  go_ret
  exact ⟨rfl, ⟨cell_later hb4 d0, cell_later hb4 d1, cell_later hb4 d2, HC.out⟩, by simp; omega, hb3.alloc (by omega) _⟩
section
variable {B g gp : Nat} {wv : Value} {d : Dk} {wc : World}
set_option maxRecDepth 100000 in
set_option maxHeartbeats 1000000 in
theorem hurts_in (h : DiskB B g gp wv d wc) (f t m l : Nat) (ht : t ≤ 100000) (hf : f ≤ t) (J Jx : List Int → World → Prop) (W : World) (hm : wc.heap.size ≤ W.heap.size) (hm4 : m + 4 ≤ W.heap.size) (hB : Below wc.heap.size wc W) (hq : HuB (some ⟨g, 0, none⟩) m f t W) (hJ : AbidesFrom W.heap.size J)
    (hY : ∀ pre x W1, J pre W1 → pre.length < t → YieldAt Fence.wide 1 Tryz.prog l #[.int .i64 x] W1 fun e W' => (e = .returned (.bool true) ∧ J (pre ++ [x]) W' ∧ KpH wc.heap.size m W1 W') ∨ (e = .returned (.bool false) ∧ Jx (pre ++ [x]) W')) (h0 : J [] W) :
    CallsIn Fence.wide 2 Tryz.prog 107 (#[.func (.yield l) #[] #[]] ++ #[.pointer (some ⟨m + 1, 0, none⟩), .pointer (some ⟨m + 2, 0, none⟩), .pointer (some ⟨m + 3, 0, none⟩)]) W fun e W' => (∃ v, e = .returned v) ∧ ((∃ xs, xs = hurtsL d f t ∧ J xs W') ∨ (∃ pre, (pre <+: hurtsL d f t ∧ pre ≠ []) ∧ Jx pre W')) := by
  refine callsIn_of_wp Tryz.func107 rfl trivial ?_ rfl
  simp only [Tryz.ntmps107, List.size_toArray, List.length_cons, List.length_nil, Nat.reduceAdd, Nat.reduceSub, Array.replicate_succ, Array.replicate_zero, List.push_toArray, List.append_toArray, List.nil_append, List.cons_append]
  have c1 := hq.c1
  gi_wp2
  gi_loopw [5] (fun i wr => ∃ k : Nat, f ≤ k ∧ k ≤ t ∧ i = .int .i64 k ∧ J (hurtsL d f k) wr ∧ KpH wc.heap.size m W wr)
    (fun i _ => t - (intOf i).toNat)
  case atStart => exact ⟨f, Nat.le_refl _, hf, rfl, by rw [hurtsL_self]; exact h0, ⟨Below.refl _ _, fun _ _ _ => rfl⟩⟩
  case round =>
    obtain ⟨k, hk1, hk2, rfl, hJs, hKr⟩ := hrel
    have hqr := hq.kp hKr
    have c2 := hqr.c2
    have c3 := hqr.c3
    have hdr := h.below (hB.trans hKr.bl)
    have his := is_any hdr m hqr.c0 (k : Int)
    by_cases hlt : k < t
    · cases hb : hurtB d (k : Int)
      case true =>
        rw [hb] at his
        have hll := hurtsL_len d f k
        have hYk := fun W1 (hj : J (hurtsL d f k) W1) => hY _ (k : Int) W1 hj (by omega)
        gi_wp2_with (refine ⟨trivial, ?_⟩; gi_at_call 105; refine (callsIn_wide.2 his).mono ?_; rintro e w3 ⟨rfl, hb3⟩; have hk3 := KpH.below (n := wc.heap.size) (m := m) hb3 (by have := hKr.bl.size; omega) (by have := hKr.bl.size; omega); obtain ⟨fn, tmps, assign, body, hy, hR⟩ := hYk w3 (abides_bl hJ hJs hb3))
        refine hR.mono ?_
        rintro e W3 (⟨rfl, hJ3, hk4⟩ | ⟨rfl, hJx3⟩)
        · gi_wp2
          go_roundw
          case rel => exact ⟨k + 1, by omega, by omega, by go_num, by rw [hurtsL_yes hk1 hb]; exact hJ3, (hKr.trans hk3).trans hk4⟩
          case measure => simp [intOf]; omega
        · gi_wp2
          refine bodyPost_ret (results_none rfl _ _ _) rfl ?_
          exact ⟨⟨_, rfl⟩, .inr ⟨_, ⟨by rw [← hurtsL_yes hk1 hb]; exact hurtsL_pre d (by omega) (by omega), by simp⟩, hJx3⟩⟩
      case false =>
        rw [hb] at his
        gi_wp2_with (refine ⟨trivial, ?_⟩; gi_at_call 105; refine (callsIn_wide.2 his).mono ?_; rintro e w3 ⟨rfl, hb3⟩)
        refine ⟨fun _ h => (by cases h), ?_⟩
        gi_wp2
        have hk3 := KpH.below (n := wc.heap.size) (m := m) hb3 (by have := hKr.bl.size; omega) (by have := hKr.bl.size; omega)
        go_roundw
        case rel => exact ⟨k + 1, by omega, by omega, by go_num, by rw [hurtsL_no hk1 hb]; exact abides_bl hJ hJs hb3, hKr.trans hk3⟩
        case measure => simp [intOf]; omega
    · obtain rfl : k = t := by omega
      gi_wp2
      go_end0
      exact ⟨⟨_, rfl⟩, .inl ⟨_, rfl, hJs⟩⟩
end
end Go.Proofs.YtddddemclhlfaaaGreatDoor
namespace Go.Proofs.YtddddemclhlfaaaGreatDoor
open Go.RowKit Go.Shelf
attribute [local go_sem] Oper.semAt_some
theorem box_app {W w1 : World} {n₀ n1 B m : Nat} {t e : TypeId} {size : Nat} {v v' : Value} {k k' : Nat} {xs ys : List Value} {tmp : Obj}
    (hv : Boxed W B t v) (hte : t ≠ e) (hrow : W.ownsRow n1 e size v k xs) (hn1 : n1 ≤ W.heap.size) (hB : n₀ ≤ B) (hm : B < m) (hm4 : m + 4 ≤ n1)
    (hown' : w1.ownsRow n1 e size v' k' ys) (hgrow : (W.alloc tmp).grownBy w1 v.ownBlock) :
    Boxed w1 B t v ∧ Boxed (w1.setCell ⟨B, 0, none⟩ v') B t v' ∧ (w1.setCell ⟨B, 0, none⟩ v').ownsRow n1 e size v' k' ys ∧ KeepsOthers W (w1.setCell ⟨B, 0, none⟩ v') ∧ KpH n₀ m W (w1.setCell ⟨B, 0, none⟩ v') := by
  obtain ⟨h1, h2, _, h4, h5⟩ := hv.appended hte (owns_mono hrow (show n₀ ≤ n1 by omega)) (by omega) hB (owns_mono hown' (show n₀ ≤ n1 by omega)) hgrow
  refine ⟨h1, h2, hown'.kept (grownBy_setCell' w1 B v') (.inr (h1.not_row hte hown').symm), h4, h5, fun k hk1 hk2 => ?_⟩
  have hkw : k < W.heap.size := by omega
  have e1 : (w1.setCell ⟨B, 0, none⟩ v').heap[k]? = w1.heap[k]? := Below.heap_setCell _ _ _ k (by simp only; omega)
  have e2 : w1.heap[k]? = (W.alloc tmp).heap[k]? := hgrow.block k (by simp; omega) (fun e => by
    rcases hrow.2 with ⟨rfl, _⟩ | ⟨g, cap, cur, rfl, hg, _⟩
    · simp [Value.ownBlock] at e
    · simp [Value.ownBlock] at e
      omega)
  exact e1.trans (e2.trans (Below.heap_alloc W tmp k hkw))
theorem infoI : (Tryz.prog.info? 3).map (fun i => (i.zero, i.size, i.bytes)) = some (some (.int .i64 0), 1, 8) := by kernel_rfl
section
variable {B g gp : Nat} {wv : Value} {d : Dk} {w wc : World}
theorem hurts_stops (h : DiskB B g gp wv d wc) (f t m : Nat) (ht : t ≤ 100000) (hf : f ≤ t) {w : World} (hm : wc.heap.size ≤ w.heap.size) (hm4 : m + 4 ≤ w.heap.size) (hB : Below wc.heap.size wc w) (hq : HuB (some ⟨g, 0, none⟩) m f t w) :
    SeqStopsK Fence.wide 2 Tryz.prog 107 #[.pointer (some ⟨m + 1, 0, none⟩), .pointer (some ⟨m + 2, 0, none⟩), .pointer (some ⟨m + 3, 0, none⟩)] (fun x : Int => #[Value.int .i64 x]) (KpH wc.heap.size m) (fun xs => xs = hurtsL d f t) (fun pre => pre <+: hurtsL d f t ∧ pre ≠ []) t w :=
  fun l J Jx W hW hJ _ hY h0 => hurts_in h f t m l ht hf J Jx W (Nat.le_trans hm hW.size) (Nat.le_trans hm4 hW.size) (hB.trans (hW.mono hm)) (hq.below hW) hJ hY h0
set_option maxRecDepth 100000 in
set_option maxHeartbeats 1000000 in
theorem hurt_any (h : DiskB B g gp wv d w) : Calls Tryz.prog 11 #[.pointer (some ⟨g, 0, none⟩)] w fun e w' => (∃ a c, e = .returned (.slice a (hurtsL d 0 d.pl.length).length c) ∧ Row w' a ((hurtsL d 0 d.pl.length).map (Value.int .i64))) ∧ Below w.heap.size w w' := by
  obtain ⟨i0, hi, hz0, hz1, hz2⟩ := info_parts infoI
  have hbA := blw w (Obj.cells #[.slice none 0 0] 41)
  have hA := h.below hbA
  have hsz := dsize hA
  have hnl := h.nl
  have hhu := hurts_any (some ⟨g, 0, none⟩) 0 d.pl.length (w.alloc (Obj.cells #[.slice none 0 0] 41))
  simp only [Int.natCast_zero] at hhu
  refine calls_marks Tryz.func11 rfl ?_
  simp only [Tryz.ntmps11, List.size_toArray, List.length_cons, List.length_nil, Nat.reduceAdd, Nat.reduceSub, Array.replicate_succ, Array.replicate_zero, List.push_toArray, List.append_toArray, List.nil_append, List.cons_append]
  have bO := Boxed.new w 41 (.slice none 0 0)
  go_wp2_with (first
    | (go_at_call 46; refine hsz.mono ?_; rintro e w1 ⟨rfl, rfl⟩)
    | (go_at_call 45; refine hhu.mono ?_; rintro e w2 ⟨rfl, hq, hsz2, hb2⟩; have HSZ := Lib.hid hsz2; clear hsz2))
  have bO2 : Boxed w2 w.heap.size 41 (.slice none 0 0) := tr_bl hb2 bO
  rw [World.size_alloc] at hq hb2
  have hz : w.heap.size + 5 ≤ w2.heap.size := by have := HSZ.out; rw [World.size_alloc] at this; omega
  have hB2 : Below w.heap.size w w2 := hbA.trans (hb2.mono (by omega))
  clear hb2 hhu hsz hbA bO HSZ
  refine wp_range (gf := 107) rfl (enters_of Tryz.func107 (by kernel_rfl) rfl) (hurts_stops h 0 d.pl.length (w.heap.size + 1) (by omega) (by omega) hB2.size (by omega) hB2 hq) KpH.trans (KpH.put hB2.size (by omega)) (fun _ => rfl)
    (fun (pre : List Int) W => (∃ v, Boxed W w.heap.size 41 v ∧ W.ownsRow w2.heap.size 3 1 v pre.length (pre.map (Value.int .i64)) ∧ True) ∧ Below w.heap.size w W ∧ w2.heap.size ≤ W.heap.size)
    (fun _ _ _ => False)
    (OwnFrom.and (Own.from (holdsRow_own w2.heap.size w.heap.size 41 3 1 (fun (pre : List Int) => pre.length) (fun (pre : List Int) => pre.map (Value.int .i64)) (fun _ _ => True)) _) (OwnFrom.and (ownFrom_below (Nat.le_refl _) hB2.size) (fun _ _ _ _ hs hg _ => Nat.le_trans hs hg.size)))
    (fun _ _ _ _ _ hs _ _ => hs)
    ⟨⟨_, bO2, World.ownsRow_nil _ _ _ _, trivial⟩, hB2, Nat.le_refl _⟩
    (fun x => { tmps := #[.pointer (some ⟨g, 0, none⟩), undef, .slice none 0 0, .pointer (some ⟨w.heap.size, 0, none⟩), .int .i64 x, .pointer (some ⟨g, 0, none⟩), .pointer (some ⟨g, 0, none⟩), .int .i64 d.pl.length, .func (.func 107) #[] #[.pointer (some ⟨w.heap.size + 1 + 1, 0, none⟩), .pointer (some ⟨w.heap.size + 1 + 2, 0, none⟩), .pointer (some ⟨w.heap.size + 1 + 3, 0, none⟩)], .int .i64 x, undef, undef, undef, undef, undef], defers := [] }) ?assign ?body ?done ?stop
  case assign =>
    intro l x W K hK
    gi_wp2
    exact hK
  case body =>
    rintro l pre x W ⟨⟨v, hv, hrow, _⟩, hB, hsW⟩ hlt
    have hc := hv.cell
    gi_wp2_with (gi_at_builtin; refine wpListIn_append_own _ rfl _ _ 41 rfl w2.heap.size 3 i0 (.int .i64 0) 1 8 Tryz.underlying41 hi hz0 hz1 hz2 rfl (by decide) _ _ _ rfl (hrow.alloc _) ⟨W.heap.size, 0, none⟩ 1 1 [.int .i64 x] rfl rfl (cell_one_new _ _ _) (by simp [Value.oneCell']) (by simp [maxLen]; omega) (by omega) (by simp; omega) ?_; intro v' w1 hown' hgrow _; obtain ⟨g', cap', rfl⟩ := ownsRow_succ hown'; obtain ⟨hv1, hv2, hr2, hk2, hb2⟩ := box_app (n₀ := w.heap.size) (m := w.heap.size + 1) hv (by decide) hrow hsW (Nat.le_refl _) (by omega) (by omega) hown' hgrow; have hc1 := hv1.cell; have hf1 := hv1.frozen)
    exact ⟨hk2.from _, hb2, ⟨_, hv2, by simpa using hr2, trivial⟩, hB.trans hb2.bl, Nat.le_trans hsW hk2.size⟩
  case done =>
    rintro D ys W hD rfl ⟨⟨v, hv, hrow, _⟩, hB, hsW⟩ hK
    have hc := hv.cell
    go_wp2
    refine marks_ret hK (results_tmp rfl _ _ _) ?_
    have hro := ownsRow_putObj hrow (Obj.deferred none) hK rfl
    have hlen : (hurtsL d 0 d.pl.length).length = (hurtsL d 0 d.pl.length).length := rfl
    obtain ⟨a, c, rfl, hR, _⟩ := Row.of_owns hro
    exact ⟨⟨a, c, rfl, hR⟩, below_mark hB (by omega)⟩
  case stop =>
    rintro D c pre W _ _ h _
    exact h.elim
end
end Go.Proofs.YtddddemclhlfaaaGreatDoor
namespace Go.Proofs.YtddddemclhlfaaaGreatDoor
open Go.RowKit
section
variable {B g : Nat} {q : RQ} {d : Dk} {w w' : World}
theorem there_in2 {d : Dk} {s : Nat} (hs : s < d.pl.length) : thereD d (s : Int) = 0 := by
  unfold thereD
  rw [if_neg (by omega), if_neg (by omega)]
set_option maxRecDepth 100000 in
set_option maxHeartbeats 1000000 in
theorem rhurt_any (h : RefB B g q d w) (s : Nat) (hs : s < d.pl.length) : Calls Tryz.prog 47 #[.pointer (some ⟨g, 0, none⟩), .int .i64 (s : Int)] w fun e w' => e = .returned (.bool (hurtB d s)) ∧ Below w.heap.size w w' := by
  obtain ⟨p, hp⟩ : ∃ p, d.pl[s]? = some p := ⟨_, List.getElem?_eq_getElem hs⟩
  have hh := hurt_pl (there_in2 hs) (getD_pl (d := d) (s := s) (by simpa using hp))
  obtain ⟨x, hx, cx⟩ := h.ra_at hs
  obtain ⟨y, hy, cy⟩ := h.ma_at hs
  have hok := h.ok p (List.mem_of_getElem? hp)
  have sx := (h.rs s x p hx hp).slb hok.1
  have sy := (h.ms s y p hy hp).slb hok.2
  have c0 := under_cell h.c0
  have c1 := under_cell h.c1
  have c2 := under_cell h.c2
  have ex := under_cell (h.lo_at hp)
  unfold slv at cx cy
  have ux := under_cell cx
  have uy := under_cell cy
  have rx := under_row sx.row
  have ry := under_row sy.row
  have hsm : ∀ z, Calls Tryz.prog 19 #[.slice (some ⟨x.1, 0, none⟩) 64 x.2, .slice (some ⟨y.1, 0, none⟩) 64 y.2] (Under w z) fun e w' => e = .returned (.bool (decide (p.rest = p.meant))) ∧ Below (Under w z).heap.size (Under w z) w' := fun z => by
    have := rsame_any (some ⟨x.1, 0, none⟩) (some ⟨y.1, 0, none⟩) x.2 y.2 p.rest p.meant (Under w z) (rx z) (ry z) (by omega)
    rw [hok.1, hok.2] at this
    exact this
  rw [hh]
  clear hh hx hy cx cy sx sy hok hp
  obtain ⟨eq, heq⟩ : ∃ b, decide (p.rest = p.meant) = b := ⟨_, rfl⟩
  rw [heq] at hsm
  rw [heq]
  clear heq rx ry
  generalize p.lost = lo at *
  go_enter Tryz.func47, Tryz.ntmps47
  refine wp_seq_k (fun K hK => ?_)
  have HK := Lib.hid hK
  clear hK
  go_wp2
  refine HK.out _ _ ?_
  clear HK
  go_wp2_with fail
  cases lo
  · skip
    refine wp_region_under (by kernel_rfl) (by kernel_rfl) ?_
    repeat (first | go_big_quiet_step ((go_at_call 19; exact under_call (hsm _))) | ((with_reducible refine wpQuiet_skip ?_ ?_) ; (focus rfl); (try simp only [Act.put]); (try simp only [List.setIfInBounds_toArray]); (try simp only [List.set_cons_succ]); (try simp only [List.set_cons_zero])))
    refine wpQuiet_nil ?_
    intro _ hw'
    obtain ⟨xU, hw''⟩ := hw'
    subst hw''
    have hbU := under_below w xU
    go_wp2
    go_ret
    exact ⟨rfl, hbU⟩
  · skip
    refine wp_region_under (by kernel_rfl) (by kernel_rfl) ?_
    repeat (first | go_big_quiet_step ((go_at_call 19; exact under_call (hsm _))) | ((with_reducible refine wpQuiet_skip ?_ ?_) ; (focus rfl); (try simp only [Act.put]); (try simp only [List.setIfInBounds_toArray]); (try simp only [List.set_cons_succ]); (try simp only [List.set_cons_zero])))
    refine wpQuiet_nil ?_
    intro _ hw'
    obtain ⟨xU, hw''⟩ := hw'
    subst hw''
    have hbU := under_below w xU
    go_wp2
    go_ret
    exact ⟨rfl, hbU⟩
theorem elIntR : ElemT Tryz.prog 41 3 1 8 := ElemT.of (.int .i64 0) Tryz.underlying41 (by kernel_rfl) rfl (by decide)
set_option maxRecDepth 100000 in
set_option maxHeartbeats 1000000 in
theorem rhurts_any (h : RefB B g q d w) : Calls Tryz.prog 12 #[.pointer (some ⟨g, 0, none⟩)] w fun e w' => (∃ a c, e = .returned (.slice a (hurtsL d 0 d.pl.length).length c) ∧ Row w' a ((hurtsL d 0 d.pl.length).map (Value.int .i64))) ∧ Below w.heap.size w w' := by
  have hnl := h.nl
  have c0 := h.c0
  go_enter Tryz.func12, Tryz.ntmps12
  refine wp_seq_k (fun K hK => ?_)
  have HK := Lib.hid hK
  clear hK
  go_wp2
  refine HK.out _ _ ?_
  clear HK
  refine wp_seq_k (fun K hK => ?_)
  have HK := Lib.hid hK
  clear hK
  go_wp2
  refine HK.out _ _ ?_
  clear HK
  refine wp_seq_k (fun K hK => ?_)
  go_cut [3] (fun v wx => wx.ownsRow w.heap.size 3 1 v (hurtsL d 0 d.pl.length).length ((hurtsL d 0 d.pl.length).map (Value.int .i64)) ∧ Below w.heap.size w wx)
  case first =>
    go_wp2
    go_loopw [3, 4] (fun v t wr => ∃ k : Nat, k ≤ d.pl.length ∧ t = .int .i64 (k : Int) ∧ wr.ownsRow w.heap.size 3 1 v (hurtsL d 0 k).length ((hurtsL d 0 k).map (Value.int .i64)) ∧ Below w.heap.size w wr) (fun _ t _ => d.pl.length - (intOf t).toNat)
    case atStart => exact ⟨0, by omega, rfl, World.ownsRow_nil _ _ _ _, Below.refl _ _⟩
    case round =>
      obtain ⟨k, hk, rfl, hO, hbr⟩ := hrel
      have hd := h.below hbr
      have e0 := hd.c0
      by_cases hlt : k < d.pl.length
      case neg =>
        obtain rfl : k = d.pl.length := by omega
        go_wp2
        go_meet
        exact ⟨hO, hbr⟩
      case pos =>
        have hh := rhurt_any hd k hlt
        have hyes := fun hb => hurtsL_yes (d := d) (f := 0) (t := k) (by omega) hb
        have hno := fun hb => hurtsL_no (d := d) (f := 0) (t := k) (by omega) hb
        have hll := hurtsL_len d 0 k
        obtain ⟨hb, hbe⟩ : ∃ b, hurtB d k = b := ⟨_, rfl⟩
        rw [hbe] at hh hyes hno
        have HY := Lib.hid hyes
        have HN := Lib.hid hno
        obtain ⟨L, hL⟩ : ∃ L, hurtsL d 0 k = L := ⟨_, rfl⟩
        rw [hL] at hO hll HY HN
        clear hbe hyes hno hL hd
        cases hb
        · go_wp2_with (go_at_call 47; refine hh.mono ?_; rintro e w3 ⟨rfl, hb3⟩)
          go_roundw
          case rel => exact ⟨k + 1, by omega, by go_num, by rw [HN.out trivial]; exact owns_bl hO hb3, hbr.trans (hb3.mono hbr.size)⟩
          case measure => simp [intOf]; omega
        · go_wp2_with (first
            | (go_at_call 47; refine hh.mono ?_; rintro e w3 ⟨rfl, hb3⟩; have hO3 := owns_bl hO hb3; have hbr3 := hbr.trans (hb3.mono hbr.size))
            | (at_builtin; refine wpList_append1 rfl _ _ 41 3 elIntR rfl w.heap.size _ L.length _ rfl hO3 #[.int .i64 (k : Int)] rfl (by simp [Value.oneCell']) 3 rfl (by omega) (by decide) hbr3.size ?_; intro v' w' hO' hb' _))
          go_roundw
          case rel => exact ⟨k + 1, by omega, by go_num, by rw [HY.out trivial, List.length_append, List.map_append]; exact hO', hbr3.trans hb'⟩
          case measure => simp [intOf]; omega
  obtain ⟨hO, hbc⟩ := hcut
  refine hK _ _ ?_
  clear hK c0
  go_wp2
  go_ret
  have hlen : (hurtsL d 0 d.pl.length).length = ((hurtsL d 0 d.pl.length).map (Value.int .i64)).length := by simp
  obtain ⟨a, c, rfl, hr, _⟩ := Row.of_owns hO
  exact ⟨⟨a, c, rfl, hr⟩, hbc⟩
set_option maxRecDepth 100000 in
theorem rasked_any (h : RefB B g q d w) (rep reg pla : Int) : Calls Tryz.prog 51 #[.pointer (some ⟨g, 0, none⟩), .int .i64 rep, .int .i64 reg, .int .i64 pla] w fun e w' => e = .returned (.bool (decide (askG d rep reg pla = 0))) ∧ w = w' := by
  have hn := h.n0
  have c0 := h.c0
  have hf := rfirst3_any reg pla w
  have hv : decide (askG d rep reg pla = 0) = (decide (156 ≤ d.pl.length) && (decide (0 ≤ rep) && (decide (rep ≤ 6) && decide (0 ≤ firstN reg pla)))) := by
    unfold askG askN
    rw [if_neg (by omega)]
    by_cases h1 : d.pl.length < 156 ∨ rep < 0 ∨ 7 ≤ rep ∨ firstN reg pla < 0
    · rw [if_pos h1]
      symm
      by_cases a1 : 156 ≤ d.pl.length
      · by_cases a2 : 0 ≤ rep
        · by_cases a3 : rep ≤ 6
          · have a4 : ¬ 0 ≤ firstN reg pla := by omega
            simp [a4]
          · simp [a3]
        · simp [a2]
      · simp [a1]
    · rw [if_neg h1]
      have a1 : 156 ≤ d.pl.length := by omega
      have a2 : 0 ≤ rep := by omega
      have a3 : rep ≤ 6 := by omega
      have a4 : 0 ≤ firstN reg pla := by omega
      simp [a1, a2, a3, a4]
  rw [hv]
  clear hv
  generalize firstN reg pla = f at *
  by_cases a1 : 156 ≤ d.pl.length
  · by_cases a2 : 0 ≤ rep
    · by_cases a3 : rep ≤ 6
      · rw [decide_eq_true a1, decide_eq_true a2, decide_eq_true a3]
        go_enter Tryz.func51, Tryz.ntmps51
        go_wp2_with (go_at_call 52; refine hf.mono ?_; rintro e w2 ⟨rfl, rfl⟩)
        go_ret
        exact ⟨rfl, rfl⟩
      · rw [decide_eq_true a1, decide_eq_true a2, decide_eq_false a3]
        go_enter Tryz.func51, Tryz.ntmps51
        go_wp2
        go_ret
        exact ⟨rfl, rfl⟩
    · rw [decide_eq_true a1, decide_eq_false a2]
      go_enter Tryz.func51, Tryz.ntmps51
      go_wp2
      go_ret
      exact ⟨rfl, rfl⟩
  · rw [decide_eq_false a1]
    go_enter Tryz.func51, Tryz.ntmps51
    go_wp2
    go_ret
    exact ⟨rfl, rfl⟩
end
end Go.Proofs.YtddddemclhlfaaaGreatDoor
namespace Go.Proofs.YtddddemclhlfaaaGreatDoor
open Go.RowKit
set_option maxRecDepth 100000 in
theorem asked_any (p : Value) (n : Nat) (w : World) (h : DiskN w p n) (rep reg pla : Int) : Calls Tryz.prog 48 #[p, .int .i64 rep, .int .i64 reg, .int .i64 pla] w fun e w' => e = .returned (.int .i64 (askN n rep reg pla)) ∧ Below w.heap.size w w' := by
  have hsz := size_any p n w h
  have hf := first_any reg pla
  unfold askN
  generalize firstN reg pla = x at *
  by_cases h0 : n = 0
  · subst h0
    rw [if_pos rfl]
    go_enter Tryz.func48, Tryz.ntmps48
    go_wp2_with (first
      | (go_at_call 46; refine hsz.mono ?_; rintro e w1 ⟨rfl, rfl⟩)
      | (go_at_call 108; refine (all_any _).mono ?_; rintro e w2 ⟨rfl, hb2⟩)
      | (go_at_call 42; refine (hf _).mono ?_; rintro e w3 ⟨rfl, hb3⟩))
    go_ret
    exact ⟨rfl, Below.refl _ _⟩
  · rw [if_neg h0]
    have e0 : ((n : Int) == 0) = false := by rw [beq_eq_false_iff_ne]; omega
    by_cases h1 : n < 156
    · rw [if_pos (.inl h1)]
      have i1 : (n : Int) < 156 := by omega
      clear h0 h1
      go_enter Tryz.func48, Tryz.ntmps48
      go_wp2_with (first
        | (go_at_call 46; refine hsz.mono ?_; rintro e w1 ⟨rfl, rfl⟩)
        | (go_at_call 108; refine (all_any _).mono ?_; rintro e w2 ⟨rfl, hb2⟩)
        | (go_at_call 42; refine (hf _).mono ?_; rintro e w3 ⟨rfl, hb3⟩))
      go_ret
      exact ⟨rfl, hb2⟩
    · have i1 : ¬ (n : Int) < 156 := by omega
      by_cases h2 : rep < 0
      · rw [if_pos (.inr (.inl h2))]
        clear h0 h1
        go_enter Tryz.func48, Tryz.ntmps48
        go_wp2_with (first
          | (go_at_call 46; refine hsz.mono ?_; rintro e w1 ⟨rfl, rfl⟩)
          | (go_at_call 108; refine (all_any _).mono ?_; rintro e w2 ⟨rfl, hb2⟩)
          | (go_at_call 42; refine (hf _).mono ?_; rintro e w3 ⟨rfl, hb3⟩))
        go_ret
        exact ⟨rfl, hb2⟩
      · by_cases h3 : 7 ≤ rep
        · rw [if_pos (.inr (.inr (.inl h3)))]
          clear h0 h1
          go_enter Tryz.func48, Tryz.ntmps48
          go_wp2_with (first
            | (go_at_call 46; refine hsz.mono ?_; rintro e w1 ⟨rfl, rfl⟩)
            | (go_at_call 108; refine (all_any _).mono ?_; rintro e w2 ⟨rfl, hb2⟩)
            | (go_at_call 42; refine (hf _).mono ?_; rintro e w3 ⟨rfl, hb3⟩))
          go_ret
          exact ⟨rfl, hb2⟩
        · by_cases h4 : x < 0
          · rw [if_pos (.inr (.inr (.inr h4)))]
            clear h0 h1
            have hf := fun w => hf w
            go_enter Tryz.func48, Tryz.ntmps48
            go_wp2_with (first
              | (go_at_call 46; refine hsz.mono ?_; rintro e w1 ⟨rfl, rfl⟩)
              | (go_at_call 108; refine (all_any _).mono ?_; rintro e w2 ⟨rfl, hb2⟩)
              | (go_at_call 42; refine (hf _).mono ?_; rintro e w3 ⟨rfl, hb3⟩))
            go_ret
            exact ⟨rfl, hb2.trans (hb3.mono hb2.size)⟩
          · rw [if_neg (by omega)]
            clear h0 h1
            go_enter Tryz.func48, Tryz.ntmps48
            go_wp2_with (first
              | (go_at_call 46; refine hsz.mono ?_; rintro e w1 ⟨rfl, rfl⟩)
              | (go_at_call 108; refine (all_any _).mono ?_; rintro e w2 ⟨rfl, hb2⟩)
              | (go_at_call 42; refine (hf _).mono ?_; rintro e w3 ⟨rfl, hb3⟩))
            go_ret
            exact ⟨rfl, hb2.trans (hb3.mono hb2.size)⟩
end Go.Proofs.YtddddemclhlfaaaGreatDoor
namespace Go.Proofs.YtddddemclhlfaaaGreatDoor
open Go.RowKit Go.Shelf
attribute [local go_sem] Oper.semAt_some
theorem DiskB.dn {B g gp : Nat} {wv : Value} {d : Dk} {w : World} (h : DiskB B g gp wv d w) : DiskN w (.pointer (some ⟨g, 0, none⟩)) d.pl.length := .inr ⟨g, _, _, rfl, h.c0⟩
theorem tg_new (t : Tg) : (tgV t).cells = #[.int .i64 t.rep, .int .i64 t.reg, .int .i64 t.pla, .int .i64 t.idx, .int .i64 t.inc] ∧ (#[Value.int .i64 t.rep, .int .i64 t.reg, .int .i64 t.pla, .int .i64 t.idx, .int .i64 t.inc]).size = 5 ∧ ∀ u ∈ (#[Value.int .i64 t.rep, .int .i64 t.reg, .int .i64 t.pla, .int .i64 t.idx, .int .i64 t.inc]).toList, u.oneCell' = true := ⟨rfl, rfl, by simp [Value.oneCell']⟩
theorem restD_len {B g gp : Nat} {wv : Value} {d : Dk} {w : World} (h : DiskB B g gp wv d w) (s : Int) : (restD d s).1.length ≤ 64 := by
  unfold restD
  split
  · simp
  · rename_i h0
    split
    · simp
    · obtain ⟨p, _, h2, h3⟩ := there_pl (d := d) (s := s) (by simpa using h0)
      rw [h2]
      have := (h.ok p h3).1
      simp only
      omega
theorem allR_len {B g gp : Nat} {wv : Value} {d : Dk} {w : World} (h : DiskB B g gp wv d w) (a n : Nat) : (allR d a n).length ≤ 64 * n := by
  induction n with
  | zero => simp [allR, allG]
  | succ n ih =>
    unfold allR at ih ⊢
    rw [allG_succ, List.length_append]
    have := restD_len h ((a + n : Nat) : Int)
    (try simp only)
    omega
set_option maxRecDepth 100000 in
theorem place_err (p : Value) (n : Nat) (w : World) (h : DiskN w p n) (rep reg pla : Int) (ha : askN n rep reg pla ≠ 0) : Calls Tryz.prog 13 #[p, .int .i64 rep, .int .i64 reg, .int .i64 pla] w fun e w' => e = .returned (.tuple #[.bool false, .bool false, .int .i64 (askN n rep reg pla)]) ∧ Below w.heap.size w w' := by
  have hk := asked_any p n w h rep reg pla
  generalize askN n rep reg pla = x at *
  have e0 : (x != 0) = true := by rw [bne_iff_ne]; exact ha
  refine calls_marks Tryz.func13 rfl ?_
  simp only [Tryz.ntmps13, List.size_toArray, List.length_cons, List.length_nil, Nat.reduceAdd, Nat.reduceSub, Array.replicate_succ, Array.replicate_zero, List.push_toArray, List.append_toArray, List.nil_append, List.cons_append]
  go_wp2_with (go_at_call 48; refine hk.mono ?_; rintro e w1 ⟨rfl, hb1⟩)
  refine marks_end (results_tmp3 rfl _ _ _) ?_
  exact ⟨rfl, hb1⟩
set_option maxRecDepth 100000 in
set_option maxHeartbeats 2000000 in
theorem place_ok {B g gp : Nat} {wv : Value} {d : Dk} {w : World} (h : DiskB B g gp wv d w) (rep reg pla : Int) (ha : askG d rep reg pla = 0) : Calls Tryz.prog 13 #[.pointer (some ⟨g, 0, none⟩), .int .i64 rep, .int .i64 reg, .int .i64 pla] w fun e w' => e = .returned (.tuple #[.bool (placeG d rep reg pla).1, .bool (placeG d rep reg pla).2.1, .int .i64 (placeG d rep reg pla).2.2]) ∧ Below w.heap.size w w' := by
  have hfa := ask_first ha
  have hk := asked_any _ _ w h.dn rep reg pla
  have hfi := first_any reg pla
  have hwi := wide_any reg
  unfold placeG
  rw [if_neg (by simpa using ha)]
  unfold askG at ha
  rw [ha] at hk
  obtain ⟨f, hf⟩ : ∃ f : Nat, firstN reg pla = f := ⟨(firstN reg pla).toNat, by omega⟩
  obtain ⟨n, hn⟩ : ∃ n : Nat, wideN reg = n := ⟨(wideN reg).toNat, by omega⟩
  rw [hf] at hfi hfa ⊢
  rw [hn] at hwi hfa ⊢
  simp only [Int.toNat_natCast]
  obtain ⟨_, hp1, hp2, _, _, _, _, _, hfn, hn1, hn2⟩ := hfa
  have hfn' : f + n ≤ 156 := by omega
  have hn2' : n ≤ 2 := by omega
  clear ha hf hn hfn hn2
  obtain ⟨st, tg, body, hr⟩ : ∃ st tg body, mineF (allR d f n) rep reg pla = (st, tg, body) := ⟨_, _, _, rfl⟩
  obtain ⟨go, hgo⟩ : ∃ go, goneG d f n = go := ⟨_, rfl⟩
  simp only [hr, hgo]
  have HR := Lib.hid hr
  have HGO := Lib.hid hgo
  clear hr hgo
  by_cases hL : hurtsL d f (f + n) = []
  case pos =>
    have hH : isHurt d f n = false := by unfold isHurt; rw [hL]; rfl
    rw [hH, Bool.false_and]
    clear hH
    refine calls_marks Tryz.func13 rfl ?_
    simp only [Tryz.ntmps13, List.size_toArray, List.length_cons, List.length_nil, Nat.reduceAdd, Nat.reduceSub, Array.replicate_succ, Array.replicate_zero, List.push_toArray, List.append_toArray, List.nil_append, List.cons_append]
    refine wp_seq_k (fun K hK => ?_)
    have HK := Lib.hid hK
    clear hK
    go_wp2
    refine HK.out _ _ ?_
    clear HK
    refine wp_seq_k (fun K hK => ?_)
    have HK := Lib.hid hK
    clear hK
    go_wp2_with (go_at_call 48; refine hk.mono ?_; rintro e w1 ⟨rfl, hb1⟩)
    refine HK.out _ _ ?_
    clear HK
    refine wp_seq_k (fun K hK => ?_)
    have HK := Lib.hid hK
    clear hK
    go_wp2_with (go_at_call 42; refine (hfi _).mono ?_; rintro e w2 ⟨rfl, hb2⟩)
    refine HK.out _ _ ?_
    clear HK
    refine wp_seq_k (fun K hK => ?_)
    have HK := Lib.hid hK
    clear hK
    go_wp2_with (go_at_call 49; refine (hwi _).mono ?_; rintro e w3 ⟨rfl, hb3⟩)
    refine HK.out _ _ ?_
    clear HK
    have hb4 := hb1.trans ((hb2.trans (hb3.mono hb2.size)).mono hb1.size)
    clear hb1 hb2 hb3 hk hfi hwi
    refine wp_seq_k (fun K hK => ?_)
    have HK := Lib.hid hK
    clear hK
    go_wp2
    refine HK.out _ _ ?_
    clear HK
    have hb5 := hb4.alloc hb4.size (Obj.cells #[.bool false] 4)
    have bH := Boxed.new w3 4 (.bool false)
    have hq1 := hb4.size
    have hq2 : w3.heap.size < (w3.alloc (Obj.cells #[.bool false] 4)).heap.size := by simp
    clear hb4
    generalize w3.alloc (Obj.cells #[.bool false] 4) = w5 at *
    generalize w3.heap.size = q at *
    have hhu := hurts_any (some ⟨g, 0, none⟩) f (f + n) w5
    simp only [Int.natCast_add] at hhu
    refine wp_seq_k (fun K hK => ?_)
    have HK := Lib.hid hK
    clear hK
    go_wp2_with (go_at_call 45; refine hhu.mono ?_; rintro e w6 ⟨rfl, hq, hsz2, hb6⟩; have HSZ := Lib.hid hsz2; clear hsz2)
    have bH6 : Boxed w6 q 4 (.bool false) := tr_bl hb6 bH
    have hz : w5.heap.size + 4 ≤ w6.heap.size := by have := HSZ.out; omega
    have hB6 : Below w.heap.size w w6 := hb5.trans (hb6.mono hb5.size)
    clear hb6 hhu hb5 bH HSZ
    have hz5 := hB6.size
    refine wp_range_skip (gf := 107) rfl (enters_of Tryz.func107 (by kernel_rfl) rfl) (hurts_stops h f (f + n) w5.heap.size (by omega) (by omega) hB6.size (by omega) hB6 hq) KpH.trans (KpH.put hB6.size (by omega)) (fun _ => rfl)
      (fun (pre : List Int) W => pre = [] ∧ Boxed W q 4 (.bool false) ∧ Below w.heap.size w W ∧ w6.heap.size ≤ W.heap.size)
      (fun c _ W => c = .exit 0 ∧ Boxed W q 4 (.bool true) ∧ Below w.heap.size w W ∧ w6.heap.size ≤ W.heap.size)
      ?_ ?_ ⟨rfl, bH6, hB6, Nat.le_refl _⟩ ?_ ?_ ?_
    · exact fun _ _ _ _ hs hg hr => ⟨hs.1, hs.2.1.kept hg (fun e => by have := (hr _ e.symm).1; omega), hs.2.2.1.grown hg (by omega) (fun k e => by have := (hr k e).1; omega), Nat.le_trans hs.2.2.2 hg.size⟩
    · exact fun _ _ _ _ _ hs hg hr => ⟨hs.1, hs.2.1.kept hg (fun e => by have := (hr _ e.symm).1; omega), hs.2.2.1.grown hg (by omega) (fun k e => by have := (hr k e).1; omega), Nat.le_trans hs.2.2.2 hg.size⟩
    · rintro l pre x W ⟨rfl, hbx, hB, hsW⟩ _
      have hc := hbx.cell
      have hf := hbx.frozen
      gi_wp2
      exact ⟨(KeepsOthers.setCell _ _ _).from _, rfl, hbx.set _, hB.setCell (p := ⟨q, 0, none⟩) hq1 _, by simpa [World.setCell] using hsW⟩
    · rintro D xs W hD rfl ⟨_, hbx, hB, hsW⟩ hK
      (try simp only [Exit.inBlock]); (try simp only [Exit.then])
      refine HK.out _ _ ?_
      clear HK
      have hdW := h.below hB
      have hcW := hbx.cell
      refine wp_seq_k (fun K hK => ?_)
      have HK := Lib.hid hK
      clear hK
      go_wp2
      refine HK.out _ _ ?_
      clear HK
      refine wp_seq_k (fun K hK => ?_)
      have HK := Lib.hid hK
      clear hK
      go_wp2
      go_loopw [17, 16, 15, 18, 19, 20] (fun s all gn _ _ _ wr => ∃ (j : Nat) (v : Value), j ≤ n ∧ s = .int .i64 ((f : Int) + (j : Int)) ∧ all = v ∧ wr.ownsRow W.heap.size 5 1 v (allR d f j).length (bys (allR d f j)) ∧ gn = .bool (goneG d f j) ∧ Below W.heap.size W wr) (fun s _ _ _ _ _ _ => f + n - (intOf s).toNat)
      case atStart => exact ⟨0, _, by omega, by simp, rfl, World.ownsRow_nil _ _ _ _, rfl, Below.refl _ _⟩
      case round =>
        obtain ⟨j, v, hj, rfl, rfl, hown, rfl, hbr⟩ := hrel
        have hdr := hdW.below hbr
        by_cases hlt : j < n
        case pos =>
          have hil : (f : Int) + (j : Int) < (f : Int) + (n : Int) := by omega
          have hre := rest_sl hdr ((f + j : Nat) : Int)
          have hle := allR_len h f j
          have hrl := restD_len h ((f + j : Nat) : Int)
          have hsn := allG_succ (fun s => (restD d s).1) f j
          have hgs := goneG_succ d f j
          change allR d f (j + 1) = allR d f j ++ _ at hsn
          (try simp only at hsn)
          simp only [Int.natCast_add] at hre hrl hsn hgs
          generalize restD d ((f : Int) + (j : Int)) = r at *
          obtain ⟨rl, lost, er⟩ := r
          (try simp only at hre)
          (try simp only at hrl)
          (try simp only at hsn)
          (try simp only at hgs)
          have HSN := Lib.hid hsn
          have HGS := Lib.hid hgs
          clear hsn hgs
          generalize hal : allR d f j = al at *
          generalize hgo : goneG d f j = go at *
          clear hal hgo
          cases go
          all_goals
            go_wp2_with (first
              | (go_at_call 34; refine hre.mono ?_; rintro e w8 ⟨⟨a8, c8, rfl, s8⟩, hb8⟩; have ho8 := owns_bl hown hb8; have hb9 := hbr.trans (hb8.mono hbr.size); have hr8 := s8.row)
              | (at_builtin; refine wpList_append_row rfl _ _ 34 5 elByte rfl W.heap.size _ al.length (bys al) rfl ho8 a8 rl.length c8 (bys rl) rfl (by rw [bys_len]; omega) hr8 bys_one (by omega) (by decide) hb9.size ?_; intro v9 w9 ho9 hb10))
            rw [← bys_app] at ho9
            go_roundw
            case rel => exact ⟨j + 1, v9, by omega, by simp; omega, rfl, by rw [HSN.out, List.length_append]; exact ho9, by rw [HGS.out]; simp, hb9.trans hb10⟩
            case measure => simp [intOf]; omega
        case neg =>
          obtain rfl : j = n := by omega
          obtain ⟨a9, c9, rfl, s9⟩ := SlB.of_owns hown
          have hmi := mine_any a9 c9 (allR d f j) rep reg pla wr s9 (by have := allR_len h f j; omega)
          rw [HR.out] at hmi
          have hcr := cell_later hbr hcW
          have hKr := tr_bl hbr hK
          rw [HGO.out]
          go_wp2
          refine HK.out _ _ ?_
          clear HK
          refine wp_seq_k (fun K hK => ?_)
          have HK := Lib.hid hK
          clear hK
          go_wp2_with (first
                | (go_at_call 50; refine hmi.mono ?_; rintro e w8 ⟨⟨a8, c8, rfl, ho8⟩, hb8⟩)
                | ((first | (with_reducible refine wpList_stNew 33 _ _ ?_) | (with_reducible refine wp_stNew 33 _ _ ?_)); refine ⟨_, _, ⟨Tryz.sizeOf33, rfl, tg_new _⟩, rfl, ?_⟩))
          refine HK.out _ _ ?_
          clear HK
          have hb9 := hb8.alloc hb8.size (Obj.cells #[.int .i64 tg.rep, .int .i64 tg.reg, .int .i64 tg.pla, .int .i64 tg.idx, .int .i64 tg.inc] 33)
          have hcx := cell_later hb9 hcr
          have hKx := tr_bl hb9 hKr
          have hbx := hB.trans ((hbr.trans (hb9.mono hbr.size)).mono hB.size)
          generalize w8.alloc (Obj.cells #[.int .i64 tg.rep, .int .i64 tg.reg, .int .i64 tg.pla, .int .i64 tg.idx, .int .i64 tg.inc] 33) = w9 at *
          go_wp2
          refine marks_ret hKx (results_tmp3 rfl _ _ _) ?_
          exact ⟨rfl, below_mark hbx (by omega)⟩
    · rintro D c pre W hD ⟨hp, hne⟩ _ _
      rw [hL] at hp
      exact absurd (List.prefix_nil.1 hp) hne
  case neg =>
    have hH : isHurt d f n = true := by
      unfold isHurt
      cases hh : hurtsL d f (f + n)
      · exact absurd hh hL
      · rfl
    rw [hH, Bool.true_and]
    clear hH
    cases go
    case true =>
      rw [Bool.true_or]
      refine calls_marks Tryz.func13 rfl ?_
      simp only [Tryz.ntmps13, List.size_toArray, List.length_cons, List.length_nil, Nat.reduceAdd, Nat.reduceSub, Array.replicate_succ, Array.replicate_zero, List.push_toArray, List.append_toArray, List.nil_append, List.cons_append]
      refine wp_seq_k (fun K hK => ?_)
      have HK := Lib.hid hK
      clear hK
      go_wp2
      refine HK.out _ _ ?_
      clear HK
      refine wp_seq_k (fun K hK => ?_)
      have HK := Lib.hid hK
      clear hK
      go_wp2_with (go_at_call 48; refine hk.mono ?_; rintro e w1 ⟨rfl, hb1⟩)
      refine HK.out _ _ ?_
      clear HK
      refine wp_seq_k (fun K hK => ?_)
      have HK := Lib.hid hK
      clear hK
      go_wp2_with (go_at_call 42; refine (hfi _).mono ?_; rintro e w2 ⟨rfl, hb2⟩)
      refine HK.out _ _ ?_
      clear HK
      refine wp_seq_k (fun K hK => ?_)
      have HK := Lib.hid hK
      clear hK
      go_wp2_with (go_at_call 49; refine (hwi _).mono ?_; rintro e w3 ⟨rfl, hb3⟩)
      refine HK.out _ _ ?_
      clear HK
      have hb4 := hb1.trans ((hb2.trans (hb3.mono hb2.size)).mono hb1.size)
      clear hb1 hb2 hb3 hk hfi hwi
      refine wp_seq_k (fun K hK => ?_)
      have HK := Lib.hid hK
      clear hK
      go_wp2
      refine HK.out _ _ ?_
      clear HK
      have hb5 := hb4.alloc hb4.size (Obj.cells #[.bool false] 4)
      have bH := Boxed.new w3 4 (.bool false)
      have hq1 := hb4.size
      have hq2 : w3.heap.size < (w3.alloc (Obj.cells #[.bool false] 4)).heap.size := by simp
      clear hb4
      generalize w3.alloc (Obj.cells #[.bool false] 4) = w5 at *
      generalize w3.heap.size = q at *
      have hhu := hurts_any (some ⟨g, 0, none⟩) f (f + n) w5
      simp only [Int.natCast_add] at hhu
      refine wp_seq_k (fun K hK => ?_)
      have HK := Lib.hid hK
      clear hK
      go_wp2_with (go_at_call 45; refine hhu.mono ?_; rintro e w6 ⟨rfl, hq, hsz2, hb6⟩; have HSZ := Lib.hid hsz2; clear hsz2)
      have bH6 : Boxed w6 q 4 (.bool false) := tr_bl hb6 bH
      have hz : w5.heap.size + 4 ≤ w6.heap.size := by have := HSZ.out; omega
      have hB6 : Below w.heap.size w w6 := hb5.trans (hb6.mono hb5.size)
      clear hb6 hhu hb5 bH HSZ
      have hz5 := hB6.size
      refine wp_range_skip (gf := 107) rfl (enters_of Tryz.func107 (by kernel_rfl) rfl) (hurts_stops h f (f + n) w5.heap.size (by omega) (by omega) hB6.size (by omega) hB6 hq) KpH.trans (KpH.put hB6.size (by omega)) (fun _ => rfl)
        (fun (pre : List Int) W => pre = [] ∧ Boxed W q 4 (.bool false) ∧ Below w.heap.size w W ∧ w6.heap.size ≤ W.heap.size)
        (fun c _ W => c = .exit 0 ∧ Boxed W q 4 (.bool true) ∧ Below w.heap.size w W ∧ w6.heap.size ≤ W.heap.size)
        ?_ ?_ ⟨rfl, bH6, hB6, Nat.le_refl _⟩ ?_ ?_ ?_
      · exact fun _ _ _ _ hs hg hr => ⟨hs.1, hs.2.1.kept hg (fun e => by have := (hr _ e.symm).1; omega), hs.2.2.1.grown hg (by omega) (fun k e => by have := (hr k e).1; omega), Nat.le_trans hs.2.2.2 hg.size⟩
      · exact fun _ _ _ _ _ hs hg hr => ⟨hs.1, hs.2.1.kept hg (fun e => by have := (hr _ e.symm).1; omega), hs.2.2.1.grown hg (by omega) (fun k e => by have := (hr k e).1; omega), Nat.le_trans hs.2.2.2 hg.size⟩
      · rintro l pre x W ⟨rfl, hbx, hB, hsW⟩ _
        have hc := hbx.cell
        have hf := hbx.frozen
        gi_wp2
        exact ⟨(KeepsOthers.setCell _ _ _).from _, rfl, hbx.set _, hB.setCell (p := ⟨q, 0, none⟩) hq1 _, by simpa [World.setCell] using hsW⟩
      · rintro D xs W hD rfl ⟨hn0, _⟩ _
        exact absurd hn0 hL
      · rintro D c pre W hD ⟨hp, hne⟩ ⟨rfl, hbx, hB, hsW⟩ hK
        go_wp2
        (try simp only [Exit.inBlock]); (try simp only [Exit.then])
        refine HK.out _ _ ?_
        clear HK
        have hdW := h.below hB
        have hcW := hbx.cell
        refine wp_seq_k (fun K hK => ?_)
        have HK := Lib.hid hK
        clear hK
        go_wp2
        refine HK.out _ _ ?_
        clear HK
        refine wp_seq_k (fun K hK => ?_)
        have HK := Lib.hid hK
        clear hK
        go_wp2
        go_loopw [17, 16, 15, 18, 19, 20] (fun s all gn _ _ _ wr => ∃ (j : Nat) (v : Value), j ≤ n ∧ s = .int .i64 ((f : Int) + (j : Int)) ∧ all = v ∧ wr.ownsRow W.heap.size 5 1 v (allR d f j).length (bys (allR d f j)) ∧ gn = .bool (goneG d f j) ∧ Below W.heap.size W wr) (fun s _ _ _ _ _ _ => f + n - (intOf s).toNat)
        case atStart => exact ⟨0, _, by omega, by simp, rfl, World.ownsRow_nil _ _ _ _, rfl, Below.refl _ _⟩
        case round =>
          obtain ⟨j, v, hj, rfl, rfl, hown, rfl, hbr⟩ := hrel
          have hdr := hdW.below hbr
          by_cases hlt : j < n
          case pos =>
            have hil : (f : Int) + (j : Int) < (f : Int) + (n : Int) := by omega
            have hre := rest_sl hdr ((f + j : Nat) : Int)
            have hle := allR_len h f j
            have hrl := restD_len h ((f + j : Nat) : Int)
            have hsn := allG_succ (fun s => (restD d s).1) f j
            have hgs := goneG_succ d f j
            change allR d f (j + 1) = allR d f j ++ _ at hsn
            (try simp only at hsn)
            simp only [Int.natCast_add] at hre hrl hsn hgs
            generalize restD d ((f : Int) + (j : Int)) = r at *
            obtain ⟨rl, lost, er⟩ := r
            (try simp only at hre)
            (try simp only at hrl)
            (try simp only at hsn)
            (try simp only at hgs)
            have HSN := Lib.hid hsn
            have HGS := Lib.hid hgs
            clear hsn hgs
            generalize hal : allR d f j = al at *
            generalize hgo : goneG d f j = go at *
            clear hal hgo
            cases go
            all_goals
              go_wp2_with (first
                | (go_at_call 34; refine hre.mono ?_; rintro e w8 ⟨⟨a8, c8, rfl, s8⟩, hb8⟩; have ho8 := owns_bl hown hb8; have hb9 := hbr.trans (hb8.mono hbr.size); have hr8 := s8.row)
                | (at_builtin; refine wpList_append_row rfl _ _ 34 5 elByte rfl W.heap.size _ al.length (bys al) rfl ho8 a8 rl.length c8 (bys rl) rfl (by rw [bys_len]; omega) hr8 bys_one (by omega) (by decide) hb9.size ?_; intro v9 w9 ho9 hb10))
              rw [← bys_app] at ho9
              go_roundw
              case rel => exact ⟨j + 1, v9, by omega, by simp; omega, rfl, by rw [HSN.out, List.length_append]; exact ho9, by rw [HGS.out]; simp, hb9.trans hb10⟩
              case measure => simp [intOf]; omega
          case neg =>
            obtain rfl : j = n := by omega
            obtain ⟨a9, c9, rfl, s9⟩ := SlB.of_owns hown
            have hmi := mine_any a9 c9 (allR d f j) rep reg pla wr s9 (by have := allR_len h f j; omega)
            rw [HR.out] at hmi
            have hcr := cell_later hbr hcW
            have hKr := tr_bl hbr hK
            rw [HGO.out]
            go_wp2
            refine HK.out _ _ ?_
            clear HK
            refine wp_seq_k (fun K hK => ?_)
            have HK := Lib.hid hK
            clear hK
            go_wp2_with (first
                  | (go_at_call 50; refine hmi.mono ?_; rintro e w8 ⟨⟨a8, c8, rfl, ho8⟩, hb8⟩)
                  | ((first | (with_reducible refine wpList_stNew 33 _ _ ?_) | (with_reducible refine wp_stNew 33 _ _ ?_)); refine ⟨_, _, ⟨Tryz.sizeOf33, rfl, tg_new _⟩, rfl, ?_⟩))
            refine HK.out _ _ ?_
            clear HK
            have hb9 := hb8.alloc hb8.size (Obj.cells #[.int .i64 tg.rep, .int .i64 tg.reg, .int .i64 tg.pla, .int .i64 tg.idx, .int .i64 tg.inc] 33)
            have hcx := cell_later hb9 hcr
            have hKx := tr_bl hb9 hKr
            have hbx := hB.trans ((hbr.trans (hb9.mono hbr.size)).mono hB.size)
            generalize w8.alloc (Obj.cells #[.int .i64 tg.rep, .int .i64 tg.reg, .int .i64 tg.pla, .int .i64 tg.idx, .int .i64 tg.inc] 33) = w9 at *
            go_wp2
            refine marks_ret hKx (results_tmp3 rfl _ _ _) ?_
            exact ⟨rfl, below_mark hbx (by omega)⟩
    case false =>
      rw [Bool.false_or]
      by_cases hst : st = 2
      case pos =>
        subst hst
        rw [decide_eq_true rfl]
        refine calls_marks Tryz.func13 rfl ?_
        simp only [Tryz.ntmps13, List.size_toArray, List.length_cons, List.length_nil, Nat.reduceAdd, Nat.reduceSub, Array.replicate_succ, Array.replicate_zero, List.push_toArray, List.append_toArray, List.nil_append, List.cons_append]
        refine wp_seq_k (fun K hK => ?_)
        have HK := Lib.hid hK
        clear hK
        go_wp2
        refine HK.out _ _ ?_
        clear HK
        refine wp_seq_k (fun K hK => ?_)
        have HK := Lib.hid hK
        clear hK
        go_wp2_with (go_at_call 48; refine hk.mono ?_; rintro e w1 ⟨rfl, hb1⟩)
        refine HK.out _ _ ?_
        clear HK
        refine wp_seq_k (fun K hK => ?_)
        have HK := Lib.hid hK
        clear hK
        go_wp2_with (go_at_call 42; refine (hfi _).mono ?_; rintro e w2 ⟨rfl, hb2⟩)
        refine HK.out _ _ ?_
        clear HK
        refine wp_seq_k (fun K hK => ?_)
        have HK := Lib.hid hK
        clear hK
        go_wp2_with (go_at_call 49; refine (hwi _).mono ?_; rintro e w3 ⟨rfl, hb3⟩)
        refine HK.out _ _ ?_
        clear HK
        have hb4 := hb1.trans ((hb2.trans (hb3.mono hb2.size)).mono hb1.size)
        clear hb1 hb2 hb3 hk hfi hwi
        refine wp_seq_k (fun K hK => ?_)
        have HK := Lib.hid hK
        clear hK
        go_wp2
        refine HK.out _ _ ?_
        clear HK
        have hb5 := hb4.alloc hb4.size (Obj.cells #[.bool false] 4)
        have bH := Boxed.new w3 4 (.bool false)
        have hq1 := hb4.size
        have hq2 : w3.heap.size < (w3.alloc (Obj.cells #[.bool false] 4)).heap.size := by simp
        clear hb4
        generalize w3.alloc (Obj.cells #[.bool false] 4) = w5 at *
        generalize w3.heap.size = q at *
        have hhu := hurts_any (some ⟨g, 0, none⟩) f (f + n) w5
        simp only [Int.natCast_add] at hhu
        refine wp_seq_k (fun K hK => ?_)
        have HK := Lib.hid hK
        clear hK
        go_wp2_with (go_at_call 45; refine hhu.mono ?_; rintro e w6 ⟨rfl, hq, hsz2, hb6⟩; have HSZ := Lib.hid hsz2; clear hsz2)
        have bH6 : Boxed w6 q 4 (.bool false) := tr_bl hb6 bH
        have hz : w5.heap.size + 4 ≤ w6.heap.size := by have := HSZ.out; omega
        have hB6 : Below w.heap.size w w6 := hb5.trans (hb6.mono hb5.size)
        clear hb6 hhu hb5 bH HSZ
        have hz5 := hB6.size
        refine wp_range_skip (gf := 107) rfl (enters_of Tryz.func107 (by kernel_rfl) rfl) (hurts_stops h f (f + n) w5.heap.size (by omega) (by omega) hB6.size (by omega) hB6 hq) KpH.trans (KpH.put hB6.size (by omega)) (fun _ => rfl)
          (fun (pre : List Int) W => pre = [] ∧ Boxed W q 4 (.bool false) ∧ Below w.heap.size w W ∧ w6.heap.size ≤ W.heap.size)
          (fun c _ W => c = .exit 0 ∧ Boxed W q 4 (.bool true) ∧ Below w.heap.size w W ∧ w6.heap.size ≤ W.heap.size)
          ?_ ?_ ⟨rfl, bH6, hB6, Nat.le_refl _⟩ ?_ ?_ ?_
        · exact fun _ _ _ _ hs hg hr => ⟨hs.1, hs.2.1.kept hg (fun e => by have := (hr _ e.symm).1; omega), hs.2.2.1.grown hg (by omega) (fun k e => by have := (hr k e).1; omega), Nat.le_trans hs.2.2.2 hg.size⟩
        · exact fun _ _ _ _ _ hs hg hr => ⟨hs.1, hs.2.1.kept hg (fun e => by have := (hr _ e.symm).1; omega), hs.2.2.1.grown hg (by omega) (fun k e => by have := (hr k e).1; omega), Nat.le_trans hs.2.2.2 hg.size⟩
        · rintro l pre x W ⟨rfl, hbx, hB, hsW⟩ _
          have hc := hbx.cell
          have hf := hbx.frozen
          gi_wp2
          exact ⟨(KeepsOthers.setCell _ _ _).from _, rfl, hbx.set _, hB.setCell (p := ⟨q, 0, none⟩) hq1 _, by simpa [World.setCell] using hsW⟩
        · rintro D xs W hD rfl ⟨hn0, _⟩ _
          exact absurd hn0 hL
        · rintro D c pre W hD ⟨hp, hne⟩ ⟨rfl, hbx, hB, hsW⟩ hK
          go_wp2
          (try simp only [Exit.inBlock]); (try simp only [Exit.then])
          refine HK.out _ _ ?_
          clear HK
          have hdW := h.below hB
          have hcW := hbx.cell
          refine wp_seq_k (fun K hK => ?_)
          have HK := Lib.hid hK
          clear hK
          go_wp2
          refine HK.out _ _ ?_
          clear HK
          refine wp_seq_k (fun K hK => ?_)
          have HK := Lib.hid hK
          clear hK
          go_wp2
          go_loopw [17, 16, 15, 18, 19, 20] (fun s all gn _ _ _ wr => ∃ (j : Nat) (v : Value), j ≤ n ∧ s = .int .i64 ((f : Int) + (j : Int)) ∧ all = v ∧ wr.ownsRow W.heap.size 5 1 v (allR d f j).length (bys (allR d f j)) ∧ gn = .bool (goneG d f j) ∧ Below W.heap.size W wr) (fun s _ _ _ _ _ _ => f + n - (intOf s).toNat)
          case atStart => exact ⟨0, _, by omega, by simp, rfl, World.ownsRow_nil _ _ _ _, rfl, Below.refl _ _⟩
          case round =>
            obtain ⟨j, v, hj, rfl, rfl, hown, rfl, hbr⟩ := hrel
            have hdr := hdW.below hbr
            by_cases hlt : j < n
            case pos =>
              have hil : (f : Int) + (j : Int) < (f : Int) + (n : Int) := by omega
              have hre := rest_sl hdr ((f + j : Nat) : Int)
              have hle := allR_len h f j
              have hrl := restD_len h ((f + j : Nat) : Int)
              have hsn := allG_succ (fun s => (restD d s).1) f j
              have hgs := goneG_succ d f j
              change allR d f (j + 1) = allR d f j ++ _ at hsn
              (try simp only at hsn)
              simp only [Int.natCast_add] at hre hrl hsn hgs
              generalize restD d ((f : Int) + (j : Int)) = r at *
              obtain ⟨rl, lost, er⟩ := r
              (try simp only at hre)
              (try simp only at hrl)
              (try simp only at hsn)
              (try simp only at hgs)
              have HSN := Lib.hid hsn
              have HGS := Lib.hid hgs
              clear hsn hgs
              generalize hal : allR d f j = al at *
              generalize hgo : goneG d f j = go at *
              clear hal hgo
              cases go
              all_goals
                go_wp2_with (first
                  | (go_at_call 34; refine hre.mono ?_; rintro e w8 ⟨⟨a8, c8, rfl, s8⟩, hb8⟩; have ho8 := owns_bl hown hb8; have hb9 := hbr.trans (hb8.mono hbr.size); have hr8 := s8.row)
                  | (at_builtin; refine wpList_append_row rfl _ _ 34 5 elByte rfl W.heap.size _ al.length (bys al) rfl ho8 a8 rl.length c8 (bys rl) rfl (by rw [bys_len]; omega) hr8 bys_one (by omega) (by decide) hb9.size ?_; intro v9 w9 ho9 hb10))
                rw [← bys_app] at ho9
                go_roundw
                case rel => exact ⟨j + 1, v9, by omega, by simp; omega, rfl, by rw [HSN.out, List.length_append]; exact ho9, by rw [HGS.out]; simp, hb9.trans hb10⟩
                case measure => simp [intOf]; omega
            case neg =>
              obtain rfl : j = n := by omega
              obtain ⟨a9, c9, rfl, s9⟩ := SlB.of_owns hown
              have hmi := mine_any a9 c9 (allR d f j) rep reg pla wr s9 (by have := allR_len h f j; omega)
              rw [HR.out] at hmi
              have hcr := cell_later hbr hcW
              have hKr := tr_bl hbr hK
              rw [HGO.out]
              go_wp2
              refine HK.out _ _ ?_
              clear HK
              refine wp_seq_k (fun K hK => ?_)
              have HK := Lib.hid hK
              clear hK
              go_wp2_with (first
                    | (go_at_call 50; refine hmi.mono ?_; rintro e w8 ⟨⟨a8, c8, rfl, ho8⟩, hb8⟩)
                    | ((first | (with_reducible refine wpList_stNew 33 _ _ ?_) | (with_reducible refine wp_stNew 33 _ _ ?_)); refine ⟨_, _, ⟨Tryz.sizeOf33, rfl, tg_new _⟩, rfl, ?_⟩))
              refine HK.out _ _ ?_
              clear HK
              have hb9 := hb8.alloc hb8.size (Obj.cells #[.int .i64 tg.rep, .int .i64 tg.reg, .int .i64 tg.pla, .int .i64 tg.idx, .int .i64 tg.inc] 33)
              have hcx := cell_later hb9 hcr
              have hKx := tr_bl hb9 hKr
              have hbx := hB.trans ((hbr.trans (hb9.mono hbr.size)).mono hB.size)
              generalize w8.alloc (Obj.cells #[.int .i64 tg.rep, .int .i64 tg.reg, .int .i64 tg.pla, .int .i64 tg.idx, .int .i64 tg.inc] 33) = w9 at *
              go_wp2
              refine marks_ret hKx (results_tmp3 rfl _ _ _) ?_
              exact ⟨rfl, below_mark hbx (by omega)⟩
      case neg =>
        rw [decide_eq_false hst]
        have e2 : ((st : Int) == 2) = false := by rw [beq_eq_false_iff_ne]; omega
        clear hst
        refine calls_marks Tryz.func13 rfl ?_
        simp only [Tryz.ntmps13, List.size_toArray, List.length_cons, List.length_nil, Nat.reduceAdd, Nat.reduceSub, Array.replicate_succ, Array.replicate_zero, List.push_toArray, List.append_toArray, List.nil_append, List.cons_append]
        refine wp_seq_k (fun K hK => ?_)
        have HK := Lib.hid hK
        clear hK
        go_wp2
        refine HK.out _ _ ?_
        clear HK
        refine wp_seq_k (fun K hK => ?_)
        have HK := Lib.hid hK
        clear hK
        go_wp2_with (go_at_call 48; refine hk.mono ?_; rintro e w1 ⟨rfl, hb1⟩)
        refine HK.out _ _ ?_
        clear HK
        refine wp_seq_k (fun K hK => ?_)
        have HK := Lib.hid hK
        clear hK
        go_wp2_with (go_at_call 42; refine (hfi _).mono ?_; rintro e w2 ⟨rfl, hb2⟩)
        refine HK.out _ _ ?_
        clear HK
        refine wp_seq_k (fun K hK => ?_)
        have HK := Lib.hid hK
        clear hK
        go_wp2_with (go_at_call 49; refine (hwi _).mono ?_; rintro e w3 ⟨rfl, hb3⟩)
        refine HK.out _ _ ?_
        clear HK
        have hb4 := hb1.trans ((hb2.trans (hb3.mono hb2.size)).mono hb1.size)
        clear hb1 hb2 hb3 hk hfi hwi
        refine wp_seq_k (fun K hK => ?_)
        have HK := Lib.hid hK
        clear hK
        go_wp2
        refine HK.out _ _ ?_
        clear HK
        have hb5 := hb4.alloc hb4.size (Obj.cells #[.bool false] 4)
        have bH := Boxed.new w3 4 (.bool false)
        have hq1 := hb4.size
        have hq2 : w3.heap.size < (w3.alloc (Obj.cells #[.bool false] 4)).heap.size := by simp
        clear hb4
        generalize w3.alloc (Obj.cells #[.bool false] 4) = w5 at *
        generalize w3.heap.size = q at *
        have hhu := hurts_any (some ⟨g, 0, none⟩) f (f + n) w5
        simp only [Int.natCast_add] at hhu
        refine wp_seq_k (fun K hK => ?_)
        have HK := Lib.hid hK
        clear hK
        go_wp2_with (go_at_call 45; refine hhu.mono ?_; rintro e w6 ⟨rfl, hq, hsz2, hb6⟩; have HSZ := Lib.hid hsz2; clear hsz2)
        have bH6 : Boxed w6 q 4 (.bool false) := tr_bl hb6 bH
        have hz : w5.heap.size + 4 ≤ w6.heap.size := by have := HSZ.out; omega
        have hB6 : Below w.heap.size w w6 := hb5.trans (hb6.mono hb5.size)
        clear hb6 hhu hb5 bH HSZ
        have hz5 := hB6.size
        refine wp_range_skip (gf := 107) rfl (enters_of Tryz.func107 (by kernel_rfl) rfl) (hurts_stops h f (f + n) w5.heap.size (by omega) (by omega) hB6.size (by omega) hB6 hq) KpH.trans (KpH.put hB6.size (by omega)) (fun _ => rfl)
          (fun (pre : List Int) W => pre = [] ∧ Boxed W q 4 (.bool false) ∧ Below w.heap.size w W ∧ w6.heap.size ≤ W.heap.size)
          (fun c _ W => c = .exit 0 ∧ Boxed W q 4 (.bool true) ∧ Below w.heap.size w W ∧ w6.heap.size ≤ W.heap.size)
          ?_ ?_ ⟨rfl, bH6, hB6, Nat.le_refl _⟩ ?_ ?_ ?_
        · exact fun _ _ _ _ hs hg hr => ⟨hs.1, hs.2.1.kept hg (fun e => by have := (hr _ e.symm).1; omega), hs.2.2.1.grown hg (by omega) (fun k e => by have := (hr k e).1; omega), Nat.le_trans hs.2.2.2 hg.size⟩
        · exact fun _ _ _ _ _ hs hg hr => ⟨hs.1, hs.2.1.kept hg (fun e => by have := (hr _ e.symm).1; omega), hs.2.2.1.grown hg (by omega) (fun k e => by have := (hr k e).1; omega), Nat.le_trans hs.2.2.2 hg.size⟩
        · rintro l pre x W ⟨rfl, hbx, hB, hsW⟩ _
          have hc := hbx.cell
          have hf := hbx.frozen
          gi_wp2
          exact ⟨(KeepsOthers.setCell _ _ _).from _, rfl, hbx.set _, hB.setCell (p := ⟨q, 0, none⟩) hq1 _, by simpa [World.setCell] using hsW⟩
        · rintro D xs W hD rfl ⟨hn0, _⟩ _
          exact absurd hn0 hL
        · rintro D c pre W hD ⟨hp, hne⟩ ⟨rfl, hbx, hB, hsW⟩ hK
          go_wp2
          (try simp only [Exit.inBlock]); (try simp only [Exit.then])
          refine HK.out _ _ ?_
          clear HK
          have hdW := h.below hB
          have hcW := hbx.cell
          refine wp_seq_k (fun K hK => ?_)
          have HK := Lib.hid hK
          clear hK
          go_wp2
          refine HK.out _ _ ?_
          clear HK
          refine wp_seq_k (fun K hK => ?_)
          have HK := Lib.hid hK
          clear hK
          go_wp2
          go_loopw [17, 16, 15, 18, 19, 20] (fun s all gn _ _ _ wr => ∃ (j : Nat) (v : Value), j ≤ n ∧ s = .int .i64 ((f : Int) + (j : Int)) ∧ all = v ∧ wr.ownsRow W.heap.size 5 1 v (allR d f j).length (bys (allR d f j)) ∧ gn = .bool (goneG d f j) ∧ Below W.heap.size W wr) (fun s _ _ _ _ _ _ => f + n - (intOf s).toNat)
          case atStart => exact ⟨0, _, by omega, by simp, rfl, World.ownsRow_nil _ _ _ _, rfl, Below.refl _ _⟩
          case round =>
            obtain ⟨j, v, hj, rfl, rfl, hown, rfl, hbr⟩ := hrel
            have hdr := hdW.below hbr
            by_cases hlt : j < n
            case pos =>
              have hil : (f : Int) + (j : Int) < (f : Int) + (n : Int) := by omega
              have hre := rest_sl hdr ((f + j : Nat) : Int)
              have hle := allR_len h f j
              have hrl := restD_len h ((f + j : Nat) : Int)
              have hsn := allG_succ (fun s => (restD d s).1) f j
              have hgs := goneG_succ d f j
              change allR d f (j + 1) = allR d f j ++ _ at hsn
              (try simp only at hsn)
              simp only [Int.natCast_add] at hre hrl hsn hgs
              generalize restD d ((f : Int) + (j : Int)) = r at *
              obtain ⟨rl, lost, er⟩ := r
              (try simp only at hre)
              (try simp only at hrl)
              (try simp only at hsn)
              (try simp only at hgs)
              have HSN := Lib.hid hsn
              have HGS := Lib.hid hgs
              clear hsn hgs
              generalize hal : allR d f j = al at *
              generalize hgo : goneG d f j = go at *
              clear hal hgo
              cases go
              all_goals
                go_wp2_with (first
                  | (go_at_call 34; refine hre.mono ?_; rintro e w8 ⟨⟨a8, c8, rfl, s8⟩, hb8⟩; have ho8 := owns_bl hown hb8; have hb9 := hbr.trans (hb8.mono hbr.size); have hr8 := s8.row)
                  | (at_builtin; refine wpList_append_row rfl _ _ 34 5 elByte rfl W.heap.size _ al.length (bys al) rfl ho8 a8 rl.length c8 (bys rl) rfl (by rw [bys_len]; omega) hr8 bys_one (by omega) (by decide) hb9.size ?_; intro v9 w9 ho9 hb10))
                rw [← bys_app] at ho9
                go_roundw
                case rel => exact ⟨j + 1, v9, by omega, by simp; omega, rfl, by rw [HSN.out, List.length_append]; exact ho9, by rw [HGS.out]; simp, hb9.trans hb10⟩
                case measure => simp [intOf]; omega
            case neg =>
              obtain rfl : j = n := by omega
              obtain ⟨a9, c9, rfl, s9⟩ := SlB.of_owns hown
              have hmi := mine_any a9 c9 (allR d f j) rep reg pla wr s9 (by have := allR_len h f j; omega)
              rw [HR.out] at hmi
              have hcr := cell_later hbr hcW
              have hKr := tr_bl hbr hK
              rw [HGO.out]
              go_wp2
              refine HK.out _ _ ?_
              clear HK
              refine wp_seq_k (fun K hK => ?_)
              have HK := Lib.hid hK
              clear hK
              go_wp2_with (first
                    | (go_at_call 50; refine hmi.mono ?_; rintro e w8 ⟨⟨a8, c8, rfl, ho8⟩, hb8⟩)
                    | ((first | (with_reducible refine wpList_stNew 33 _ _ ?_) | (with_reducible refine wp_stNew 33 _ _ ?_)); refine ⟨_, _, ⟨Tryz.sizeOf33, rfl, tg_new _⟩, rfl, ?_⟩))
              refine HK.out _ _ ?_
              clear HK
              have hb9 := hb8.alloc hb8.size (Obj.cells #[.int .i64 tg.rep, .int .i64 tg.reg, .int .i64 tg.pla, .int .i64 tg.idx, .int .i64 tg.inc] 33)
              have hcx := cell_later hb9 hcr
              have hKx := tr_bl hb9 hKr
              have hbx := hB.trans ((hbr.trans (hb9.mono hbr.size)).mono hB.size)
              generalize w8.alloc (Obj.cells #[.int .i64 tg.rep, .int .i64 tg.reg, .int .i64 tg.pla, .int .i64 tg.idx, .int .i64 tg.inc] 33) = w9 at *
              go_wp2
              refine marks_ret hKx (results_tmp3 rfl _ _ _) ?_
              exact ⟨rfl, below_mark hbx (by omega)⟩
theorem place_any {B g gp : Nat} {wv : Value} {d : Dk} {w : World} (h : DiskB B g gp wv d w) (rep reg pla : Int) : Calls Tryz.prog 13 #[.pointer (some ⟨g, 0, none⟩), .int .i64 rep, .int .i64 reg, .int .i64 pla] w fun e w' => e = .returned (.tuple #[.bool (placeG d rep reg pla).1, .bool (placeG d rep reg pla).2.1, .int .i64 (placeG d rep reg pla).2.2]) ∧ Below w.heap.size w w' := by
  by_cases ha : askG d rep reg pla = 0
  · exact place_ok h rep reg pla ha
  · have := place_err _ _ w h.dn rep reg pla ha
    unfold placeG
    rw [if_pos ha]
    exact this
end Go.Proofs.YtddddemclhlfaaaGreatDoor
namespace Go.Proofs.YtddddemclhlfaaaGreatDoor
open Go.RowKit
def allRR (d : Dk) (a n : Nat) : List UInt8 := allG (fun s => (d.pl.getD s.toNat zeroPl).rest) a n
theorem allRR_succ (d : Dk) (a n : Nat) : allRR d a (n + 1) = allRR d a n ++ (d.pl.getD (a + n) zeroPl).rest := by
  unfold allRR
  rw [allG_succ]
  simp only [Int.toNat_natCast]
theorem isHurt_succ (d : Dk) (a n : Nat) : isHurt d a (n + 1) = (isHurt d a n || hurtB d ((a + n : Nat) : Int)) := by
  unfold isHurt
  rw [show a + (n + 1) = a + n + 1 by omega]
  cases hb : hurtB d ((a + n : Nat) : Int)
  · rw [hurtsL_no (by omega) hb, Bool.or_false]
  · rw [hurtsL_yes (by omega) hb, Bool.or_true]
    simp
theorem isHurt_zero (d : Dk) (a : Nat) : isHurt d a 0 = false := by
  unfold isHurt
  rw [Nat.add_zero, hurtsL_self]
  rfl
theorem allRR_eq {d : Dk} {a : Nat} : ∀ (n : Nat), a + n ≤ d.pl.length → goneG d a n = false → allRR d a n = allR d a n
  | 0, _, _ => rfl
  | n + 1, h, hg => by
    rw [goneG_succ, Bool.or_eq_false_iff] at hg
    have ih := allRR_eq n (by omega) hg.1
    have h0 := there_in2 (d := d) (s := a + n) (by omega)
    rw [allRR_succ, ih]
    unfold allR
    rw [allG_succ]
    congr 1
    have h2 := hg.2
    unfold restD at h2 ⊢
    rw [if_neg (by rw [h0]; simp)] at h2 ⊢
    simp only [Int.toNat_natCast] at h2 ⊢
    split at h2
    · cases h2
    · rename_i h3
      rw [if_neg h3]
theorem gone_pl {d : Dk} {s : Nat} {p : Pl} (hp : d.pl[s]? = some p) : (restD d (s : Int)).2.1 = p.lost := by
  have hs := (List.getElem?_eq_some_iff.1 hp).1
  unfold restD
  rw [if_neg (by rw [there_in2 hs]; simp)]
  simp only [Int.toNat_natCast, getD_pl hp]
  split
  · rename_i h; rw [h]
  · rename_i h; cases hl : p.lost
    · rfl
    · exact absurd hl h
theorem pl_at {d : Dk} {s : Nat} (h : s < d.pl.length) : ∃ p, d.pl[s]? = some p := ⟨_, List.getElem?_eq_getElem h⟩
section
variable {B g : Nat} {q : RQ} {d : Dk} {w w' : World}
theorem RefB.len_rest (h : RefB B g q d w) {s : Nat} {p : Pl} (hp : d.pl[s]? = some p) : p.rest.length = 64 := (h.ok p (List.mem_of_getElem? hp)).1
theorem allRR_len (h : RefB B g q d w) (a : Nat) : ∀ n, a + n ≤ d.pl.length → (allRR d a n).length = 64 * n
  | 0, _ => rfl
  | n + 1, hn => by
    obtain ⟨p, hp⟩ := pl_at (d := d) (s := a + n) (by omega)
    rw [allRR_succ, List.length_append, allRR_len h a n (by omega), getD_pl hp, h.len_rest hp]
    omega
set_option maxRecDepth 100000 in
set_option maxHeartbeats 2000000 in
theorem rplace_any (h : RefB B g q d w) (rep reg pla : Int) : Calls Tryz.prog 14 #[.pointer (some ⟨g, 0, none⟩), .int .i64 rep, .int .i64 reg, .int .i64 pla] w fun e w' => e = .returned (.tuple #[.bool (placeG d rep reg pla).1, .bool (placeG d rep reg pla).2.1, .int .i64 (placeG d rep reg pla).2.2]) ∧ Below w.heap.size w w' := by
  have hk := rasked_any h rep reg pla
  by_cases ha : askG d rep reg pla = 0
  case neg =>
    have h2 : askG d rep reg pla = 2 := by
      unfold askG askN at ha ⊢
      rw [if_neg (by have := h.n0; omega)] at ha ⊢
      split at ha
      · rw [if_pos (by assumption)]
      · exact absurd rfl ha
    rw [decide_eq_false ha] at hk
    unfold placeG
    rw [if_pos ha, h2]
    clear ha h2
    go_enter Tryz.func14, Tryz.ntmps14
    go_wp2_with (go_at_call 51; refine hk.mono ?_; rintro e w1 ⟨rfl, rfl⟩)
    go_ret3
    exact ⟨rfl, Below.refl _ _⟩
  case pos =>
    rw [decide_eq_true ha] at hk
    obtain ⟨hn, hr0, hr6, hg1, hg5, hp0, hp1, hf0, hf1, hw1, hw2⟩ := ask_first ha
    have hfi := rfirst3_any reg pla
    have hwi := rwide_any reg
    unfold placeG
    rw [if_neg (by simpa using ha)]
    obtain ⟨f, hf⟩ : ∃ f : Nat, firstN reg pla = f := ⟨(firstN reg pla).toNat, by omega⟩
    obtain ⟨n, hnn⟩ : ∃ n : Nat, wideN reg = n := ⟨(wideN reg).toNat, by omega⟩
    rw [hf] at hfi hf1 ⊢
    rw [hnn] at hwi hf1 hw2 ⊢
    have hfn : f + n ≤ 156 := by omega
    have hn2 : n ≤ 2 := by omega
    simp only [Int.toNat_natCast]
    have hll := allRR_len h f
    have HLL := Lib.hid hll
    obtain ⟨S1, hS1⟩ : ∃ S1, isHurt d f n = S1 := ⟨_, rfl⟩
    obtain ⟨S2, hS2⟩ : ∃ S2, (S1 && (goneG d f n || decide ((mineF (allR d f n) rep reg pla).1 = 2))) = S2 := ⟨_, rfl⟩
    rw [hS1, hS2]
    have HS1 := Lib.hid hS1
    have HS2 := Lib.hid hS2
    have HEQ := Lib.hid (allRR_eq (d := d) (a := f) n (by omega))
    clear hS1 hS2 hf hnn ha hf0 hf1 hw1 hw2 hg1 hg5 hp0 hp1 hr0 hr6 hll
    go_enter Tryz.func14, Tryz.ntmps14
    refine wp_seq_k (fun K hK => ?_)
    have HK := Lib.hid hK
    clear hK
    go_wp2
    refine HK.out _ _ ?_
    clear HK
    refine wp_seq_k (fun K hK => ?_)
    have HK := Lib.hid hK
    clear hK
    go_wp2_with (go_at_call 51; refine hk.mono ?_; rintro e w1 ⟨rfl, rfl⟩)
    refine HK.out _ _ ?_
    clear HK
    refine wp_seq_k (fun K hK => ?_)
    have HK := Lib.hid hK
    clear hK
    go_wp2_with (go_at_call 52; refine (hfi _).mono ?_; rintro e w1 ⟨rfl, rfl⟩)
    refine HK.out _ _ ?_
    clear HK
    refine wp_seq_k (fun K hK => ?_)
    have HK := Lib.hid hK
    clear hK
    go_wp2
    refine HK.out _ _ ?_
    clear HK
    refine wp_seq_k (fun K hK => ?_)
    have HK := Lib.hid hK
    clear hK
    go_wp2
    refine HK.out _ _ ?_
    clear HK
    clear hk hfi
    refine wp_seq_k (fun K hK => ?_)
    go_cut [12, 13, 14] (fun va vl vr wx => ∃ a l : Bool, va = .bool a ∧ vl = .bool l ∧ Hid (isHurt d f n = a ∧ goneG d f n = l) ∧ wx.ownsRow w.heap.size 5 1 vr (allRR d f n).length (bys (allRR d f n)) ∧ Below w.heap.size w wx)
    case first =>
      go_wp2
      go_loopw [12, 13, 14, 15] (fun va vl vr t wr => ∃ (k : Nat) (a l : Bool), k ≤ n ∧ t = .int .i64 (k : Int) ∧ va = .bool a ∧ vl = .bool l ∧ Hid (isHurt d f k = a ∧ goneG d f k = l) ∧ wr.ownsRow w.heap.size 5 1 vr (allRR d f k).length (bys (allRR d f k)) ∧ Below w.heap.size w wr) (fun _ _ _ t _ => n - (intOf t).toNat)
      case atStart => exact ⟨0, false, false, by omega, rfl, rfl, rfl, Lib.hid ⟨isHurt_zero _ _, goneG_zero _ _⟩, World.ownsRow_nil _ _ _ _, Below.refl _ _⟩
      case round =>
        obtain ⟨k, a, l, hk, rfl, rfl, rfl, HI, hO, hbr⟩ := hrel
        by_cases hlt : k < n
        case neg =>
          obtain rfl : k = n := by omega
          go_wp2_with (go_at_call 53; refine (hwi _).mono ?_; rintro e w3 ⟨rfl, rfl⟩)
          go_meet
          exact ⟨a, l, rfl, rfl, HI, hO, hbr⟩
        case pos =>
          have hd := h.below hbr
          obtain ⟨p, hp⟩ := pl_at (d := d) (s := f + k) (by omega)
          have hh := rhurt_any hd (f + k) (by omega)
          rw [Int.natCast_add] at hh
          have h64 := h.len_rest hp
          have hlen := HLL.out k (by omega)
          have hsc := allRR_succ d f k
          rw [getD_pl hp] at hsc
          have HSC := Lib.hid hsc
          have e1 : isHurt d f (k + 1) = (a || hurtB d ((f : Int) + (k : Int))) := by rw [isHurt_succ, HI.out.1, Int.natCast_add]
          have e2 : goneG d f (k + 1) = (l || p.lost) := by rw [goneG_succ, HI.out.2, gone_pl hp]
          obtain ⟨hb, hbe⟩ : ∃ b, hurtB d ((f : Int) + (k : Int)) = b := ⟨_, rfl⟩
          rw [hbe] at hh e1
          have HI2 : Hid (isHurt d f (k + 1) = (a || hb) ∧ goneG d f (k + 1) = (l || p.lost)) := Lib.hid ⟨e1, e2⟩
          clear hbe hsc e1 e2 HI
          generalize allRR d f k = al at *
          have hfk : f + k < d.pl.length := by omega
          have HPL := Lib.hid hp
          clear hp HLL
          refine wp_seq_k (fun K hK => ?_)
          have HK := Lib.hid hK
          clear hK
          go_wp2_with (go_at_call 53; refine (hwi _).mono ?_; rintro e w3 ⟨rfl, rfl⟩)
          refine HK.out _ _ ?_
          clear HK
          refine wp_seq_k (fun K hK => ?_)
          have HK1 := Lib.hid hK
          clear hK
          refine wp_block ?_
          refine wp_seq_k (fun K hK => ?_)
          go_cut [12] (fun v wx => v = .bool (a || hb) ∧ Below wr.heap.size wr wx)
          case first =>
            cases a
            · go_wp2_with (go_at_call 47; refine hh.mono ?_; rintro e w4 ⟨rfl, hb4⟩)
              go_meet
              exact ⟨rfl, hb4⟩
            · go_wp2
              go_meet
              exact ⟨rfl, Below.refl _ _⟩
          obtain ⟨rfl, hb4⟩ := hcut
          refine hK _ _ ?_
          clear hK hh
          have hd4 := hd.below hb4
          have hO4 := owns_bl hO hb4
          have hbr4 := hbr.trans (hb4.mono hbr.size)
          clear hd hO hbr hb4
          obtain ⟨bl, bo, hr0⟩ : ∃ x, q.ra[f + k]? = some x ∧ wc.cell? ⟨q.rb, f + k, none⟩ = some (slv x) := hd4.ra_at (by omega)
          have hsx := (hd4.rs (f + k) bl p bo HPL.out).slb h64
          have c0 := hd4.c0
          have c2 := hd4.c2
          have ex := hd4.lo_at HPL.out
          unfold slv at hr0
          generalize p.lost = lo at *
          refine wp_seq_k (fun K hK => ?_)
          go_cut [13] (fun v wx => v = .bool (l || lo) ∧ wc = wx)
          case first =>
            cases l
            · go_wp2
              go_meet
              exact ⟨rfl, rfl⟩
            · go_wp2
              go_meet
              exact ⟨rfl, rfl⟩
          obtain ⟨rfl, rfl⟩ := hcut
          refine hK _ _ ?_
          clear hK
          generalize (a || hb) = a2 at *
          generalize (l || lo) = l2 at *
          have hrr := hsx.row
          have hpl : (bys p.rest).length = 64 * 1 := by rw [bys_len, h64]
          go_wp2_with (at_builtin; refine wpList_append_row rfl _ _ 34 5 elByte rfl w.heap.size _ al.length (bys al) rfl hO4 (some ⟨bl.1, 0, none⟩) 64 bl.2 (bys p.rest) rfl hpl hrr bys_one (by omega) (by decide) hbr4.size ?_; intro v9 w9 ho9 hb10)
          rw [← bys_app] at ho9
          (try simp only [Exit.inBlock, Exit.then])
          refine HK1.out _ _ ?_
          go_wp2
          go_roundw
          case rel => exact ⟨k + 1, a2, l2, by omega, by go_num, rfl, rfl, HI2, by rw [HSC.out, List.length_append, h64]; exact ho9, hbr4.trans hb10⟩
          case measure => simp [intOf]; omega
    obtain ⟨a, l, rfl, rfl, HI, hO, hbc⟩ := hcut
    refine hK _ _ ?_
    clear hK hwi
    obtain ⟨aa, ac, rfl, hsa⟩ := SlB.of_owns hO
    have hmi := rmine_any aa ac (allRR d f n) rep reg pla wc hsa (by have := HLL.out n (by omega); omega)
    have HA : Hid (a = S1) := Lib.hid (HI.out.1.symm.trans HS1.out)
    have hres : (S1 && (l || decide ((mineF (allRR d f n) rep reg pla).1 = 2))) = S2 := by
      rw [← HS2.out, HI.out.2]
      cases l with
      | false => rw [HEQ.out HI.out.2]
      | true => rfl
    obtain ⟨R, hR⟩ : ∃ R, mineF (allRR d f n) rep reg pla = R := ⟨_, rfl⟩
    rw [hR] at hmi hres
    have HRES := Lib.hid hres
    obtain ⟨st, tg, body⟩ := R
    generalize allRR d f n = al at *
    clear hO hsa hR hres HEQ HS2 HS1 HLL
    refine wp_seq_k (fun K hK => ?_)
    have HK := Lib.hid hK
    clear hK
    go_wp2_with (go_at_call 54; refine hmi.mono ?_; rintro e w5 ⟨⟨a5, c5, rfl, ob5⟩, hb5⟩)
    refine HK.out _ _ ?_
    clear HK
    obtain rfl := HA.out
    have hb7 := (hbc.trans (hb5.mono hbc.size)).trans ((blw w5 (Obj.cells #[.int .i64 tg.rep, .int .i64 tg.reg, .int .i64 tg.pla, .int .i64 tg.idx, .int .i64 tg.inc] 33)).mono (Nat.le_trans hbc.size hb5.size))
    generalize w5.alloc (Obj.cells #[.int .i64 tg.rep, .int .i64 tg.reg, .int .i64 tg.pla, .int .i64 tg.idx, .int .i64 tg.inc] 33) = w6 at *
    by_cases hst : st = 2
    · have b1 : ((st : Int) == 2) = true := by rw [hst]; rfl
      have HB := Lib.hid (decide_eq_true hst)
      clear hst
      cases a
      · go_wp2
        go_ret3
        exact ⟨by rw [← HRES.out]; rfl, hb7⟩
      · cases l
        · go_wp2
          go_ret3
          exact ⟨by rw [← HRES.out, HB.out]; rfl, hb7⟩
        · go_wp2
          go_ret3
          exact ⟨by rw [← HRES.out]; rfl, hb7⟩
    · have b1 : ((st : Int) == 2) = false := by rw [beq_eq_false_iff_ne]; omega
      have HB := Lib.hid (decide_eq_false hst)
      clear hst
      cases a
      · go_wp2
        go_ret3
        exact ⟨by rw [← HRES.out]; rfl, hb7⟩
      · cases l
        · go_wp2
          go_ret3
          exact ⟨by rw [← HRES.out, HB.out]; rfl, hb7⟩
        · go_wp2
          go_ret3
          exact ⟨by rw [← HRES.out]; rfl, hb7⟩
end
end Go.Proofs.YtddddemclhlfaaaGreatDoor
namespace Go.Proofs.YtddddemclhlfaaaGreatDoor
open Go.RowKit
theorem results_t1c1t2 {P : Program} {fn : Func} {p t q r s : Nat} {tmps : Array Value} {w : World} {A : Addr} {v : Value} (hf : fn.results = #[.tmp q, .cell p t, .tmp r, .tmp s]) (hp : tmps.getD p undef = .pointer (some A)) (hl : (loadVar t A).run P w = .ok v w) : (results fn tmps).run P w = .ok (.tuple #[tmps.getD q undef, v, tmps.getD r undef, tmps.getD s undef]) w := by
  have hp' : tmps[p]?.getD undef = .pointer (some A) := by simpa using hp
  simp [results, hf, hp', asAddr, hl]
def HonRes (r : (Nat × Tg × List UInt8) × Int) (e : Ending) (w' : World) : Prop := ∃ a c, e = .returned (.tuple #[.int .u8 (r.1.1 : Int), tgV r.1.2.1, .slice a r.1.2.2.length c, .int .i64 r.2]) ∧ SlB w' a c r.1.2.2
theorem meantD_len {B g gp : Nat} {wv : Value} {d : Dk} {w : World} (h : DiskB B g gp wv d w) (s : Int) : (meantD d s).1.length ≤ 64 := by
  unfold meantD
  split
  · simp
  · rename_i h0
    obtain ⟨p, _, h2, h3⟩ := there_pl (d := d) (s := s) (by simpa using h0)
    rw [h2]
    have := (h.ok p h3).2
    simp only
    omega
theorem allM_len {B g gp : Nat} {wv : Value} {d : Dk} {w : World} (h : DiskB B g gp wv d w) (a n : Nat) : (allM d a n).length ≤ 64 * n := by
  induction n with
  | zero => simp [allM, allG]
  | succ n ih =>
    unfold allM at ih ⊢
    rw [allG_succ, List.length_append]
    have := meantD_len h ((a + n : Nat) : Int)
    (try simp only)
    omega
set_option maxRecDepth 100000 in
theorem honest_err (p : Value) (n : Nat) (w : World) (h : DiskN w p n) (rep reg pla : Int) (ha : askN n rep reg pla ≠ 0) : Calls Tryz.prog 17 #[p, .int .i64 rep, .int .i64 reg, .int .i64 pla] w fun e w' => HonRes ((0, zeroTg, []), askN n rep reg pla) e w' ∧ Below w.heap.size w w' := by
  have hbA := blw w (Obj.cells #[.int .i64 0, .int .i64 0, .int .i64 0, .int .i64 0, .int .i64 0] 33)
  have hk := asked_any p n (w.alloc (Obj.cells #[.int .i64 0, .int .i64 0, .int .i64 0, .int .i64 0, .int .i64 0] 33)) (h.below hbA) rep reg pla
  have A0 := heap_alloc_new w (Obj.cells #[.int .i64 0, .int .i64 0, .int .i64 0, .int .i64 0, .int .i64 0] 33)
  generalize askN n rep reg pla = x at *
  have e0 : (x != 0) = true := by rw [bne_iff_ne]; exact ha
  clear ha
  go_enter Tryz.func17, Tryz.ntmps17
  refine wp_seq_k (fun K hK => ?_)
  have HK := Lib.hid hK
  clear hK
  go_wp2
  refine HK.out _ _ ?_
  clear HK
  go_wp2_with (first
    | (go_at_call 48; refine hk.mono ?_; rintro e w1 ⟨rfl, hb1⟩; have A1 := tr_bl hb1 A0)
    | ((with_reducible refine wpList_stB 33 _ _ ?_); refine ⟨_, _, _, ⟨_, _, _, Tryz.sizeOf33, rfl, A1, st5 _ rfl 0 0 0 0 0⟩, ?_⟩; intro w5 B5 g5))
  have hb2 := hbA.trans (hb1.mono hbA.size)
  exact bodyPost_ret (results_t1c1t2 rfl rfl (run_loadVar_all Tryz.isAgg33 Tryz.sizeOf33 B5 rfl)) rfl ⟨⟨none, 0, rfl, slb_nil _⟩, bl_st hb2 g5 hb2.size (Nat.le_refl _)⟩
set_option maxRecDepth 100000 in
set_option maxHeartbeats 1000000 in
theorem honest_ok {B g gp : Nat} {wv : Value} {d : Dk} {w : World} (h : DiskB B g gp wv d w) (rep reg pla : Int) (ha : askG d rep reg pla = 0) : Calls Tryz.prog 17 #[.pointer (some ⟨g, 0, none⟩), .int .i64 rep, .int .i64 reg, .int .i64 pla] w fun e w' => HonRes (honG d rep reg pla) e w' ∧ Below w.heap.size w w' := by
  have hfa := ask_first ha
  have hbA := blw w (Obj.cells #[.int .i64 0, .int .i64 0, .int .i64 0, .int .i64 0, .int .i64 0] 33)
  have hk := asked_any _ _ (w.alloc (Obj.cells #[.int .i64 0, .int .i64 0, .int .i64 0, .int .i64 0, .int .i64 0] 33)) (h.below hbA).dn rep reg pla
  have hfi := first_any reg pla
  have hwi := wide_any reg
  unfold honG
  rw [if_neg (by simpa using ha)]
  unfold askG at ha
  rw [ha] at hk
  obtain ⟨f, hf⟩ : ∃ f : Nat, firstN reg pla = f := ⟨(firstN reg pla).toNat, by omega⟩
  obtain ⟨n, hn⟩ : ∃ n : Nat, wideN reg = n := ⟨(wideN reg).toNat, by omega⟩
  rw [hf] at hfi hfa ⊢
  rw [hn] at hwi hfa ⊢
  simp only [Int.toNat_natCast]
  obtain ⟨_, _, _, _, _, _, _, _, hfn, hn1, hn2⟩ := hfa
  have hfn' : f + n ≤ 156 := by omega
  have hn2' : n ≤ 2 := by omega
  clear ha hf hn hfn hn2
  obtain ⟨st, tg, body, hr⟩ : ∃ st tg body, mineF (allM d f n) rep reg pla = (st, tg, body) := ⟨_, _, _, rfl⟩
  simp only [hr]
  have HR := Lib.hid hr
  clear hr
  have A0 := heap_alloc_new w (Obj.cells #[.int .i64 0, .int .i64 0, .int .i64 0, .int .i64 0, .int .i64 0] 33)
  go_enter Tryz.func17, Tryz.ntmps17
  refine wp_seq_k (fun K hK => ?_)
  have HK := Lib.hid hK
  clear hK
  go_wp2
  refine HK.out _ _ ?_
  clear HK
  have hdA := h.below hbA
  have hqA : w.heap.size < (w.alloc (Obj.cells #[.int .i64 0, .int .i64 0, .int .i64 0, .int .i64 0, .int .i64 0] 33)).heap.size := by simp
  generalize w.alloc (Obj.cells #[.int .i64 0, .int .i64 0, .int .i64 0, .int .i64 0, .int .i64 0] 33) = w0 at *
  refine wp_seq_k (fun K hK => ?_)
  have HK := Lib.hid hK
  clear hK
  go_wp2_with (go_at_call 48; refine hk.mono ?_; rintro e w1 ⟨rfl, hb1⟩)
  refine HK.out _ _ ?_
  clear HK
  refine wp_seq_k (fun K hK => ?_)
  have HK := Lib.hid hK
  clear hK
  go_wp2
  refine HK.out _ _ ?_
  clear HK
  refine wp_seq_k (fun K hK => ?_)
  have HK := Lib.hid hK
  clear hK
  go_wp2_with (go_at_call 49; refine (hwi _).mono ?_; rintro e w2 ⟨rfl, hb2⟩)
  have hb3 := hb1.trans (hb2.mono hb1.size)
  have A3 := tr_bl hb3 A0
  have hd3 := hdA.below hb3
  have hb4 := hbA.trans (hb3.mono hbA.size)
  clear hb1 hb2 hb3 hk hwi hdA A0
  go_loopw [31, 13, 14, 15, 16] (fun s all _ _ _ wr => ∃ (j : Nat) (v : Value), j ≤ n ∧ s = .int .i64 (j : Int) ∧ all = v ∧ wr.ownsRow w2.heap.size 5 1 v (allM d f j).length (bys (allM d f j)) ∧ Below w2.heap.size w2 wr) (fun s _ _ _ _ _ => n - (intOf s).toNat)
  case atStart => exact ⟨0, _, by omega, by simp, rfl, World.ownsRow_nil _ _ _ _, Below.refl _ _⟩
  case round =>
    obtain ⟨j, v, hj, rfl, rfl, hown, hbr⟩ := hrel
    have hdr := hd3.below hbr
    by_cases hlt : j < n
    case pos =>
      have hil : (j : Int) < (n : Int) := by omega
      have hle := allM_len h f j
      have hrl := meantD_len h ((f + j : Nat) : Int)
      have hsn := allG_succ (fun s => (meantD d s).1) f j
      have hre := fun (w' : World) (hd : DiskB B g gp wv d w') => meant_sl hd ((f + j : Nat) : Int)
      change allM d f (j + 1) = allM d f j ++ _ at hsn
      (try simp only at hsn)
      simp only [Int.natCast_add] at hre hrl hsn
      generalize meantD d ((f : Int) + (j : Int)) = r at *
      obtain ⟨rl, er⟩ := r
      (try simp only at hre)
      (try simp only at hrl)
      (try simp only at hsn)
      have HSN := Lib.hid hsn
      clear hsn
      generalize hal : allM d f j = al at *
      clear hal
      go_wp2_with (first
        | (go_at_call 42; refine (hfi _).mono ?_; rintro e w7 ⟨rfl, hb7⟩; have hre7 := hre _ (hdr.below hb7); have hb77 := hbr.trans (hb7.mono hbr.size); have ho7 := owns_bl hown hb7)
        | (go_at_call 57; refine hre7.mono ?_; rintro e w8 ⟨⟨a8, c8, rfl, s8⟩, hb8⟩; have ho8 := owns_bl ho7 hb8; have hb9 := hb77.trans (hb8.mono hb77.size); have hr8 := s8.row)
        | (at_builtin; refine wpList_append_row rfl _ _ 34 5 elByte rfl w2.heap.size _ al.length (bys al) rfl ho8 a8 rl.length c8 (bys rl) rfl (by rw [bys_len]; omega) hr8 bys_one (by omega) (by decide) hb9.size ?_; intro v9 w9 ho9 hb10))
      rw [← bys_app] at ho9
      go_roundw
      case rel => exact ⟨j + 1, v9, by omega, by go_num, rfl, by rw [HSN.out, List.length_append]; exact ho9, hb9.trans hb10⟩
      case measure => simp [intOf]; omega
    case neg =>
      obtain rfl : j = n := by omega
      obtain ⟨a9, c9, rfl, s9⟩ := SlB.of_owns hown
      have hmi := mine_any a9 c9 (allM d f j) rep reg pla wr s9 (by have := allM_len h f j; omega)
      rw [HR.out] at hmi
      have A4 := tr_bl hbr A3
      have hb5 := hb4.trans (hbr.mono hb4.size)
      clear hdr hd3 hb4 A3 hown
      go_wp2
      refine HK.out _ _ ?_
      clear HK
      refine wp_seq_k (fun K hK => ?_)
      have HK := Lib.hid hK
      clear hK
      go_wp2_with (first
              | (go_at_call 50; refine hmi.mono ?_; rintro e w8 ⟨⟨a8, c8, rfl, ho8⟩, hb8⟩)
              | ((first | (with_reducible refine wpList_stNew 33 _ _ ?_) | (with_reducible refine wp_stNew 33 _ _ ?_)); refine ⟨_, _, ⟨Tryz.sizeOf33, rfl, tg_new _⟩, rfl, ?_⟩))
      refine HK.out _ _ ?_
      clear HK
      have A8 := tr_al (Obj.cells #[.int .i64 tg.rep, .int .i64 tg.reg, .int .i64 tg.pla, .int .i64 tg.idx, .int .i64 tg.inc] 33) (tr_bl hb8 A4)
      have T8 := heap_alloc_new w8 (Obj.cells #[.int .i64 tg.rep, .int .i64 tg.reg, .int .i64 tg.pla, .int .i64 tg.idx, .int .i64 tg.inc] 33)
      have hb9 := (hb5.trans (hb8.mono hb5.size)).alloc (by have := hb5.size; have := hb8.size; omega) (Obj.cells #[.int .i64 tg.rep, .int .i64 tg.reg, .int .i64 tg.pla, .int .i64 tg.idx, .int .i64 tg.inc] 33)
      have ho9 := ho8.below (blw w8 (Obj.cells #[.int .i64 tg.rep, .int .i64 tg.reg, .int .i64 tg.pla, .int .i64 tg.idx, .int .i64 tg.inc] 33))
      have hne : w.heap.size ≠ w8.heap.size := by have := hb5.size; have := hb8.size; have := lt_blk A4; omega
      clear hb5 hbr hb8 ho8 A4 hmi s9
      generalize w8.alloc (Obj.cells #[.int .i64 tg.rep, .int .i64 tg.reg, .int .i64 tg.pla, .int .i64 tg.idx, .int .i64 tg.inc] 33) = w9 at *
      generalize w8.heap.size = q8 at *
      refine wp_seq_k (fun K hK => ?_)
      have HK := Lib.hid hK
      clear hK
      go_wp2_with fail
      have hbd := (Below.refl w9.heap.size w9).drew
      have F4 := tr_bl hbd A8
      have T11 := tr_bl hbd T8
      have hb14 := hb9.trans (hbd.mono hb9.size)
      have ho11 := ho9.below hbd
      clear A8 T8 hb9 ho9
      refine wp_region_held_drew (S := fun w' => w'.heap[q8]? = some (.cells #[.int .i64 tg.rep, .int .i64 tg.reg, .int .i64 tg.pla, .int .i64 tg.idx, .int .i64 tg.inc] 33 (0, 0))) (by kernel_rfl) T11 (fun hS0 => ?_)
      clear hbd
      generalize w9.drew = x0 at *
      refine wpAnyH_take (i := 0) (oi := ⟨_, _, _, _, _, _⟩) (v := ?_) rfl (by kernel_rfl) (by kernel_rfl) (by kernel_rfl) (fun _ _ _ h => h) (Or.inl ⟨by rfl, ?_⟩) (by assumption) ?_
      rotate_left
      · intro wS hSw; go_simp; (try with_reducible rfl)
      (try simp only [Act.put]); (try simp only [List.setIfInBounds_toArray]); (try simp only [List.set_cons_succ]); (try simp only [List.set_cons_zero])
      refine wpAnyH_take (i := 1) (oi := ⟨_, _, _, _, _, _⟩) (v := .agg (#[.int .i64 tg.rep, .int .i64 tg.reg, .int .i64 tg.pla, .int .i64 tg.idx, .int .i64 tg.inc])) rfl (by kernel_rfl) (by kernel_rfl) (by kernel_rfl) (fun _ _ _ h => h) (Or.inl ⟨by rfl, fun wS hSw => ?_⟩) (by assumption) ?_
      · exact exec_ldB 33 _ ⟨_, _, _, _, _, Tryz.isAgg33, Tryz.sizeOf33, rfl, hSw, ld5 _ _ _ _ _⟩
      (try simp only [Act.put]); (try simp only [List.setIfInBounds_toArray]); (try simp only [List.set_cons_succ]); (try simp only [List.set_cons_zero])
      refine wpAnyH_take (i := 2) (oi := ⟨_, _, _, _, _, _⟩) (v := ?_) rfl (by kernel_rfl) (by kernel_rfl) (by kernel_rfl) (fun _ _ _ h => h) (Or.inl ⟨by rfl, ?_⟩) (by assumption) ?_
      rotate_left
      · intro wS hSw; go_simp; (try with_reducible rfl)
      (try simp only [Act.put]); (try simp only [List.setIfInBounds_toArray]); (try simp only [List.set_cons_succ]); (try simp only [List.set_cons_zero])
      refine wpAnyH_take (i := 3) (oi := ⟨_, _, _, _, _, _⟩) (v := ?_) rfl (by kernel_rfl) (by kernel_rfl) (by kernel_rfl) (fun _ _ _ h => h) (Or.inl ⟨by rfl, ?_⟩) (by assumption) ?_
      rotate_left
      · intro wS hSw; go_simp; (try with_reducible rfl)
      (try simp only [Act.put]); (try simp only [List.setIfInBounds_toArray]); (try simp only [List.set_cons_succ]); (try simp only [List.set_cons_zero])
      refine wpAnyH_ready (rs := [4]) (by kernel_rfl) (by simp) ?_
      refine AllReadyH.cons (o := ⟨_, _, _, _, _, _⟩) rfl (fun K' hK' => ?_) AllReadyH.nil
      refine (if_pos (by rfl)).mpr ?_
      refine wp_stB 33 _ _ ?_
      refine ⟨_, _, _, ⟨_, _, _, Tryz.sizeOf33, rfl, F4, st5 _ rfl tg.rep tg.reg tg.pla tg.idx tg.inc⟩, ?_⟩
      intro w11 B11 g11
      refine hK'.out _ _ (tr_st g11 hS0 hne) (fun _ => ?_)
      clear hK'
      (try simp only [Act.put]); (try simp only [List.setIfInBounds_toArray]); (try simp only [List.set_cons_succ]); (try simp only [List.set_cons_zero])
      refine wpAnyH_take (i := 5) (oi := ⟨_, _, _, _, _, _⟩) (v := ?_) rfl (by kernel_rfl) (by kernel_rfl) (by kernel_rfl) (fun _ _ _ h => h) (Or.inl ⟨by rfl, ?_⟩) (by assumption) ?_
      rotate_left
      · intro wS hSw; go_simp; (try with_reducible rfl)
      (try simp only [Act.put]); (try simp only [List.setIfInBounds_toArray]); (try simp only [List.set_cons_succ]); (try simp only [List.set_cons_zero])
      refine wpAnyH_take (i := 6) (oi := ⟨_, _, _, _, _, _⟩) (v := ?_) rfl (by kernel_rfl) (by kernel_rfl) (by kernel_rfl) (fun _ _ _ h => h) (Or.inl ⟨by rfl, ?_⟩) (by assumption) ?_
      rotate_left
      · intro wS hSw; go_simp; (try with_reducible rfl)
      (try simp only [Act.put]); (try simp only [List.setIfInBounds_toArray]); (try simp only [List.set_cons_succ]); (try simp only [List.set_cons_zero])
      refine wpAnyH_done (by kernel_rfl) ?_ _
      refine HK.out _ _ ?_
      clear HK
      go_wp2
      exact bodyPost_ret (results_t1c1t2 rfl rfl (run_loadVar_all Tryz.isAgg33 Tryz.sizeOf33 B11 rfl)) rfl ⟨⟨a8, c8, rfl, (ho11.st g11 F4 (by decide)).slb⟩, bl_st hb14 g11 hb14.size (Nat.le_refl _)⟩
theorem honest_any {B g gp : Nat} {wv : Value} {d : Dk} {w : World} (h : DiskB B g gp wv d w) (rep reg pla : Int) : Calls Tryz.prog 17 #[.pointer (some ⟨g, 0, none⟩), .int .i64 rep, .int .i64 reg, .int .i64 pla] w fun e w' => HonRes (honG d rep reg pla) e w' ∧ Below w.heap.size w w' := by
  by_cases ha : askG d rep reg pla = 0
  · exact honest_ok h rep reg pla ha
  · have := honest_err _ _ w h.dn rep reg pla ha
    unfold honG
    rw [if_pos ha]
    exact this
end Go.Proofs.YtddddemclhlfaaaGreatDoor
namespace Go.Proofs.YtddddemclhlfaaaGreatDoor
open Go.RowKit
theorem seenR_no {d : Dk} {rep : Int} {r p : Nat} (hr : r < 5) (hp : p < (placesN ((r + 1 : Nat) : Int)).toNat) (h : (placeG d rep ((r + 1 : Nat) : Int) p).1 ≠ (placeG d rep ((r + 1 : Nat) : Int) p).2.1) : seenR d rep 5 = false := by
  rw [Bool.eq_false_iff]
  intro hh
  unfold seenR at hh
  rw [List.all_eq_true] at hh
  have h1 := hh r (List.mem_range.2 hr)
  unfold seenP at h1
  rw [List.all_eq_true] at h1
  have h2 := h1 p (List.mem_range.2 hp)
  exact h (eq_of_beq h2)
set_option maxRecDepth 100000 in
theorem seen_err (p : Value) (n : Nat) (w : World) (h : DiskN w p n) (rep : Int) (ha : askN n rep 1 0 ≠ 0) : Calls Tryz.prog 15 #[p, .int .i64 rep] w fun e w' => e = .returned (.tuple #[.bool false, .int .i64 (askN n rep 1 0)]) ∧ Below w.heap.size w w' := by
  have hk := asked_any p n w h rep 1 0
  generalize askN n rep 1 0 = x at *
  have e0 : (x != 0) = true := by rw [bne_iff_ne]; exact ha
  clear ha
  go_enter Tryz.func15, Tryz.ntmps15
  go_wp2_with (go_at_call 48; refine hk.mono ?_; rintro e w1 ⟨rfl, hb1⟩)
  go_ret2
  exact ⟨rfl, hb1⟩
set_option maxRecDepth 100000 in
set_option maxHeartbeats 1000000 in
theorem seen_ok {B g gp : Nat} {wv : Value} {d : Dk} {w : World} (h : DiskB B g gp wv d w) (rep : Int) (ha : askG d rep 1 0 = 0) : Calls Tryz.prog 15 #[.pointer (some ⟨g, 0, none⟩), .int .i64 rep] w fun e w' => e = .returned (.tuple #[.bool (seenG d rep).1, .int .i64 (seenG d rep).2]) ∧ Below w.heap.size w w' := by
  have hk := asked_any _ _ w h.dn rep 1 0
  unfold seenG
  rw [if_neg (by simpa using ha)]
  unfold askG at ha
  rw [ha] at hk
  clear ha
  obtain ⟨res, hres⟩ : ∃ res, seenR d rep 5 = res := ⟨_, rfl⟩
  simp only [hres]
  have HRES := Lib.hid hres
  clear hres
  go_enter Tryz.func15, Tryz.ntmps15
  refine wp_seq_k (fun K hK => ?_)
  have HK := Lib.hid hK
  clear hK
  go_wp2
  refine HK.out _ _ ?_
  clear HK
  refine wp_seq_k (fun K hK => ?_)
  have HK := Lib.hid hK
  clear hK
  go_wp2_with (go_at_call 48; refine hk.mono ?_; rintro e w1 ⟨rfl, hb1⟩)
  refine HK.out _ _ ?_
  clear HK
  refine wp_seq_k (fun K hK => ?_)
  have HK := Lib.hid hK
  clear hK hk
  go_wp2
  go_loopw [7, 8, 9, 10, 11] (fun s _ _ _ _ wr => ∃ r : Nat, r ≤ 5 ∧ s = .int .i64 ((r : Int) + 1) ∧ seenR d rep r = true ∧ Below w.heap.size w wr) (fun s _ _ _ _ _ => 6 - (intOf s).toNat)
  case atStart => exact ⟨0, by omega, rfl, rfl, hb1⟩
  case round =>
    obtain ⟨r, hr5, rfl, hsr, hbr⟩ := hrel
    have hps := places_any ((r : Int) + 1)
    obtain ⟨N, hN, hN2, hN3, hN48⟩ : ∃ N : Nat, placesN ((r : Int) + 1) = N ∧ (r < 5 → 0 < N) ∧ (r = 5 → N = 0) ∧ N ≤ 48 := by
      rcases (show r = 0 ∨ r = 1 ∨ r = 2 ∨ r = 3 ∨ r = 4 ∨ r = 5 by omega) with rfl | rfl | rfl | rfl | rfl | rfl
      · exact ⟨2, rfl, by omega, by omega, by omega⟩
      · exact ⟨2, rfl, by omega, by omega, by omega⟩
      · exact ⟨24, rfl, by omega, by omega, by omega⟩
      · exact ⟨48, rfl, by omega, by omega, by omega⟩
      · exact ⟨16, rfl, by omega, by omega, by omega⟩
      · exact ⟨0, rfl, by omega, by omega, by omega⟩
    rw [hN] at hps
    have HN := Lib.hid hN
    have HSR := Lib.hid hsr
    clear hN hsr
    by_cases hlt : r < 5
    case neg =>
      obtain rfl : r = 5 := by omega
      obtain rfl := hN3 rfl
      have hres : res = true := by rw [← HRES.out, HSR.out]
      clear hN2 hN3 hlt HN
      subst hres
      go_wp2_with (go_at_call 55; refine (hps _).mono ?_; rintro e w2 ⟨rfl, hb2⟩)
      refine HK.out _ _ ?_
      clear HK
      go_wp2
      go_ret2
      exact ⟨rfl, hbr.trans (hb2.mono hbr.size)⟩
    case pos =>
      have hN0 : (0 : Int) < (N : Int) := by have := hN2 hlt; omega
      clear hN2 hN3
      refine wp_seq_k (fun K2 hK2 => ?_)
      have HK2 := Lib.hid hK2
      clear hK2
      go_wp2_with (go_at_call 55; refine (hps _).mono ?_; rintro e w2 ⟨rfl, hb2⟩)
      refine HK2.out _ _ ?_
      clear HK2
      have hb3 := hbr.trans (hb2.mono hbr.size)
      clear hbr hb2
      refine wp_seq_k (fun K3 hK3 => ?_)
      have HK3 := Lib.hid hK3
      clear hK3
      go_wp2_with (go_at_call 55; refine (hps _).mono ?_; rintro e w3 ⟨rfl, hb4⟩)
      have hb5 := hb3.trans (hb4.mono hb3.size)
      clear hb3 hb4
      go_loopw [25, 8, 9, 10, 11] (fun s _ _ _ _ wr => ∃ p : Nat, p ≤ N ∧ s = .int .i64 (p : Int) ∧ seenP d rep (r + 1) p = true ∧ Below w.heap.size w wr) (fun s _ _ _ _ _ => N - (intOf s).toNat)
      case atStart => exact ⟨0, by omega, rfl, rfl, hb5⟩
      case round =>
        clear hb5
        obtain ⟨p, hpN, rfl, hsp, hbp⟩ := hrel
        have HSP := Lib.hid hsp
        clear hsp
        by_cases hpl : p < N
        case pos =>
          have hpi : (p : Int) < (N : Int) := by omega
          have hpl2 := place_any (h.below hbp) rep ((r : Int) + 1) (p : Int)
          have hno := fun hh => seenR_no (d := d) (rep := rep) hlt (p := p) (by rw [Int.natCast_succ, HN.out]; simpa using hpl) hh
          have hye := seenP_succ d rep (r + 1) p
          rw [HSP.out, Bool.true_and] at hye
          rw [Int.natCast_succ] at hno hye
          obtain ⟨hu, se, er, hpg⟩ : ∃ hu se er, placeG d rep ((r : Int) + 1) (p : Int) = (hu, se, er) := ⟨_, _, _, rfl⟩
          rw [hpg] at hpl2 hno hye
          clear hpg
          simp only at hpl2 hno hye
          by_cases heq : hu = se
          case pos =>
            subst heq
            have HYE := Lib.hid (show seenP d rep (r + 1) (p + 1) = true by rw [hye]; simp)
            clear hno hye
            cases hu
            all_goals
              go_wp2_with (first
                | (go_at_call 13; refine hpl2.mono ?_; rintro e w5 ⟨rfl, hb5⟩))
              go_roundw
              case rel => exact ⟨p + 1, by omega, by go_num, HYE.out, hbp.trans (hb5.mono hbp.size)⟩
              case measure => simp [intOf]; omega
          case neg =>
            have hres : res = false := by rw [← HRES.out]; exact hno heq
            subst hres
            clear hno hye
            have hse : se = !hu := by revert heq; cases hu <;> cases se <;> simp
            subst hse
            clear heq
            cases hu
            all_goals
              simp only [Bool.not_false, Bool.not_true] at hpl2
              go_wp2_with (first
                | (go_at_call 13; refine hpl2.mono ?_; rintro e w5 ⟨rfl, hb5⟩))
              go_ret2
              exact ⟨rfl, hbp.trans (hb5.mono hbp.size)⟩
        case neg =>
          obtain rfl : p = N := by omega
          have HS2 := Lib.hid (show seenR d rep (r + 1) = true by
            rw [seenR_succ, HSR.out, Bool.true_and, Int.natCast_succ, HN.out]
            exact HSP.out)
          go_wp2
          refine HK3.out _ _ ?_
          clear HK3
          go_wp2
          go_roundw
          case rel => exact ⟨r + 1, by omega, by go_num, HS2.out, hbp⟩
          case measure => simp [intOf]; omega
theorem seen_any {B g gp : Nat} {wv : Value} {d : Dk} {w : World} (h : DiskB B g gp wv d w) (rep : Int) : Calls Tryz.prog 15 #[.pointer (some ⟨g, 0, none⟩), .int .i64 rep] w fun e w' => e = .returned (.tuple #[.bool (seenG d rep).1, .int .i64 (seenG d rep).2]) ∧ Below w.heap.size w w' := by
  by_cases ha : askG d rep 1 0 = 0
  · exact seen_ok h rep ha
  · have := seen_err _ _ w h.dn rep ha
    unfold seenG
    rw [if_pos ha]
    exact this
end Go.Proofs.YtddddemclhlfaaaGreatDoor
