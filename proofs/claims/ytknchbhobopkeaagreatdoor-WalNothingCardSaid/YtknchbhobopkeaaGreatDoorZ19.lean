/- Texts that the claim leans on, part 19: G1, G2, G3, G4, G5, G6, G7, N5. -/
import Derived.Test.YtknchbhobopkeaaGreatDoorZ1
import Derived.Test.YtknchbhobopkeaaGreatDoorZ2
import Derived.Test.YtknchbhobopkeaaGreatDoorZ3
import Derived.Test.YtknchbhobopkeaaGreatDoorZ4
import Derived.Test.YtknchbhobopkeaaGreatDoorZ5
import Derived.Test.YtknchbhobopkeaaGreatDoorZ6
import Derived.Test.YtknchbhobopkeaaGreatDoorZ7
import Derived.Test.YtknchbhobopkeaaGreatDoorZ8
import Derived.Test.YtknchbhobopkeaaGreatDoorZ9
import Derived.Test.YtknchbhobopkeaaGreatDoorZ10
import Derived.Test.YtknchbhobopkeaaGreatDoorZ11
import Derived.Test.YtknchbhobopkeaaGreatDoorZ12
import Derived.Test.YtknchbhobopkeaaGreatDoorZ13
import Derived.Test.YtknchbhobopkeaaGreatDoorZ14
import Derived.Test.YtknchbhobopkeaaGreatDoorZ15
import Derived.Test.YtknchbhobopkeaaGreatDoorZ16
import Derived.Test.YtknchbhobopkeaaGreatDoorZ17
import Derived.Test.YtknchbhobopkeaaGreatDoorZ18
import Derived.Test.YtknchbhobopkeaaGreatDoorRows
import Derived.WalkKit
import Derived.WalkSpells
import Derived.WalkLawsBesides
import Derived.Handy
import Derived.Deep.QuietTactic
import Derived.BigQuiet
import Derived.Deep.DeepCutAuto
import Derived.Lib.Hide
import Derived.RegionTactic
import Derived.ChangeAlike
import Derived.Laws.ResultCell
import Derived.Outline
import Derived.Shelf.Abstract
import Derived.Shelf.RegionOpen
import Derived.OwnWalkIn
import Derived.TacticsInMore
import Derived.LoopNIn
import Derived.LoopIn
import Derived.Maps.AppendAt
import Derived.IntWalk
import Derived.RangeFuncNested
import Derived.RangeFuncBound
import Derived.RangeFuncCalls
import Derived.RangeFuncLeaves
import Derived.RangeFuncBox
import Derived.RangeFuncRecord
import Derived.Maps.OwnIn
import Derived.Laws.IdiomStrings
import Derived.Laws.BytesArg
import Derived.LoopN
import Derived.ChangeSlices
import Derived.ProofKit
import Derived.Deep.Slices
import Derived.Deep.Strs
import Derived.OpenShut
import Derived.Lib.SmallJoins
import Derived.Laws.MakeOwn
import Derived.Lib.SliceRun
import Derived.Laws.BitsAllLaws
import Derived.Great.BuildSlice
import Derived.Great.FillDense
import Derived.Laws.Rows
import Derived.Deep.Quiet
import Derived.Deep.RegionHeld3
import Derived.Lib.AppendStr
import Derived.Laws.Strings
import Derived.Laws.CopyOwn
import Derived.Laws.CopyRow
import Derived.Laws.NewBlocks
import Derived.Deep.RegionLaw
namespace Go.Proofs.YtknchbhobopkeaaGreatDoor
open Go.RowKit
theorem rest_nil {d : Dk} {s : Int} (h : ¬ ((restD d s).2.2 = 0 ∧ (restD d s).2.1 = false)) : (restD d s).1 = [] := by
  unfold restD at h ⊢
  split
  · rfl
  · rename_i h0
    rw [if_neg h0] at h
    split
    · rfl
    · rename_i h1
      rw [if_neg h1] at h
      exact absurd ⟨rfl, rfl⟩ h
theorem meant_nil {d : Dk} {s : Int} (h : ¬ (meantD d s).2 = 0) : (meantD d s).1 = [] := by
  unfold meantD at h ⊢
  split
  · rfl
  · rename_i h0
    rw [if_neg h0] at h
    exact absurd rfl h
theorem owns64 {w : World} {base : Nat} {a : Option Addr} {c : Nat} {l : List UInt8} (h : w.ownsRow base 5 1 (.slice a 64 c) 64 (bys l)) : l.length = 64 ∧ SlB w a c l := by
  have hl : l.length = 64 := by
    have := h.1
    rw [bys_len] at this
    omega
  rw [← hl] at h
  obtain ⟨a', c', e, hs⟩ := SlB.of_owns h
  injection e with e1 e2 e3
  subst e1 e3
  exact ⟨hl, hs⟩
theorem slb_nil (w : World) : SlB w none 0 [] := ⟨.inl rfl, Nat.le_refl _, by simp, fun _ => rfl⟩
theorem RestRes.slb {base : Nat} {d : Dk} {s : Int} {e : Ending} {w' : World} (h : RestRes base (restD d s) e w') : ∃ a c, e = .returned (.tuple #[.slice a (restD d s).1.length c, .bool (restD d s).2.1, .int .i64 (restD d s).2.2]) ∧ SlB w' a c (restD d s).1 := by
  have hn := @rest_nil d s
  generalize restD d s = r at *
  unfold RestRes at h
  split at h
  · rename_i h0
    obtain ⟨a, c, he, ho⟩ := h
    obtain ⟨h1, h2⟩ := owns64 ho
    refine ⟨a, c, ?_, h2⟩
    rw [he, h1, h0.1, h0.2]
  · rename_i h0
    have := hn h0
    rw [this]
    exact ⟨none, 0, h, slb_nil w'⟩
theorem ReadRes.slb {base : Nat} {r : List UInt8 × Int} {e : Ending} {w' : World} (h : ReadRes base r e w') (hn : ¬ r.2 = 0 → r.1 = []) : ∃ a c, e = .returned (.tuple #[.slice a r.1.length c, .int .i64 r.2]) ∧ SlB w' a c r.1 := by
  unfold ReadRes at h
  split at h
  · rename_i h0
    obtain ⟨a, c, he, ho⟩ := h
    obtain ⟨h1, h2⟩ := owns64 ho
    refine ⟨a, c, ?_, h2⟩
    rw [he, h1, h0]
  · rename_i h0
    rw [hn h0]
    exact ⟨none, 0, h, slb_nil w'⟩
section
variable {B g gp : Nat} {wv : Value} {d : Dk} {w : World}
theorem rest_sl (h : DiskB B g gp wv d w) (s : Int) : Calls Tryz.prog 51 #[.pointer (some ⟨g, 0, none⟩), .int .i64 s] w fun e w' => (∃ a c, e = .returned (.tuple #[.slice a (restD d s).1.length c, .bool (restD d s).2.1, .int .i64 (restD d s).2.2]) ∧ SlB w' a c (restD d s).1) ∧ Below w.heap.size w w' :=
  (rest_any h s).mono fun _ _ hh => ⟨hh.1.slb, hh.2⟩
theorem meant_sl (h : DiskB B g gp wv d w) (s : Int) : Calls Tryz.prog 71 #[.pointer (some ⟨g, 0, none⟩), .int .i64 s] w fun e w' => (∃ a c, e = .returned (.tuple #[.slice a (meantD d s).1.length c, .int .i64 (meantD d s).2]) ∧ SlB w' a c (meantD d s).1) ∧ Below w.heap.size w w' :=
  (meant_any h s).mono fun _ _ hh => ⟨hh.1.slb meant_nil, hh.2⟩
set_option maxRecDepth 100000 in
theorem is_any (h : DiskB B g gp wv d w) (q : Nat) (hq : w.cell? ⟨q, 0, none⟩ = some (.pointer (some ⟨g, 0, none⟩))) (s : Int) : Calls Tryz.prog 70 #[.int .i64 s, .pointer (some ⟨q, 0, none⟩)] w fun e w' => e = .returned (.bool (hurtB d s)) ∧ Below w.heap.size w w' := by
  have hr := rest_sl h s
  unfold hurtB
  obtain ⟨l, lost, er, hre⟩ : ∃ l lost er, restD d s = (l, lost, er) := ⟨_, _, _, rfl⟩
  obtain ⟨m, em, hme⟩ : ∃ m em, meantD d s = (m, em) := ⟨_, _, rfl⟩
  rw [hre] at hr ⊢
  rw [hme]
  have HM := Lib.hid hme
  clear hre hme
  simp only at hr ⊢
  by_cases he : er = 0
  · subst he
    cases lost
    · simp only [decide_true, Bool.true_and, Bool.false_or]
      go_enter Tryz.func70, Tryz.ntmps70
      go_wp2_with (first
        | (go_at_call 51; refine hr.mono ?_; rintro e w1 ⟨⟨a1, c1, rfl, s1⟩, hb1⟩; have hm := meant_sl (h.below hb1) s; rw [HM.out] at hm; have hq1 := cell_later hb1 hq)
        | (go_at_call 71; refine hm.mono ?_; rintro e w2 ⟨⟨a2, c2, rfl, s2⟩, hb2⟩; have hr1 := s1.row.below0 hb2; have hr2 := s2.row)
        | (go_at_call 72; refine (equal_any a1 a2 c1 c2 l m _ hr1 hr2).mono ?_; rintro e w3 ⟨rfl, rfl⟩))
      go_ret
      exact ⟨rfl, hb1.trans (hb2.mono hb1.size)⟩
    · simp only [decide_true, Bool.true_and, Bool.true_or]
      go_enter Tryz.func70, Tryz.ntmps70
      go_wp2_with (first
        | (go_at_call 51; refine hr.mono ?_; rintro e w1 ⟨⟨a1, c1, rfl, s1⟩, hb1⟩; have hm := meant_sl (h.below hb1) s; rw [HM.out] at hm; have hq1 := cell_later hb1 hq)
        | (go_at_call 71; refine hm.mono ?_; rintro e w2 ⟨⟨a2, c2, rfl, s2⟩, hb2⟩; have hr1 := s1.row.below0 hb2; have hr2 := s2.row)
        | (go_at_call 72; refine (equal_any a1 a2 c1 c2 l m _ hr1 hr2).mono ?_; rintro e w3 ⟨rfl, rfl⟩))
      go_ret
      exact ⟨rfl, hb1.trans (hb2.mono hb1.size)⟩
  · have e1 : (er == 0) = false := by rw [beq_eq_false_iff_ne]; exact he
    rw [decide_eq_false he, Bool.false_and]
    clear he
    go_enter Tryz.func70, Tryz.ntmps70
    go_wp2_with (first
      | (go_at_call 51; refine hr.mono ?_; rintro e w1 ⟨⟨a1, c1, rfl, s1⟩, hb1⟩; have hm := meant_sl (h.below hb1) s; rw [HM.out] at hm; have hq1 := cell_later hb1 hq)
      | (go_at_call 71; refine hm.mono ?_; rintro e w2 ⟨⟨a2, c2, rfl, s2⟩, hb2⟩; have hr1 := s1.row.below0 hb2; have hr2 := s2.row)
      | (go_at_call 72; refine (equal_any a1 a2 c1 c2 l m _ hr1 hr2).mono ?_; rintro e w3 ⟨rfl, rfl⟩))
    go_ret
    exact ⟨rfl, hb1.trans (hb2.mono hb1.size)⟩
end
end Go.Proofs.YtknchbhobopkeaaGreatDoor
namespace Go.Proofs.YtknchbhobopkeaaGreatDoor
open Go.RowKit Go.Shelf
theorem hurtsL_pre (d : Dk) {f k t : Nat} (h1 : f ≤ k) (h2 : k ≤ t) : hurtsL d f k <+: hurtsL d f t := by
  unfold hurtsL rangeI
  refine List.IsPrefix.filter _ (List.IsPrefix.map _ ?_)
  refine ⟨List.range' k (t - k), ?_⟩
  have := List.range'_append_1 (s := f) (m := k - f) (n := t - k)
  rw [show f + (k - f) = k by omega, show k - f + (t - k) = t - f by omega] at this
  exact this
structure HuB (pa : Option Addr) (m f t : Nat) (w : World) : Prop where
  c0 : w.cell? ⟨m, 0, none⟩ = some (.pointer pa)
  c1 : w.cell? ⟨m + 1, 0, none⟩ = some (.int .i64 (f : Int))
  c2 : w.cell? ⟨m + 2, 0, none⟩ = some (.int .i64 (t : Int))
  c3 : w.cell? ⟨m + 3, 0, none⟩ = some (.func (.func 70) #[] #[.pointer (some ⟨m, 0, none⟩)])
theorem cell_bx {n m k : Nat} {w w' : World} {v : Value} (h : KpH n m w w') (h1 : m ≤ k) (h2 : k < m + 4) (hc : w.cell? ⟨k, 0, none⟩ = some v) : w'.cell? ⟨k, 0, none⟩ = some v := by
  unfold World.cell? at hc ⊢
  simp only at hc ⊢
  rw [h.bx k h1 h2]
  exact hc
theorem HuB.kp {pa : Option Addr} {m f t n : Nat} {w w' : World} (h : HuB pa m f t w) (hk : KpH n m w w') : HuB pa m f t w' :=
  ⟨cell_bx hk (by omega) (by omega) h.c0, cell_bx hk (by omega) (by omega) h.c1, cell_bx hk (by omega) (by omega) h.c2, cell_bx hk (by omega) (by omega) h.c3⟩
theorem HuB.below {pa : Option Addr} {m f t : Nat} {w w' : World} (h : HuB pa m f t w) (hb : Below w.heap.size w w') : HuB pa m f t w' :=
  ⟨cell_later hb h.c0, cell_later hb h.c1, cell_later hb h.c2, cell_later hb h.c3⟩
theorem fn_new (f : Fn) (ts lb : Array Value) : (Value.func f ts lb).cells = #[.func f ts lb] ∧ (#[Value.func f ts lb]).size = 1 ∧ ∀ u ∈ (#[Value.func f ts lb]).toList, u.oneCell' = true := ⟨rfl, rfl, by simp [Value.oneCell']⟩
set_option maxRecDepth 100000 in
theorem hurts_any (pa : Option Addr) (f t : Nat) (w : World) : Calls Tryz.prog 50 #[.pointer pa, .int .i64 (f : Int), .int .i64 (t : Int)] w fun e w' =>
    e = .returned (.func (.func 73) #[] #[.pointer (some ⟨w.heap.size + 1, 0, none⟩), .pointer (some ⟨w.heap.size + 2, 0, none⟩), .pointer (some ⟨w.heap.size + 3, 0, none⟩)]) ∧ HuB pa w.heap.size f t w' ∧ w'.heap.size = w.heap.size + 4 ∧ Below w.heap.size w w' := by
  go_enter Tryz.func50, Tryz.ntmps50
  refine wp_seq_k (fun K hK => ?_)
  have HK := Lib.hid hK
  clear hK
  go_wp2
  refine HK.out _ _ ?_
  clear HK
  have hb1 := blw w (Obj.cells #[.pointer pa] 23)
  have hb2 := hb1.alloc (by simp) (Obj.cells #[.int .i64 (f : Int)] 3)
  have hb3 := hb2.alloc (by simp; omega) (Obj.cells #[.int .i64 (t : Int)] 3)
  have d0 : (((w.alloc (Obj.cells #[.pointer pa] 23)).alloc (Obj.cells #[.int .i64 (f : Int)] 3)).alloc (Obj.cells #[.int .i64 (t : Int)] 3)).cell? ⟨w.heap.size, 0, none⟩ = some (.pointer pa) := by go_simp
  have d1 : (((w.alloc (Obj.cells #[.pointer pa] 23)).alloc (Obj.cells #[.int .i64 (f : Int)] 3)).alloc (Obj.cells #[.int .i64 (t : Int)] 3)).cell? ⟨w.heap.size + 1, 0, none⟩ = some (.int .i64 (f : Int)) := by go_simp
  have d2 : (((w.alloc (Obj.cells #[.pointer pa] 23)).alloc (Obj.cells #[.int .i64 (f : Int)] 3)).alloc (Obj.cells #[.int .i64 (t : Int)] 3)).cell? ⟨w.heap.size + 2, 0, none⟩ = some (.int .i64 (t : Int)) := by go_simp
  have hs : (((w.alloc (Obj.cells #[.pointer pa] 23)).alloc (Obj.cells #[.int .i64 (f : Int)] 3)).alloc (Obj.cells #[.int .i64 (t : Int)] 3)).heap.size = w.heap.size + 3 := by simp
  generalize (((w.alloc (Obj.cells #[.pointer pa] 23)).alloc (Obj.cells #[.int .i64 (f : Int)] 3)).alloc (Obj.cells #[.int .i64 (t : Int)] 3)) = w3 at *
  have HS := Lib.hid hs
  clear hs
  refine wp_seq_k (fun K hK => ?_)
  have HK := Lib.hid hK
  clear hK
  go_wp2_with ((first | (with_reducible refine wpList_stNew 72 _ _ ?_) | (with_reducible refine wp_stNew 72 _ _ ?_)); refine ⟨_, _, ⟨Tryz.sizeOf72, rfl, fn_new _ _ _⟩, rfl, ?_⟩)
  refine HK.out _ _ ?_
  clear HK
  have c3 := blk_cell (heap_alloc_new w3 (Obj.cells #[.func (.func 70) #[] #[.pointer (some ⟨w.heap.size, 0, none⟩)]] 72)) 0 _ rfl
  rw [HS.out] at c3
  have hb4 := blw w3 (Obj.cells #[.func (.func 70) #[] #[.pointer (some ⟨w.heap.size, 0, none⟩)]] 72)
  have hz := HS.out
  have HC := Lib.hid c3
  clear c3
  go_wp2
  go_ret
  exact ⟨rfl, ⟨cell_later hb4 d0, cell_later hb4 d1, cell_later hb4 d2, HC.out⟩, by simp; omega, hb3.alloc (by omega) _⟩
section
variable {B g gp : Nat} {wv : Value} {d : Dk} {wc : World}
set_option maxRecDepth 100000 in
set_option maxHeartbeats 1000000 in
theorem hurts_in (h : DiskB B g gp wv d wc) (f t m l : Nat) (ht : t ≤ 100000) (hf : f ≤ t) (J Jx : List Int → World → Prop) (W : World) (hm : wc.heap.size ≤ W.heap.size) (hm4 : m + 4 ≤ W.heap.size) (hB : Below wc.heap.size wc W) (hq : HuB (some ⟨g, 0, none⟩) m f t W) (hJ : AbidesFrom W.heap.size J)
    (hY : ∀ pre x W1, J pre W1 → pre.length < t → YieldAt Fence.wide 1 Tryz.prog l #[.int .i64 x] W1 fun e W' => (e = .returned (.bool true) ∧ J (pre ++ [x]) W' ∧ KpH wc.heap.size m W1 W') ∨ (e = .returned (.bool false) ∧ Jx (pre ++ [x]) W')) (h0 : J [] W) :
    CallsIn Fence.wide 2 Tryz.prog 73 (#[.func (.yield l) #[] #[]] ++ #[.pointer (some ⟨m + 1, 0, none⟩), .pointer (some ⟨m + 2, 0, none⟩), .pointer (some ⟨m + 3, 0, none⟩)]) W fun e W' => (∃ v, e = .returned v) ∧ ((∃ xs, xs = hurtsL d f t ∧ J xs W') ∨ (∃ pre, (pre <+: hurtsL d f t ∧ pre ≠ []) ∧ Jx pre W')) := by
  refine callsIn_of_wp Tryz.func73 rfl trivial ?_ rfl
  simp only [Tryz.ntmps73, List.size_toArray, List.length_cons, List.length_nil, Nat.reduceAdd, Nat.reduceSub, Array.replicate_succ, Array.replicate_zero, List.push_toArray, List.append_toArray, List.nil_append, List.cons_append]
  have c1 := hq.c1
  gi_wp2
  gi_loopw [5] (fun i wr => ∃ k : Nat, f ≤ k ∧ k ≤ t ∧ i = .int .i64 k ∧ J (hurtsL d f k) wr ∧ KpH wc.heap.size m W wr)
    (fun i _ => t - (intOf i).toNat)
  case atStart => exact ⟨f, Nat.le_refl _, hf, rfl, by rw [hurtsL_self]; exact h0, ⟨Below.refl _ _, fun _ _ _ => rfl⟩⟩
  case round =>
    obtain ⟨k, hk1, hk2, rfl, hJs, hKr⟩ := hrel
    have hqr := hq.kp hKr
    have c2 := hqr.c2
    have c3 := hqr.c3
    have hdr := h.below (hB.trans hKr.bl)
    have his := is_any hdr m hqr.c0 (k : Int)
    by_cases hlt : k < t
    · cases hb : hurtB d (k : Int)
      case true =>
        rw [hb] at his
        have hll := hurtsL_len d f k
        have hYk := fun W1 (hj : J (hurtsL d f k) W1) => hY _ (k : Int) W1 hj (by omega)
        gi_wp2_with (refine ⟨trivial, ?_⟩; gi_at_call 70; refine (callsIn_wide.2 his).mono ?_; rintro e w3 ⟨rfl, hb3⟩; have hk3 := KpH.below (n := wc.heap.size) (m := m) hb3 (by have := hKr.bl.size; omega) (by have := hKr.bl.size; omega); obtain ⟨fn, tmps, assign, body, hy, hR⟩ := hYk w3 (abides_bl hJ hJs hb3))
        refine hR.mono ?_
        rintro e W3 (⟨rfl, hJ3, hk4⟩ | ⟨rfl, hJx3⟩)
        · gi_wp2
          go_roundw
          case rel => exact ⟨k + 1, by omega, by omega, by go_num, by rw [hurtsL_yes hk1 hb]; exact hJ3, (hKr.trans hk3).trans hk4⟩
          case measure => simp [intOf]; omega
        · gi_wp2
          refine bodyPost_ret (results_none rfl _ _ _) rfl ?_
          exact ⟨⟨_, rfl⟩, .inr ⟨_, ⟨by rw [← hurtsL_yes hk1 hb]; exact hurtsL_pre d (by omega) (by omega), by simp⟩, hJx3⟩⟩
      case false =>
        rw [hb] at his
        gi_wp2_with (refine ⟨trivial, ?_⟩; gi_at_call 70; refine (callsIn_wide.2 his).mono ?_; rintro e w3 ⟨rfl, hb3⟩)
        refine ⟨fun _ h => (by cases h), ?_⟩
        gi_wp2
        have hk3 := KpH.below (n := wc.heap.size) (m := m) hb3 (by have := hKr.bl.size; omega) (by have := hKr.bl.size; omega)
        go_roundw
        case rel => exact ⟨k + 1, by omega, by omega, by go_num, by rw [hurtsL_no hk1 hb]; exact abides_bl hJ hJs hb3, hKr.trans hk3⟩
        case measure => simp [intOf]; omega
    · obtain rfl : k = t := by omega
      gi_wp2
      go_end0
      exact ⟨⟨_, rfl⟩, .inl ⟨_, rfl, hJs⟩⟩
end
end Go.Proofs.YtknchbhobopkeaaGreatDoor
namespace Go.Proofs.YtknchbhobopkeaaGreatDoor
open Go.RowKit Go.Shelf
attribute [local go_sem] Oper.semAt_some
section
variable {B g gp : Nat} {wv : Value} {d : Dk} {w wc : World}
theorem hurts_stops (h : DiskB B g gp wv d wc) (f t m : Nat) (ht : t ≤ 100000) (hf : f ≤ t) {w : World} (hm : wc.heap.size ≤ w.heap.size) (hm4 : m + 4 ≤ w.heap.size) (hB : Below wc.heap.size wc w) (hq : HuB (some ⟨g, 0, none⟩) m f t w) :
    SeqStopsK Fence.wide 2 Tryz.prog 73 #[.pointer (some ⟨m + 1, 0, none⟩), .pointer (some ⟨m + 2, 0, none⟩), .pointer (some ⟨m + 3, 0, none⟩)] (fun x : Int => #[Value.int .i64 x]) (KpH wc.heap.size m) (fun xs => xs = hurtsL d f t) (fun pre => pre <+: hurtsL d f t ∧ pre ≠ []) t w :=
  fun l J Jx W hW hJ _ hY h0 => hurts_in h f t m l ht hf J Jx W (Nat.le_trans hm hW.size) (Nat.le_trans hm4 hW.size) (hB.trans (hW.mono hm)) (hq.below hW) hJ hY h0
end
end Go.Proofs.YtknchbhobopkeaaGreatDoor
namespace Go.Proofs.YtknchbhobopkeaaGreatDoor
open Go.RowKit
set_option maxRecDepth 100000 in
theorem asked_any (p : Value) (n : Nat) (w : World) (h : DiskN w p n) (rep reg pla : Int) : Calls Tryz.prog 46 #[p, .int .i64 rep, .int .i64 reg, .int .i64 pla] w fun e w' => e = .returned (.int .i64 (askN n rep reg pla)) ∧ Below w.heap.size w w' := by
  have hsz := size_any p n w h
  have hf := first_any reg pla
  unfold askN
  generalize firstN reg pla = x at *
  by_cases h0 : n = 0
  · subst h0
    rw [if_pos rfl]
    go_enter Tryz.func46, Tryz.ntmps46
    go_wp2_with (first
      | (go_at_call 25; refine hsz.mono ?_; rintro e w1 ⟨rfl, rfl⟩)
      | (go_at_call 26; refine (all_any _).mono ?_; rintro e w2 ⟨rfl, hb2⟩)
      | (go_at_call 48; refine (hf _).mono ?_; rintro e w3 ⟨rfl, hb3⟩))
    go_ret
    exact ⟨rfl, Below.refl _ _⟩
  · rw [if_neg h0]
    have e0 : ((n : Int) == 0) = false := by rw [beq_eq_false_iff_ne]; omega
    by_cases h1 : n < 156
    · rw [if_pos (.inl h1)]
      have i1 : (n : Int) < 156 := by omega
      clear h0 h1
      go_enter Tryz.func46, Tryz.ntmps46
      go_wp2_with (first
        | (go_at_call 25; refine hsz.mono ?_; rintro e w1 ⟨rfl, rfl⟩)
        | (go_at_call 26; refine (all_any _).mono ?_; rintro e w2 ⟨rfl, hb2⟩)
        | (go_at_call 48; refine (hf _).mono ?_; rintro e w3 ⟨rfl, hb3⟩))
      go_ret
      exact ⟨rfl, hb2⟩
    · have i1 : ¬ (n : Int) < 156 := by omega
      by_cases h2 : rep < 0
      · rw [if_pos (.inr (.inl h2))]
        clear h0 h1
        go_enter Tryz.func46, Tryz.ntmps46
        go_wp2_with (first
          | (go_at_call 25; refine hsz.mono ?_; rintro e w1 ⟨rfl, rfl⟩)
          | (go_at_call 26; refine (all_any _).mono ?_; rintro e w2 ⟨rfl, hb2⟩)
          | (go_at_call 48; refine (hf _).mono ?_; rintro e w3 ⟨rfl, hb3⟩))
        go_ret
        exact ⟨rfl, hb2⟩
      · by_cases h3 : 7 ≤ rep
        · rw [if_pos (.inr (.inr (.inl h3)))]
          clear h0 h1
          go_enter Tryz.func46, Tryz.ntmps46
          go_wp2_with (first
            | (go_at_call 25; refine hsz.mono ?_; rintro e w1 ⟨rfl, rfl⟩)
            | (go_at_call 26; refine (all_any _).mono ?_; rintro e w2 ⟨rfl, hb2⟩)
            | (go_at_call 48; refine (hf _).mono ?_; rintro e w3 ⟨rfl, hb3⟩))
          go_ret
          exact ⟨rfl, hb2⟩
        · by_cases h4 : x < 0
          · rw [if_pos (.inr (.inr (.inr h4)))]
            clear h0 h1
            have hf := fun w => hf w
            go_enter Tryz.func46, Tryz.ntmps46
            go_wp2_with (first
              | (go_at_call 25; refine hsz.mono ?_; rintro e w1 ⟨rfl, rfl⟩)
              | (go_at_call 26; refine (all_any _).mono ?_; rintro e w2 ⟨rfl, hb2⟩)
              | (go_at_call 48; refine (hf _).mono ?_; rintro e w3 ⟨rfl, hb3⟩))
            go_ret
            exact ⟨rfl, hb2.trans (hb3.mono hb2.size)⟩
          · rw [if_neg (by omega)]
            clear h0 h1
            go_enter Tryz.func46, Tryz.ntmps46
            go_wp2_with (first
              | (go_at_call 25; refine hsz.mono ?_; rintro e w1 ⟨rfl, rfl⟩)
              | (go_at_call 26; refine (all_any _).mono ?_; rintro e w2 ⟨rfl, hb2⟩)
              | (go_at_call 48; refine (hf _).mono ?_; rintro e w3 ⟨rfl, hb3⟩))
            go_ret
            exact ⟨rfl, hb2.trans (hb3.mono hb2.size)⟩
end Go.Proofs.YtknchbhobopkeaaGreatDoor
namespace Go.Proofs.YtknchbhobopkeaaGreatDoor
open Go.RowKit Go.Shelf
attribute [local go_sem] Oper.semAt_some
theorem DiskB.dn {B g gp : Nat} {wv : Value} {d : Dk} {w : World} (h : DiskB B g gp wv d w) : DiskN w (.pointer (some ⟨g, 0, none⟩)) d.pl.length := .inr ⟨g, _, _, rfl, h.c0⟩
theorem tg_new (t : Tg) : (tgV t).cells = #[.int .i64 t.rep, .int .i64 t.reg, .int .i64 t.pla, .int .i64 t.idx, .int .i64 t.inc] ∧ (#[Value.int .i64 t.rep, .int .i64 t.reg, .int .i64 t.pla, .int .i64 t.idx, .int .i64 t.inc]).size = 5 ∧ ∀ u ∈ (#[Value.int .i64 t.rep, .int .i64 t.reg, .int .i64 t.pla, .int .i64 t.idx, .int .i64 t.inc]).toList, u.oneCell' = true := ⟨rfl, rfl, by simp [Value.oneCell']⟩
theorem restD_len {B g gp : Nat} {wv : Value} {d : Dk} {w : World} (h : DiskB B g gp wv d w) (s : Int) : (restD d s).1.length ≤ 64 := by
  unfold restD
  split
  · simp
  · rename_i h0
    split
    · simp
    · obtain ⟨p, _, h2, h3⟩ := there_pl (d := d) (s := s) (by simpa using h0)
      rw [h2]
      have := (h.ok p h3).1
      simp only
      omega
theorem allR_len {B g gp : Nat} {wv : Value} {d : Dk} {w : World} (h : DiskB B g gp wv d w) (a n : Nat) : (allR d a n).length ≤ 64 * n := by
  induction n with
  | zero => simp [allR, allG]
  | succ n ih =>
    unfold allR at ih ⊢
    rw [allG_succ, List.length_append]
    have := restD_len h ((a + n : Nat) : Int)
    (try simp only)
    omega
set_option maxRecDepth 100000 in
theorem place_err (p : Value) (n : Nat) (w : World) (h : DiskN w p n) (rep reg pla : Int) (ha : askN n rep reg pla ≠ 0) : Calls Tryz.prog 23 #[p, .int .i64 rep, .int .i64 reg, .int .i64 pla] w fun e w' => e = .returned (.tuple #[.bool false, .bool false, .int .i64 (askN n rep reg pla)]) ∧ Below w.heap.size w w' := by
  have hk := asked_any p n w h rep reg pla
  generalize askN n rep reg pla = x at *
  have e0 : (x != 0) = true := by rw [bne_iff_ne]; exact ha
  refine calls_marks Tryz.func23 rfl ?_
  simp only [Tryz.ntmps23, List.size_toArray, List.length_cons, List.length_nil, Nat.reduceAdd, Nat.reduceSub, Array.replicate_succ, Array.replicate_zero, List.push_toArray, List.append_toArray, List.nil_append, List.cons_append]
  go_wp2_with (go_at_call 46; refine hk.mono ?_; rintro e w1 ⟨rfl, hb1⟩)
  refine marks_end (results_tmp3 rfl _ _ _) ?_
  exact ⟨rfl, hb1⟩
set_option maxRecDepth 100000 in
set_option maxHeartbeats 2000000 in
theorem place_ok {B g gp : Nat} {wv : Value} {d : Dk} {w : World} (h : DiskB B g gp wv d w) (rep reg pla : Int) (ha : askG d rep reg pla = 0) : Calls Tryz.prog 23 #[.pointer (some ⟨g, 0, none⟩), .int .i64 rep, .int .i64 reg, .int .i64 pla] w fun e w' => e = .returned (.tuple #[.bool (placeG d rep reg pla).1, .bool (placeG d rep reg pla).2.1, .int .i64 (placeG d rep reg pla).2.2]) ∧ Below w.heap.size w w' := by
  have hfa := ask_first ha
  have hk := asked_any _ _ w h.dn rep reg pla
  have hfi := first_any reg pla
  have hwi := wide_any reg
  unfold placeG
  rw [if_neg (by simpa using ha)]
  unfold askG at ha
  rw [ha] at hk
  obtain ⟨f, hf⟩ : ∃ f : Nat, firstN reg pla = f := ⟨(firstN reg pla).toNat, by omega⟩
  obtain ⟨n, hn⟩ : ∃ n : Nat, wideN reg = n := ⟨(wideN reg).toNat, by omega⟩
  rw [hf] at hfi hfa ⊢
  rw [hn] at hwi hfa ⊢
  simp only [Int.toNat_natCast]
  obtain ⟨_, hp1, hp2, _, _, _, _, _, hfn, hn1, hn2⟩ := hfa
  have hfn' : f + n ≤ 156 := by omega
  have hn2' : n ≤ 2 := by omega
  clear ha hf hn hfn hn2
  obtain ⟨st, tg, body, hr⟩ : ∃ st tg body, mineF (allR d f n) rep reg pla = (st, tg, body) := ⟨_, _, _, rfl⟩
  obtain ⟨go, hgo⟩ : ∃ go, goneG d f n = go := ⟨_, rfl⟩
  simp only [hr, hgo]
  have HR := Lib.hid hr
  have HGO := Lib.hid hgo
  clear hr hgo
  by_cases hL : hurtsL d f (f + n) = []
  case pos =>
    have hH : isHurt d f n = false := by unfold isHurt; rw [hL]; rfl
    rw [hH, Bool.false_and]
    clear hH
    refine calls_marks Tryz.func23 rfl ?_
    simp only [Tryz.ntmps23, List.size_toArray, List.length_cons, List.length_nil, Nat.reduceAdd, Nat.reduceSub, Array.replicate_succ, Array.replicate_zero, List.push_toArray, List.append_toArray, List.nil_append, List.cons_append]
    refine wp_seq_k (fun K hK => ?_)
    have HK := Lib.hid hK
    clear hK
    go_wp2
    refine HK.out _ _ ?_
    clear HK
    refine wp_seq_k (fun K hK => ?_)
    have HK := Lib.hid hK
    clear hK
    go_wp2_with (go_at_call 46; refine hk.mono ?_; rintro e w1 ⟨rfl, hb1⟩)
    refine HK.out _ _ ?_
    clear HK
    refine wp_seq_k (fun K hK => ?_)
    have HK := Lib.hid hK
    clear hK
    go_wp2_with (go_at_call 48; refine (hfi _).mono ?_; rintro e w2 ⟨rfl, hb2⟩)
    refine HK.out _ _ ?_
    clear HK
    refine wp_seq_k (fun K hK => ?_)
    have HK := Lib.hid hK
    clear hK
    go_wp2_with (go_at_call 49; refine (hwi _).mono ?_; rintro e w3 ⟨rfl, hb3⟩)
    refine HK.out _ _ ?_
    clear HK
    have hb4 := hb1.trans ((hb2.trans (hb3.mono hb2.size)).mono hb1.size)
    clear hb1 hb2 hb3 hk hfi hwi
    refine wp_seq_k (fun K hK => ?_)
    have HK := Lib.hid hK
    clear hK
    go_wp2
    refine HK.out _ _ ?_
    clear HK
    have hb5 := hb4.alloc hb4.size (Obj.cells #[.bool false] 4)
    have bH := Boxed.new w3 4 (.bool false)
    have hq1 := hb4.size
    have hq2 : w3.heap.size < (w3.alloc (Obj.cells #[.bool false] 4)).heap.size := by simp
    clear hb4
    generalize w3.alloc (Obj.cells #[.bool false] 4) = w5 at *
    generalize w3.heap.size = q at *
    have hhu := hurts_any (some ⟨g, 0, none⟩) f (f + n) w5
    simp only [Int.natCast_add] at hhu
    refine wp_seq_k (fun K hK => ?_)
    have HK := Lib.hid hK
    clear hK
    go_wp2_with (go_at_call 50; refine hhu.mono ?_; rintro e w6 ⟨rfl, hq, hsz2, hb6⟩; have HSZ := Lib.hid hsz2; clear hsz2)
    have bH6 : Boxed w6 q 4 (.bool false) := tr_bl hb6 bH
    have hz : w5.heap.size + 4 ≤ w6.heap.size := by have := HSZ.out; omega
    have hB6 : Below w.heap.size w w6 := hb5.trans (hb6.mono hb5.size)
    clear hb6 hhu hb5 bH HSZ
    have hz5 := hB6.size
    refine wp_range_skip (gf := 73) rfl (enters_of Tryz.func73 (by kernel_rfl) rfl) (hurts_stops h f (f + n) w5.heap.size (by omega) (by omega) hB6.size (by omega) hB6 hq) KpH.trans (KpH.put hB6.size (by omega)) (fun _ => rfl)
      (fun (pre : List Int) W => pre = [] ∧ Boxed W q 4 (.bool false) ∧ Below w.heap.size w W ∧ w6.heap.size ≤ W.heap.size)
      (fun c _ W => c = .exit 0 ∧ Boxed W q 4 (.bool true) ∧ Below w.heap.size w W ∧ w6.heap.size ≤ W.heap.size)
      ?_ ?_ ⟨rfl, bH6, hB6, Nat.le_refl _⟩ ?_ ?_ ?_
    · exact fun _ _ _ _ hs hg hr => ⟨hs.1, hs.2.1.kept hg (fun e => by have := (hr _ e.symm).1; omega), hs.2.2.1.grown hg (by omega) (fun k e => by have := (hr k e).1; omega), Nat.le_trans hs.2.2.2 hg.size⟩
    · exact fun _ _ _ _ _ hs hg hr => ⟨hs.1, hs.2.1.kept hg (fun e => by have := (hr _ e.symm).1; omega), hs.2.2.1.grown hg (by omega) (fun k e => by have := (hr k e).1; omega), Nat.le_trans hs.2.2.2 hg.size⟩
    · rintro l pre x W ⟨rfl, hbx, hB, hsW⟩ _
      have hc := hbx.cell
      have hf := hbx.frozen
      gi_wp2
      exact ⟨(KeepsOthers.setCell _ _ _).from _, rfl, hbx.set _, hB.setCell (p := ⟨q, 0, none⟩) hq1 _, by simpa [World.setCell] using hsW⟩
    · rintro D xs W hD rfl ⟨_, hbx, hB, hsW⟩ hK
      (try simp only [Exit.inBlock]); (try simp only [Exit.then])
      refine HK.out _ _ ?_
      clear HK
      have hdW := h.below hB
      have hcW := hbx.cell
      refine wp_seq_k (fun K hK => ?_)
      have HK := Lib.hid hK
      clear hK
      go_wp2
      refine HK.out _ _ ?_
      clear HK
      refine wp_seq_k (fun K hK => ?_)
      have HK := Lib.hid hK
      clear hK
      go_wp2
      go_loopw [17, 16, 15, 18, 19, 20] (fun s all gn _ _ _ wr => ∃ (j : Nat) (v : Value), j ≤ n ∧ s = .int .i64 ((f : Int) + (j : Int)) ∧ all = v ∧ wr.ownsRow W.heap.size 5 1 v (allR d f j).length (bys (allR d f j)) ∧ gn = .bool (goneG d f j) ∧ Below W.heap.size W wr) (fun s _ _ _ _ _ _ => f + n - (intOf s).toNat)
      case atStart => exact ⟨0, _, by omega, by simp, rfl, World.ownsRow_nil _ _ _ _, rfl, Below.refl _ _⟩
      case round =>
        obtain ⟨j, v, hj, rfl, rfl, hown, rfl, hbr⟩ := hrel
        have hdr := hdW.below hbr
        by_cases hlt : j < n
        case pos =>
          have hil : (f : Int) + (j : Int) < (f : Int) + (n : Int) := by omega
          have hre := rest_sl hdr ((f + j : Nat) : Int)
          have hle := allR_len h f j
          have hrl := restD_len h ((f + j : Nat) : Int)
          have hsn := allG_succ (fun s => (restD d s).1) f j
          have hgs := goneG_succ d f j
          change allR d f (j + 1) = allR d f j ++ _ at hsn
          (try simp only at hsn)
          simp only [Int.natCast_add] at hre hrl hsn hgs
          generalize restD d ((f : Int) + (j : Int)) = r at *
          obtain ⟨rl, lost, er⟩ := r
          (try simp only at hre)
          (try simp only at hrl)
          (try simp only at hsn)
          (try simp only at hgs)
          have HSN := Lib.hid hsn
          have HGS := Lib.hid hgs
          clear hsn hgs
          generalize hal : allR d f j = al at *
          generalize hgo : goneG d f j = go at *
          clear hal hgo
          cases go
          all_goals
            go_wp2_with (first
              | (go_at_call 51; refine hre.mono ?_; rintro e w8 ⟨⟨a8, c8, rfl, s8⟩, hb8⟩; have ho8 := owns_bl hown hb8; have hb9 := hbr.trans (hb8.mono hbr.size); have hr8 := s8.row)
              | (at_builtin; refine wpList_append_row rfl _ _ 75 5 elByte rfl W.heap.size _ al.length (bys al) rfl ho8 a8 rl.length c8 (bys rl) rfl (by rw [bys_len]; omega) hr8 bys_one (by omega) (by decide) hb9.size ?_; intro v9 w9 ho9 hb10))
            rw [← bys_app] at ho9
            go_roundw
            case rel => exact ⟨j + 1, v9, by omega, by simp; omega, rfl, by rw [HSN.out, List.length_append]; exact ho9, by rw [HGS.out]; simp, hb9.trans hb10⟩
            case measure => simp [intOf]; omega
        case neg =>
          obtain rfl : j = n := by omega
          obtain ⟨a9, c9, rfl, s9⟩ := SlB.of_owns hown
          have hmi := mine_any a9 c9 (allR d f j) rep reg pla wr s9 (by have := allR_len h f j; omega)
          rw [HR.out] at hmi
          have hcr := cell_later hbr hcW
          have hKr := tr_bl hbr hK
          rw [HGO.out]
          go_wp2
          refine HK.out _ _ ?_
          clear HK
          refine wp_seq_k (fun K hK => ?_)
          have HK := Lib.hid hK
          clear hK
          go_wp2_with (first
                | (go_at_call 52; refine hmi.mono ?_; rintro e w8 ⟨⟨a8, c8, rfl, ho8⟩, hb8⟩)
                | ((first | (with_reducible refine wpList_stNew 108 _ _ ?_) | (with_reducible refine wp_stNew 108 _ _ ?_)); refine ⟨_, _, ⟨Tryz.sizeOf108, rfl, tg_new _⟩, rfl, ?_⟩))
          refine HK.out _ _ ?_
          clear HK
          have hb9 := hb8.alloc hb8.size (Obj.cells #[.int .i64 tg.rep, .int .i64 tg.reg, .int .i64 tg.pla, .int .i64 tg.idx, .int .i64 tg.inc] 108)
          have hcx := cell_later hb9 hcr
          have hKx := tr_bl hb9 hKr
          have hbx := hB.trans ((hbr.trans (hb9.mono hbr.size)).mono hB.size)
          generalize w8.alloc (Obj.cells #[.int .i64 tg.rep, .int .i64 tg.reg, .int .i64 tg.pla, .int .i64 tg.idx, .int .i64 tg.inc] 108) = w9 at *
          go_wp2
          refine marks_ret hKx (results_tmp3 rfl _ _ _) ?_
          exact ⟨rfl, below_mark hbx (by omega)⟩
    · rintro D c pre W hD ⟨hp, hne⟩ _ _
      rw [hL] at hp
      exact absurd (List.prefix_nil.1 hp) hne
  case neg =>
    have hH : isHurt d f n = true := by
      unfold isHurt
      cases hh : hurtsL d f (f + n)
      · exact absurd hh hL
      · rfl
    rw [hH, Bool.true_and]
    clear hH
    cases go
    case true =>
      rw [Bool.true_or]
      refine calls_marks Tryz.func23 rfl ?_
      simp only [Tryz.ntmps23, List.size_toArray, List.length_cons, List.length_nil, Nat.reduceAdd, Nat.reduceSub, Array.replicate_succ, Array.replicate_zero, List.push_toArray, List.append_toArray, List.nil_append, List.cons_append]
      refine wp_seq_k (fun K hK => ?_)
      have HK := Lib.hid hK
      clear hK
      go_wp2
      refine HK.out _ _ ?_
      clear HK
      refine wp_seq_k (fun K hK => ?_)
      have HK := Lib.hid hK
      clear hK
      go_wp2_with (go_at_call 46; refine hk.mono ?_; rintro e w1 ⟨rfl, hb1⟩)
      refine HK.out _ _ ?_
      clear HK
      refine wp_seq_k (fun K hK => ?_)
      have HK := Lib.hid hK
      clear hK
      go_wp2_with (go_at_call 48; refine (hfi _).mono ?_; rintro e w2 ⟨rfl, hb2⟩)
      refine HK.out _ _ ?_
      clear HK
      refine wp_seq_k (fun K hK => ?_)
      have HK := Lib.hid hK
      clear hK
      go_wp2_with (go_at_call 49; refine (hwi _).mono ?_; rintro e w3 ⟨rfl, hb3⟩)
      refine HK.out _ _ ?_
      clear HK
      have hb4 := hb1.trans ((hb2.trans (hb3.mono hb2.size)).mono hb1.size)
      clear hb1 hb2 hb3 hk hfi hwi
      refine wp_seq_k (fun K hK => ?_)
      have HK := Lib.hid hK
      clear hK
      go_wp2
      refine HK.out _ _ ?_
      clear HK
      have hb5 := hb4.alloc hb4.size (Obj.cells #[.bool false] 4)
      have bH := Boxed.new w3 4 (.bool false)
      have hq1 := hb4.size
      have hq2 : w3.heap.size < (w3.alloc (Obj.cells #[.bool false] 4)).heap.size := by simp
      clear hb4
      generalize w3.alloc (Obj.cells #[.bool false] 4) = w5 at *
      generalize w3.heap.size = q at *
      have hhu := hurts_any (some ⟨g, 0, none⟩) f (f + n) w5
      simp only [Int.natCast_add] at hhu
      refine wp_seq_k (fun K hK => ?_)
      have HK := Lib.hid hK
      clear hK
      go_wp2_with (go_at_call 50; refine hhu.mono ?_; rintro e w6 ⟨rfl, hq, hsz2, hb6⟩; have HSZ := Lib.hid hsz2; clear hsz2)
      have bH6 : Boxed w6 q 4 (.bool false) := tr_bl hb6 bH
      have hz : w5.heap.size + 4 ≤ w6.heap.size := by have := HSZ.out; omega
      have hB6 : Below w.heap.size w w6 := hb5.trans (hb6.mono hb5.size)
      clear hb6 hhu hb5 bH HSZ
      have hz5 := hB6.size
      refine wp_range_skip (gf := 73) rfl (enters_of Tryz.func73 (by kernel_rfl) rfl) (hurts_stops h f (f + n) w5.heap.size (by omega) (by omega) hB6.size (by omega) hB6 hq) KpH.trans (KpH.put hB6.size (by omega)) (fun _ => rfl)
        (fun (pre : List Int) W => pre = [] ∧ Boxed W q 4 (.bool false) ∧ Below w.heap.size w W ∧ w6.heap.size ≤ W.heap.size)
        (fun c _ W => c = .exit 0 ∧ Boxed W q 4 (.bool true) ∧ Below w.heap.size w W ∧ w6.heap.size ≤ W.heap.size)
        ?_ ?_ ⟨rfl, bH6, hB6, Nat.le_refl _⟩ ?_ ?_ ?_
      · exact fun _ _ _ _ hs hg hr => ⟨hs.1, hs.2.1.kept hg (fun e => by have := (hr _ e.symm).1; omega), hs.2.2.1.grown hg (by omega) (fun k e => by have := (hr k e).1; omega), Nat.le_trans hs.2.2.2 hg.size⟩
      · exact fun _ _ _ _ _ hs hg hr => ⟨hs.1, hs.2.1.kept hg (fun e => by have := (hr _ e.symm).1; omega), hs.2.2.1.grown hg (by omega) (fun k e => by have := (hr k e).1; omega), Nat.le_trans hs.2.2.2 hg.size⟩
      · rintro l pre x W ⟨rfl, hbx, hB, hsW⟩ _
        have hc := hbx.cell
        have hf := hbx.frozen
        gi_wp2
        exact ⟨(KeepsOthers.setCell _ _ _).from _, rfl, hbx.set _, hB.setCell (p := ⟨q, 0, none⟩) hq1 _, by simpa [World.setCell] using hsW⟩
      · rintro D xs W hD rfl ⟨hn0, _⟩ _
        exact absurd hn0 hL
      · rintro D c pre W hD ⟨hp, hne⟩ ⟨rfl, hbx, hB, hsW⟩ hK
        go_wp2
        (try simp only [Exit.inBlock]); (try simp only [Exit.then])
        refine HK.out _ _ ?_
        clear HK
        have hdW := h.below hB
        have hcW := hbx.cell
        refine wp_seq_k (fun K hK => ?_)
        have HK := Lib.hid hK
        clear hK
        go_wp2
        refine HK.out _ _ ?_
        clear HK
        refine wp_seq_k (fun K hK => ?_)
        have HK := Lib.hid hK
        clear hK
        go_wp2
        go_loopw [17, 16, 15, 18, 19, 20] (fun s all gn _ _ _ wr => ∃ (j : Nat) (v : Value), j ≤ n ∧ s = .int .i64 ((f : Int) + (j : Int)) ∧ all = v ∧ wr.ownsRow W.heap.size 5 1 v (allR d f j).length (bys (allR d f j)) ∧ gn = .bool (goneG d f j) ∧ Below W.heap.size W wr) (fun s _ _ _ _ _ _ => f + n - (intOf s).toNat)
        case atStart => exact ⟨0, _, by omega, by simp, rfl, World.ownsRow_nil _ _ _ _, rfl, Below.refl _ _⟩
        case round =>
          obtain ⟨j, v, hj, rfl, rfl, hown, rfl, hbr⟩ := hrel
          have hdr := hdW.below hbr
          by_cases hlt : j < n
          case pos =>
            have hil : (f : Int) + (j : Int) < (f : Int) + (n : Int) := by omega
            have hre := rest_sl hdr ((f + j : Nat) : Int)
            have hle := allR_len h f j
            have hrl := restD_len h ((f + j : Nat) : Int)
            have hsn := allG_succ (fun s => (restD d s).1) f j
            have hgs := goneG_succ d f j
            change allR d f (j + 1) = allR d f j ++ _ at hsn
            (try simp only at hsn)
            simp only [Int.natCast_add] at hre hrl hsn hgs
            generalize restD d ((f : Int) + (j : Int)) = r at *
            obtain ⟨rl, lost, er⟩ := r
            (try simp only at hre)
            (try simp only at hrl)
            (try simp only at hsn)
            (try simp only at hgs)
            have HSN := Lib.hid hsn
            have HGS := Lib.hid hgs
            clear hsn hgs
            generalize hal : allR d f j = al at *
            generalize hgo : goneG d f j = go at *
            clear hal hgo
            cases go
            all_goals
              go_wp2_with (first
                | (go_at_call 51; refine hre.mono ?_; rintro e w8 ⟨⟨a8, c8, rfl, s8⟩, hb8⟩; have ho8 := owns_bl hown hb8; have hb9 := hbr.trans (hb8.mono hbr.size); have hr8 := s8.row)
                | (at_builtin; refine wpList_append_row rfl _ _ 75 5 elByte rfl W.heap.size _ al.length (bys al) rfl ho8 a8 rl.length c8 (bys rl) rfl (by rw [bys_len]; omega) hr8 bys_one (by omega) (by decide) hb9.size ?_; intro v9 w9 ho9 hb10))
              rw [← bys_app] at ho9
              go_roundw
              case rel => exact ⟨j + 1, v9, by omega, by simp; omega, rfl, by rw [HSN.out, List.length_append]; exact ho9, by rw [HGS.out]; simp, hb9.trans hb10⟩
              case measure => simp [intOf]; omega
          case neg =>
            obtain rfl : j = n := by omega
            obtain ⟨a9, c9, rfl, s9⟩ := SlB.of_owns hown
            have hmi := mine_any a9 c9 (allR d f j) rep reg pla wr s9 (by have := allR_len h f j; omega)
            rw [HR.out] at hmi
            have hcr := cell_later hbr hcW
            have hKr := tr_bl hbr hK
            rw [HGO.out]
            go_wp2
            refine HK.out _ _ ?_
            clear HK
            refine wp_seq_k (fun K hK => ?_)
            have HK := Lib.hid hK
            clear hK
            go_wp2_with (first
                  | (go_at_call 52; refine hmi.mono ?_; rintro e w8 ⟨⟨a8, c8, rfl, ho8⟩, hb8⟩)
                  | ((first | (with_reducible refine wpList_stNew 108 _ _ ?_) | (with_reducible refine wp_stNew 108 _ _ ?_)); refine ⟨_, _, ⟨Tryz.sizeOf108, rfl, tg_new _⟩, rfl, ?_⟩))
            refine HK.out _ _ ?_
            clear HK
            have hb9 := hb8.alloc hb8.size (Obj.cells #[.int .i64 tg.rep, .int .i64 tg.reg, .int .i64 tg.pla, .int .i64 tg.idx, .int .i64 tg.inc] 108)
            have hcx := cell_later hb9 hcr
            have hKx := tr_bl hb9 hKr
            have hbx := hB.trans ((hbr.trans (hb9.mono hbr.size)).mono hB.size)
            generalize w8.alloc (Obj.cells #[.int .i64 tg.rep, .int .i64 tg.reg, .int .i64 tg.pla, .int .i64 tg.idx, .int .i64 tg.inc] 108) = w9 at *
            go_wp2
            refine marks_ret hKx (results_tmp3 rfl _ _ _) ?_
            exact ⟨rfl, below_mark hbx (by omega)⟩
    case false =>
      rw [Bool.false_or]
      by_cases hst : st = 2
      case pos =>
        subst hst
        rw [decide_eq_true rfl]
        refine calls_marks Tryz.func23 rfl ?_
        simp only [Tryz.ntmps23, List.size_toArray, List.length_cons, List.length_nil, Nat.reduceAdd, Nat.reduceSub, Array.replicate_succ, Array.replicate_zero, List.push_toArray, List.append_toArray, List.nil_append, List.cons_append]
        refine wp_seq_k (fun K hK => ?_)
        have HK := Lib.hid hK
        clear hK
        go_wp2
        refine HK.out _ _ ?_
        clear HK
        refine wp_seq_k (fun K hK => ?_)
        have HK := Lib.hid hK
        clear hK
        go_wp2_with (go_at_call 46; refine hk.mono ?_; rintro e w1 ⟨rfl, hb1⟩)
        refine HK.out _ _ ?_
        clear HK
        refine wp_seq_k (fun K hK => ?_)
        have HK := Lib.hid hK
        clear hK
        go_wp2_with (go_at_call 48; refine (hfi _).mono ?_; rintro e w2 ⟨rfl, hb2⟩)
        refine HK.out _ _ ?_
        clear HK
        refine wp_seq_k (fun K hK => ?_)
        have HK := Lib.hid hK
        clear hK
        go_wp2_with (go_at_call 49; refine (hwi _).mono ?_; rintro e w3 ⟨rfl, hb3⟩)
        refine HK.out _ _ ?_
        clear HK
        have hb4 := hb1.trans ((hb2.trans (hb3.mono hb2.size)).mono hb1.size)
        clear hb1 hb2 hb3 hk hfi hwi
        refine wp_seq_k (fun K hK => ?_)
        have HK := Lib.hid hK
        clear hK
        go_wp2
        refine HK.out _ _ ?_
        clear HK
        have hb5 := hb4.alloc hb4.size (Obj.cells #[.bool false] 4)
        have bH := Boxed.new w3 4 (.bool false)
        have hq1 := hb4.size
        have hq2 : w3.heap.size < (w3.alloc (Obj.cells #[.bool false] 4)).heap.size := by simp
        clear hb4
        generalize w3.alloc (Obj.cells #[.bool false] 4) = w5 at *
        generalize w3.heap.size = q at *
        have hhu := hurts_any (some ⟨g, 0, none⟩) f (f + n) w5
        simp only [Int.natCast_add] at hhu
        refine wp_seq_k (fun K hK => ?_)
        have HK := Lib.hid hK
        clear hK
        go_wp2_with (go_at_call 50; refine hhu.mono ?_; rintro e w6 ⟨rfl, hq, hsz2, hb6⟩; have HSZ := Lib.hid hsz2; clear hsz2)
        have bH6 : Boxed w6 q 4 (.bool false) := tr_bl hb6 bH
        have hz : w5.heap.size + 4 ≤ w6.heap.size := by have := HSZ.out; omega
        have hB6 : Below w.heap.size w w6 := hb5.trans (hb6.mono hb5.size)
        clear hb6 hhu hb5 bH HSZ
        have hz5 := hB6.size
        refine wp_range_skip (gf := 73) rfl (enters_of Tryz.func73 (by kernel_rfl) rfl) (hurts_stops h f (f + n) w5.heap.size (by omega) (by omega) hB6.size (by omega) hB6 hq) KpH.trans (KpH.put hB6.size (by omega)) (fun _ => rfl)
          (fun (pre : List Int) W => pre = [] ∧ Boxed W q 4 (.bool false) ∧ Below w.heap.size w W ∧ w6.heap.size ≤ W.heap.size)
          (fun c _ W => c = .exit 0 ∧ Boxed W q 4 (.bool true) ∧ Below w.heap.size w W ∧ w6.heap.size ≤ W.heap.size)
          ?_ ?_ ⟨rfl, bH6, hB6, Nat.le_refl _⟩ ?_ ?_ ?_
        · exact fun _ _ _ _ hs hg hr => ⟨hs.1, hs.2.1.kept hg (fun e => by have := (hr _ e.symm).1; omega), hs.2.2.1.grown hg (by omega) (fun k e => by have := (hr k e).1; omega), Nat.le_trans hs.2.2.2 hg.size⟩
        · exact fun _ _ _ _ _ hs hg hr => ⟨hs.1, hs.2.1.kept hg (fun e => by have := (hr _ e.symm).1; omega), hs.2.2.1.grown hg (by omega) (fun k e => by have := (hr k e).1; omega), Nat.le_trans hs.2.2.2 hg.size⟩
        · rintro l pre x W ⟨rfl, hbx, hB, hsW⟩ _
          have hc := hbx.cell
          have hf := hbx.frozen
          gi_wp2
          exact ⟨(KeepsOthers.setCell _ _ _).from _, rfl, hbx.set _, hB.setCell (p := ⟨q, 0, none⟩) hq1 _, by simpa [World.setCell] using hsW⟩
        · rintro D xs W hD rfl ⟨hn0, _⟩ _
          exact absurd hn0 hL
        · rintro D c pre W hD ⟨hp, hne⟩ ⟨rfl, hbx, hB, hsW⟩ hK
          go_wp2
          (try simp only [Exit.inBlock]); (try simp only [Exit.then])
          refine HK.out _ _ ?_
          clear HK
          have hdW := h.below hB
          have hcW := hbx.cell
          refine wp_seq_k (fun K hK => ?_)
          have HK := Lib.hid hK
          clear hK
          go_wp2
          refine HK.out _ _ ?_
          clear HK
          refine wp_seq_k (fun K hK => ?_)
          have HK := Lib.hid hK
          clear hK
          go_wp2
          go_loopw [17, 16, 15, 18, 19, 20] (fun s all gn _ _ _ wr => ∃ (j : Nat) (v : Value), j ≤ n ∧ s = .int .i64 ((f : Int) + (j : Int)) ∧ all = v ∧ wr.ownsRow W.heap.size 5 1 v (allR d f j).length (bys (allR d f j)) ∧ gn = .bool (goneG d f j) ∧ Below W.heap.size W wr) (fun s _ _ _ _ _ _ => f + n - (intOf s).toNat)
          case atStart => exact ⟨0, _, by omega, by simp, rfl, World.ownsRow_nil _ _ _ _, rfl, Below.refl _ _⟩
          case round =>
            obtain ⟨j, v, hj, rfl, rfl, hown, rfl, hbr⟩ := hrel
            have hdr := hdW.below hbr
            by_cases hlt : j < n
            case pos =>
              have hil : (f : Int) + (j : Int) < (f : Int) + (n : Int) := by omega
              have hre := rest_sl hdr ((f + j : Nat) : Int)
              have hle := allR_len h f j
              have hrl := restD_len h ((f + j : Nat) : Int)
              have hsn := allG_succ (fun s => (restD d s).1) f j
              have hgs := goneG_succ d f j
              change allR d f (j + 1) = allR d f j ++ _ at hsn
              (try simp only at hsn)
              simp only [Int.natCast_add] at hre hrl hsn hgs
              generalize restD d ((f : Int) + (j : Int)) = r at *
              obtain ⟨rl, lost, er⟩ := r
              (try simp only at hre)
              (try simp only at hrl)
              (try simp only at hsn)
              (try simp only at hgs)
              have HSN := Lib.hid hsn
              have HGS := Lib.hid hgs
              clear hsn hgs
              generalize hal : allR d f j = al at *
              generalize hgo : goneG d f j = go at *
              clear hal hgo
              cases go
              all_goals
                go_wp2_with (first
                  | (go_at_call 51; refine hre.mono ?_; rintro e w8 ⟨⟨a8, c8, rfl, s8⟩, hb8⟩; have ho8 := owns_bl hown hb8; have hb9 := hbr.trans (hb8.mono hbr.size); have hr8 := s8.row)
                  | (at_builtin; refine wpList_append_row rfl _ _ 75 5 elByte rfl W.heap.size _ al.length (bys al) rfl ho8 a8 rl.length c8 (bys rl) rfl (by rw [bys_len]; omega) hr8 bys_one (by omega) (by decide) hb9.size ?_; intro v9 w9 ho9 hb10))
                rw [← bys_app] at ho9
                go_roundw
                case rel => exact ⟨j + 1, v9, by omega, by simp; omega, rfl, by rw [HSN.out, List.length_append]; exact ho9, by rw [HGS.out]; simp, hb9.trans hb10⟩
                case measure => simp [intOf]; omega
            case neg =>
              obtain rfl : j = n := by omega
              obtain ⟨a9, c9, rfl, s9⟩ := SlB.of_owns hown
              have hmi := mine_any a9 c9 (allR d f j) rep reg pla wr s9 (by have := allR_len h f j; omega)
              rw [HR.out] at hmi
              have hcr := cell_later hbr hcW
              have hKr := tr_bl hbr hK
              rw [HGO.out]
              go_wp2
              refine HK.out _ _ ?_
              clear HK
              refine wp_seq_k (fun K hK => ?_)
              have HK := Lib.hid hK
              clear hK
              go_wp2_with (first
                    | (go_at_call 52; refine hmi.mono ?_; rintro e w8 ⟨⟨a8, c8, rfl, ho8⟩, hb8⟩)
                    | ((first | (with_reducible refine wpList_stNew 108 _ _ ?_) | (with_reducible refine wp_stNew 108 _ _ ?_)); refine ⟨_, _, ⟨Tryz.sizeOf108, rfl, tg_new _⟩, rfl, ?_⟩))
              refine HK.out _ _ ?_
              clear HK
              have hb9 := hb8.alloc hb8.size (Obj.cells #[.int .i64 tg.rep, .int .i64 tg.reg, .int .i64 tg.pla, .int .i64 tg.idx, .int .i64 tg.inc] 108)
              have hcx := cell_later hb9 hcr
              have hKx := tr_bl hb9 hKr
              have hbx := hB.trans ((hbr.trans (hb9.mono hbr.size)).mono hB.size)
              generalize w8.alloc (Obj.cells #[.int .i64 tg.rep, .int .i64 tg.reg, .int .i64 tg.pla, .int .i64 tg.idx, .int .i64 tg.inc] 108) = w9 at *
              go_wp2
              refine marks_ret hKx (results_tmp3 rfl _ _ _) ?_
              exact ⟨rfl, below_mark hbx (by omega)⟩
      case neg =>
        rw [decide_eq_false hst]
        have e2 : ((st : Int) == 2) = false := by rw [beq_eq_false_iff_ne]; omega
        clear hst
        refine calls_marks Tryz.func23 rfl ?_
        simp only [Tryz.ntmps23, List.size_toArray, List.length_cons, List.length_nil, Nat.reduceAdd, Nat.reduceSub, Array.replicate_succ, Array.replicate_zero, List.push_toArray, List.append_toArray, List.nil_append, List.cons_append]
        refine wp_seq_k (fun K hK => ?_)
        have HK := Lib.hid hK
        clear hK
        go_wp2
        refine HK.out _ _ ?_
        clear HK
        refine wp_seq_k (fun K hK => ?_)
        have HK := Lib.hid hK
        clear hK
        go_wp2_with (go_at_call 46; refine hk.mono ?_; rintro e w1 ⟨rfl, hb1⟩)
        refine HK.out _ _ ?_
        clear HK
        refine wp_seq_k (fun K hK => ?_)
        have HK := Lib.hid hK
        clear hK
        go_wp2_with (go_at_call 48; refine (hfi _).mono ?_; rintro e w2 ⟨rfl, hb2⟩)
        refine HK.out _ _ ?_
        clear HK
        refine wp_seq_k (fun K hK => ?_)
        have HK := Lib.hid hK
        clear hK
        go_wp2_with (go_at_call 49; refine (hwi _).mono ?_; rintro e w3 ⟨rfl, hb3⟩)
        refine HK.out _ _ ?_
        clear HK
        have hb4 := hb1.trans ((hb2.trans (hb3.mono hb2.size)).mono hb1.size)
        clear hb1 hb2 hb3 hk hfi hwi
        refine wp_seq_k (fun K hK => ?_)
        have HK := Lib.hid hK
        clear hK
        go_wp2
        refine HK.out _ _ ?_
        clear HK
        have hb5 := hb4.alloc hb4.size (Obj.cells #[.bool false] 4)
        have bH := Boxed.new w3 4 (.bool false)
        have hq1 := hb4.size
        have hq2 : w3.heap.size < (w3.alloc (Obj.cells #[.bool false] 4)).heap.size := by simp
        clear hb4
        generalize w3.alloc (Obj.cells #[.bool false] 4) = w5 at *
        generalize w3.heap.size = q at *
        have hhu := hurts_any (some ⟨g, 0, none⟩) f (f + n) w5
        simp only [Int.natCast_add] at hhu
        refine wp_seq_k (fun K hK => ?_)
        have HK := Lib.hid hK
        clear hK
        go_wp2_with (go_at_call 50; refine hhu.mono ?_; rintro e w6 ⟨rfl, hq, hsz2, hb6⟩; have HSZ := Lib.hid hsz2; clear hsz2)
        have bH6 : Boxed w6 q 4 (.bool false) := tr_bl hb6 bH
        have hz : w5.heap.size + 4 ≤ w6.heap.size := by have := HSZ.out; omega
        have hB6 : Below w.heap.size w w6 := hb5.trans (hb6.mono hb5.size)
        clear hb6 hhu hb5 bH HSZ
        have hz5 := hB6.size
        refine wp_range_skip (gf := 73) rfl (enters_of Tryz.func73 (by kernel_rfl) rfl) (hurts_stops h f (f + n) w5.heap.size (by omega) (by omega) hB6.size (by omega) hB6 hq) KpH.trans (KpH.put hB6.size (by omega)) (fun _ => rfl)
          (fun (pre : List Int) W => pre = [] ∧ Boxed W q 4 (.bool false) ∧ Below w.heap.size w W ∧ w6.heap.size ≤ W.heap.size)
          (fun c _ W => c = .exit 0 ∧ Boxed W q 4 (.bool true) ∧ Below w.heap.size w W ∧ w6.heap.size ≤ W.heap.size)
          ?_ ?_ ⟨rfl, bH6, hB6, Nat.le_refl _⟩ ?_ ?_ ?_
        · exact fun _ _ _ _ hs hg hr => ⟨hs.1, hs.2.1.kept hg (fun e => by have := (hr _ e.symm).1; omega), hs.2.2.1.grown hg (by omega) (fun k e => by have := (hr k e).1; omega), Nat.le_trans hs.2.2.2 hg.size⟩
        · exact fun _ _ _ _ _ hs hg hr => ⟨hs.1, hs.2.1.kept hg (fun e => by have := (hr _ e.symm).1; omega), hs.2.2.1.grown hg (by omega) (fun k e => by have := (hr k e).1; omega), Nat.le_trans hs.2.2.2 hg.size⟩
        · rintro l pre x W ⟨rfl, hbx, hB, hsW⟩ _
          have hc := hbx.cell
          have hf := hbx.frozen
          gi_wp2
          exact ⟨(KeepsOthers.setCell _ _ _).from _, rfl, hbx.set _, hB.setCell (p := ⟨q, 0, none⟩) hq1 _, by simpa [World.setCell] using hsW⟩
        · rintro D xs W hD rfl ⟨hn0, _⟩ _
          exact absurd hn0 hL
        · rintro D c pre W hD ⟨hp, hne⟩ ⟨rfl, hbx, hB, hsW⟩ hK
          go_wp2
          (try simp only [Exit.inBlock]); (try simp only [Exit.then])
          refine HK.out _ _ ?_
          clear HK
          have hdW := h.below hB
          have hcW := hbx.cell
          refine wp_seq_k (fun K hK => ?_)
          have HK := Lib.hid hK
          clear hK
          go_wp2
          refine HK.out _ _ ?_
          clear HK
          refine wp_seq_k (fun K hK => ?_)
          have HK := Lib.hid hK
          clear hK
          go_wp2
          go_loopw [17, 16, 15, 18, 19, 20] (fun s all gn _ _ _ wr => ∃ (j : Nat) (v : Value), j ≤ n ∧ s = .int .i64 ((f : Int) + (j : Int)) ∧ all = v ∧ wr.ownsRow W.heap.size 5 1 v (allR d f j).length (bys (allR d f j)) ∧ gn = .bool (goneG d f j) ∧ Below W.heap.size W wr) (fun s _ _ _ _ _ _ => f + n - (intOf s).toNat)
          case atStart => exact ⟨0, _, by omega, by simp, rfl, World.ownsRow_nil _ _ _ _, rfl, Below.refl _ _⟩
          case round =>
            obtain ⟨j, v, hj, rfl, rfl, hown, rfl, hbr⟩ := hrel
            have hdr := hdW.below hbr
            by_cases hlt : j < n
            case pos =>
              have hil : (f : Int) + (j : Int) < (f : Int) + (n : Int) := by omega
              have hre := rest_sl hdr ((f + j : Nat) : Int)
              have hle := allR_len h f j
              have hrl := restD_len h ((f + j : Nat) : Int)
              have hsn := allG_succ (fun s => (restD d s).1) f j
              have hgs := goneG_succ d f j
              change allR d f (j + 1) = allR d f j ++ _ at hsn
              (try simp only at hsn)
              simp only [Int.natCast_add] at hre hrl hsn hgs
              generalize restD d ((f : Int) + (j : Int)) = r at *
              obtain ⟨rl, lost, er⟩ := r
              (try simp only at hre)
              (try simp only at hrl)
              (try simp only at hsn)
              (try simp only at hgs)
              have HSN := Lib.hid hsn
              have HGS := Lib.hid hgs
              clear hsn hgs
              generalize hal : allR d f j = al at *
              generalize hgo : goneG d f j = go at *
              clear hal hgo
              cases go
              all_goals
                go_wp2_with (first
                  | (go_at_call 51; refine hre.mono ?_; rintro e w8 ⟨⟨a8, c8, rfl, s8⟩, hb8⟩; have ho8 := owns_bl hown hb8; have hb9 := hbr.trans (hb8.mono hbr.size); have hr8 := s8.row)
                  | (at_builtin; refine wpList_append_row rfl _ _ 75 5 elByte rfl W.heap.size _ al.length (bys al) rfl ho8 a8 rl.length c8 (bys rl) rfl (by rw [bys_len]; omega) hr8 bys_one (by omega) (by decide) hb9.size ?_; intro v9 w9 ho9 hb10))
                rw [← bys_app] at ho9
                go_roundw
                case rel => exact ⟨j + 1, v9, by omega, by simp; omega, rfl, by rw [HSN.out, List.length_append]; exact ho9, by rw [HGS.out]; simp, hb9.trans hb10⟩
                case measure => simp [intOf]; omega
            case neg =>
              obtain rfl : j = n := by omega
              obtain ⟨a9, c9, rfl, s9⟩ := SlB.of_owns hown
              have hmi := mine_any a9 c9 (allR d f j) rep reg pla wr s9 (by have := allR_len h f j; omega)
              rw [HR.out] at hmi
              have hcr := cell_later hbr hcW
              have hKr := tr_bl hbr hK
              rw [HGO.out]
              go_wp2
              refine HK.out _ _ ?_
              clear HK
              refine wp_seq_k (fun K hK => ?_)
              have HK := Lib.hid hK
              clear hK
              go_wp2_with (first
                    | (go_at_call 52; refine hmi.mono ?_; rintro e w8 ⟨⟨a8, c8, rfl, ho8⟩, hb8⟩)
                    | ((first | (with_reducible refine wpList_stNew 108 _ _ ?_) | (with_reducible refine wp_stNew 108 _ _ ?_)); refine ⟨_, _, ⟨Tryz.sizeOf108, rfl, tg_new _⟩, rfl, ?_⟩))
              refine HK.out _ _ ?_
              clear HK
              have hb9 := hb8.alloc hb8.size (Obj.cells #[.int .i64 tg.rep, .int .i64 tg.reg, .int .i64 tg.pla, .int .i64 tg.idx, .int .i64 tg.inc] 108)
              have hcx := cell_later hb9 hcr
              have hKx := tr_bl hb9 hKr
              have hbx := hB.trans ((hbr.trans (hb9.mono hbr.size)).mono hB.size)
              generalize w8.alloc (Obj.cells #[.int .i64 tg.rep, .int .i64 tg.reg, .int .i64 tg.pla, .int .i64 tg.idx, .int .i64 tg.inc] 108) = w9 at *
              go_wp2
              refine marks_ret hKx (results_tmp3 rfl _ _ _) ?_
              exact ⟨rfl, below_mark hbx (by omega)⟩
theorem place_any {B g gp : Nat} {wv : Value} {d : Dk} {w : World} (h : DiskB B g gp wv d w) (rep reg pla : Int) : Calls Tryz.prog 23 #[.pointer (some ⟨g, 0, none⟩), .int .i64 rep, .int .i64 reg, .int .i64 pla] w fun e w' => e = .returned (.tuple #[.bool (placeG d rep reg pla).1, .bool (placeG d rep reg pla).2.1, .int .i64 (placeG d rep reg pla).2.2]) ∧ Below w.heap.size w w' := by
  by_cases ha : askG d rep reg pla = 0
  · exact place_ok h rep reg pla ha
  · have := place_err _ _ w h.dn rep reg pla ha
    unfold placeG
    rw [if_pos ha]
    exact this
end Go.Proofs.YtknchbhobopkeaaGreatDoor
namespace Go.Proofs.YtknchbhobopkeaaGreatDoor
open Go.RowKit
def HonRes (r : (Nat × Tg × List UInt8) × Int) (e : Ending) (w' : World) : Prop := ∃ a c, e = .returned (.tuple #[.int .u8 (r.1.1 : Int), tgV r.1.2.1, .slice a r.1.2.2.length c, .int .i64 r.2]) ∧ SlB w' a c r.1.2.2
end Go.Proofs.YtknchbhobopkeaaGreatDoor
namespace Go.Proofs.YtknchbhobopkeaaGreatDoor
open Go.RowKit
theorem seenR_no {d : Dk} {rep : Int} {r p : Nat} (hr : r < 5) (hp : p < (placesN ((r + 1 : Nat) : Int)).toNat) (h : (placeG d rep ((r + 1 : Nat) : Int) p).1 ≠ (placeG d rep ((r + 1 : Nat) : Int) p).2.1) : seenR d rep 5 = false := by
  rw [Bool.eq_false_iff]
  intro hh
  unfold seenR at hh
  rw [List.all_eq_true] at hh
  have h1 := hh r (List.mem_range.2 hr)
  unfold seenP at h1
  rw [List.all_eq_true] at h1
  have h2 := h1 p (List.mem_range.2 hp)
  exact h (eq_of_beq h2)
set_option maxRecDepth 100000 in
theorem seen_err (p : Value) (n : Nat) (w : World) (h : DiskN w p n) (rep : Int) (ha : askN n rep 1 0 ≠ 0) : Calls Tryz.prog 22 #[p, .int .i64 rep] w fun e w' => e = .returned (.tuple #[.bool false, .int .i64 (askN n rep 1 0)]) ∧ Below w.heap.size w w' := by
  have hk := asked_any p n w h rep 1 0
  generalize askN n rep 1 0 = x at *
  have e0 : (x != 0) = true := by rw [bne_iff_ne]; exact ha
  clear ha
  go_enter Tryz.func22, Tryz.ntmps22
  go_wp2_with (go_at_call 46; refine hk.mono ?_; rintro e w1 ⟨rfl, hb1⟩)
  go_ret2
  exact ⟨rfl, hb1⟩
set_option maxRecDepth 100000 in
set_option maxHeartbeats 1000000 in
theorem seen_ok {B g gp : Nat} {wv : Value} {d : Dk} {w : World} (h : DiskB B g gp wv d w) (rep : Int) (ha : askG d rep 1 0 = 0) : Calls Tryz.prog 22 #[.pointer (some ⟨g, 0, none⟩), .int .i64 rep] w fun e w' => e = .returned (.tuple #[.bool (seenG d rep).1, .int .i64 (seenG d rep).2]) ∧ Below w.heap.size w w' := by
  have hk := asked_any _ _ w h.dn rep 1 0
  unfold seenG
  rw [if_neg (by simpa using ha)]
  unfold askG at ha
  rw [ha] at hk
  clear ha
  obtain ⟨res, hres⟩ : ∃ res, seenR d rep 5 = res := ⟨_, rfl⟩
  simp only [hres]
  have HRES := Lib.hid hres
  clear hres
  go_enter Tryz.func22, Tryz.ntmps22
  refine wp_seq_k (fun K hK => ?_)
  have HK := Lib.hid hK
  clear hK
  go_wp2
  refine HK.out _ _ ?_
  clear HK
  refine wp_seq_k (fun K hK => ?_)
  have HK := Lib.hid hK
  clear hK
  go_wp2_with (go_at_call 46; refine hk.mono ?_; rintro e w1 ⟨rfl, hb1⟩)
  refine HK.out _ _ ?_
  clear HK
  refine wp_seq_k (fun K hK => ?_)
  have HK := Lib.hid hK
  clear hK hk
  go_wp2
  go_loopw [7, 8, 9, 10, 11] (fun s _ _ _ _ wr => ∃ r : Nat, r ≤ 5 ∧ s = .int .i64 ((r : Int) + 1) ∧ seenR d rep r = true ∧ Below w.heap.size w wr) (fun s _ _ _ _ _ => 6 - (intOf s).toNat)
  case atStart => exact ⟨0, by omega, rfl, rfl, hb1⟩
  case round =>
    obtain ⟨r, hr5, rfl, hsr, hbr⟩ := hrel
    have hps := places_any ((r : Int) + 1)
    obtain ⟨N, hN, hN2, hN3, hN48⟩ : ∃ N : Nat, placesN ((r : Int) + 1) = N ∧ (r < 5 → 0 < N) ∧ (r = 5 → N = 0) ∧ N ≤ 48 := by
      rcases (show r = 0 ∨ r = 1 ∨ r = 2 ∨ r = 3 ∨ r = 4 ∨ r = 5 by omega) with rfl | rfl | rfl | rfl | rfl | rfl
      · exact ⟨2, rfl, by omega, by omega, by omega⟩
      · exact ⟨2, rfl, by omega, by omega, by omega⟩
      · exact ⟨24, rfl, by omega, by omega, by omega⟩
      · exact ⟨48, rfl, by omega, by omega, by omega⟩
      · exact ⟨16, rfl, by omega, by omega, by omega⟩
      · exact ⟨0, rfl, by omega, by omega, by omega⟩
    rw [hN] at hps
    have HN := Lib.hid hN
    have HSR := Lib.hid hsr
    clear hN hsr
    by_cases hlt : r < 5
    case neg =>
      obtain rfl : r = 5 := by omega
      obtain rfl := hN3 rfl
      have hres : res = true := by rw [← HRES.out, HSR.out]
      clear hN2 hN3 hlt HN
      subst hres
      go_wp2_with (go_at_call 47; refine (hps _).mono ?_; rintro e w2 ⟨rfl, hb2⟩)
      refine HK.out _ _ ?_
      clear HK
      go_wp2
      go_ret2
      exact ⟨rfl, hbr.trans (hb2.mono hbr.size)⟩
    case pos =>
      have hN0 : (0 : Int) < (N : Int) := by have := hN2 hlt; omega
      clear hN2 hN3
      refine wp_seq_k (fun K2 hK2 => ?_)
      have HK2 := Lib.hid hK2
      clear hK2
      go_wp2_with (go_at_call 47; refine (hps _).mono ?_; rintro e w2 ⟨rfl, hb2⟩)
      refine HK2.out _ _ ?_
      clear HK2
      have hb3 := hbr.trans (hb2.mono hbr.size)
      clear hbr hb2
      refine wp_seq_k (fun K3 hK3 => ?_)
      have HK3 := Lib.hid hK3
      clear hK3
      go_wp2_with (go_at_call 47; refine (hps _).mono ?_; rintro e w3 ⟨rfl, hb4⟩)
      have hb5 := hb3.trans (hb4.mono hb3.size)
      clear hb3 hb4
      go_loopw [25, 8, 9, 10, 11] (fun s _ _ _ _ wr => ∃ p : Nat, p ≤ N ∧ s = .int .i64 (p : Int) ∧ seenP d rep (r + 1) p = true ∧ Below w.heap.size w wr) (fun s _ _ _ _ _ => N - (intOf s).toNat)
      case atStart => exact ⟨0, by omega, rfl, rfl, hb5⟩
      case round =>
        clear hb5
        obtain ⟨p, hpN, rfl, hsp, hbp⟩ := hrel
        have HSP := Lib.hid hsp
        clear hsp
        by_cases hpl : p < N
        case pos =>
          have hpi : (p : Int) < (N : Int) := by omega
          have hpl2 := place_any (h.below hbp) rep ((r : Int) + 1) (p : Int)
          have hno := fun hh => seenR_no (d := d) (rep := rep) hlt (p := p) (by rw [Int.natCast_succ, HN.out]; simpa using hpl) hh
          have hye := seenP_succ d rep (r + 1) p
          rw [HSP.out, Bool.true_and] at hye
          rw [Int.natCast_succ] at hno hye
          obtain ⟨hu, se, er, hpg⟩ : ∃ hu se er, placeG d rep ((r : Int) + 1) (p : Int) = (hu, se, er) := ⟨_, _, _, rfl⟩
          rw [hpg] at hpl2 hno hye
          clear hpg
          simp only at hpl2 hno hye
          by_cases heq : hu = se
          case pos =>
            subst heq
            have HYE := Lib.hid (show seenP d rep (r + 1) (p + 1) = true by rw [hye]; simp)
            clear hno hye
            cases hu
            all_goals
              go_wp2_with (first
                | (go_at_call 23; refine hpl2.mono ?_; rintro e w5 ⟨rfl, hb5⟩))
              go_roundw
              case rel => exact ⟨p + 1, by omega, by go_num, HYE.out, hbp.trans (hb5.mono hbp.size)⟩
              case measure => simp [intOf]; omega
          case neg =>
            have hres : res = false := by rw [← HRES.out]; exact hno heq
            subst hres
            clear hno hye
            have hse : se = !hu := by revert heq; cases hu <;> cases se <;> simp
            subst hse
            clear heq
            cases hu
            all_goals
              simp only [Bool.not_false, Bool.not_true] at hpl2
              go_wp2_with (first
                | (go_at_call 23; refine hpl2.mono ?_; rintro e w5 ⟨rfl, hb5⟩))
              go_ret2
              exact ⟨rfl, hbp.trans (hb5.mono hbp.size)⟩
        case neg =>
          obtain rfl : p = N := by omega
          have HS2 := Lib.hid (show seenR d rep (r + 1) = true by
            rw [seenR_succ, HSR.out, Bool.true_and, Int.natCast_succ, HN.out]
            exact HSP.out)
          go_wp2
          refine HK3.out _ _ ?_
          clear HK3
          go_wp2
          go_roundw
          case rel => exact ⟨r + 1, by omega, by go_num, HS2.out, hbp⟩
          case measure => simp [intOf]; omega
theorem seen_any {B g gp : Nat} {wv : Value} {d : Dk} {w : World} (h : DiskB B g gp wv d w) (rep : Int) : Calls Tryz.prog 22 #[.pointer (some ⟨g, 0, none⟩), .int .i64 rep] w fun e w' => e = .returned (.tuple #[.bool (seenG d rep).1, .int .i64 (seenG d rep).2]) ∧ Below w.heap.size w w' := by
  by_cases ha : askG d rep 1 0 = 0
  · exact seen_ok h rep ha
  · have := seen_err _ _ w h.dn rep ha
    unfold seenG
    rw [if_pos ha]
    exact this
end Go.Proofs.YtknchbhobopkeaaGreatDoor
namespace Go.Proofs.YtknchbhobopkeaaGreatDoor
open Go.RowKit
set_option maxRecDepth 100000 in
set_option maxHeartbeats 4000000 in
theorem nothing_law (a : Option Addr) (cap : Nat) (l : List PutL) (fa : Option Addr) (fcap : Nat) (fs : List (Nat × Nat × Nat)) (w : World) (hR : Row w a (l.flatMap ptC)) (hl : l.length ≤ maxLen) (hfl : fs.length ≤ maxLen) (hok : ∀ y ∈ l, okP y) (hF : Flts w fa fs) :
    Calls Tryz.prog 5 #[.slice a l.length cap, .slice fa fs.length fcap] w fun e w' => e = .returned (.bool true) ∧ Below w.heap.size w w' := by
  have HOK := Lib.hid hok
  have HLM := Lib.hid hl
  have hfl2 : (fs.length : Int) ≤ 9223372036854775807 := by unfold maxLen at hfl; omega
  clear hok hl hfl
  go_enter Tryz.func5, Tryz.ntmps5
  refine wp_seq_k (fun K hK => ?_)
  have HK := Lib.hid hK
  clear hK
  go_wp2
  refine HK.out _ _ ?_
  clear HK
  refine wp_seq_k (fun K hK => ?_)
  have HK := Lib.hid hK
  clear hK
  go_wp2_with (go_at_call 6; refine (lawake_any _).mono ?_; rintro e w1 ⟨rfl, hb1⟩)
  refine HK.out _ _ ?_
  clear HK
  have hb0 := hb1
  refine wp_seq_k (fun K hK => ?_)
  go_cut [] (fun wx => Hid (l.length ≤ 30 ∧ ∀ x ∈ l, mayBl x.bal = true ∧ mayE x.e = true) ∧ Hid (fs.length ≤ 40) ∧ Below w.heap.size w wx)
  case first =>
    by_cases h40 : fs.length ≤ 40
    case neg =>
      have hI : (40 : Int) < fs.length := by omega
      go_wp2_with (go_at_call 14; refine (fits_any11 (hR.below0 hb1) HLM.out).mono ?_; rintro e w2 ⟨⟨r, rfl, hr⟩, hb2⟩; have HFR := Lib.hid hr; clear hr; cases r)
      all_goals
        go_wp2
        go_ret
        exact ⟨rfl, hb1.trans (hb2.mono hb1.size)⟩
    case pos =>
      have hI : ¬ (40 : Int) < fs.length := by omega
      go_wp2_with (go_at_call 14; refine (fits_any11 (hR.below0 hb1) HLM.out).mono ?_; rintro e w2 ⟨⟨r, rfl, hr⟩, hb2⟩; have HFR := Lib.hid hr; clear hr; cases r)
      · go_wp2
        go_ret
        exact ⟨rfl, hb1.trans (hb2.mono hb1.size)⟩
      · go_wp2
        go_meet
        exact ⟨Lib.hid (HFR.out rfl), Lib.hid h40, hb1.trans (hb2.mono hb1.size)⟩
  clear hb0 hb1
  obtain ⟨HFT, H40, hb2⟩ := hcut
  have hl30 : l.length ≤ 30 := HFT.out.1
  refine hK _ _ ?_
  clear hK
  have hnw := new_any (B := w.heap.size) (w := wc) 156 (by decide) (by decide) hb2.size
  refine wp_seq_k (fun K hK => ?_)
  have HK := Lib.hid hK
  clear hK
  go_wp2_with (go_at_call 7; refine hnw.mono ?_; rintro e w3 ⟨⟨g, gp, rfl, D3⟩, hb3⟩)
  refine HK.out _ _ ?_
  clear HK
  refine wp_seq_k (fun K hK => ?_)
  have HK := Lib.hid hK
  clear hK
  go_wp2
  refine HK.out _ _ ?_
  clear HK
  have hop := lopen_ok D3 2 7 0 (by show 156 ≤ (List.replicate 156 zeroPl).length; rw [List.length_replicate]; decide) ⟨by decide, by decide, by decide⟩ (live_up new_live156)
  refine wp_seq_k (fun K hK => ?_)
  have HK := Lib.hid hK
  clear hK
  go_wp2_with (go_at_call 8; refine hop.mono ?_; rintro e w4 ⟨⟨q, rfl, hq, L4⟩, hb4⟩)
  refine HK.out _ _ ?_
  clear HK
  have L4 : LgB w4 q g sN := L4
  have D4 := D3.below hb4
  have k4 := (hb2.trans (hb3.mono hb2.size)).trans (hb4.mono (Nat.le_trans hb2.size hb3.size))
  clear hnw hop D3 hb3 hb4 hq hb2
  refine wp_seq_k (fun K hK => ?_)
  have HK := Lib.hid hK
  clear hK
  go_wp2
  refine HK.out _ _ ?_
  clear HK
  refine wp_seq_k (fun K hK => ?_)
  have HK := Lib.hid hK
  clear hK
  go_wp2
  refine HK.out _ _ ?_
  clear HK
  have Z0 : (w4.alloc (Obj.cells #[.int .i64 0, .int .i64 0, .int .i64 0, .int .i64 0, .int .i64 0, .int .i64 0, .int .i64 0, .int .i64 0, .int .i64 0, .int .i64 0, .int .i64 0, .int .i64 0, .int .i64 0, .int .i64 0, .int .i64 0, .int .i64 0, .int .i64 0, .int .i64 0, .int .i64 0, .int .i64 0, .int .i64 0, .int .i64 0, .int .i64 0, .int .i64 0, .int .i64 0] 59)).heap[w4.heap.size]? = some (.cells (lastA (List.replicate 25 0)) 59 (0, 0)) := heap_alloc_new w4 (Obj.cells #[.int .i64 0, .int .i64 0, .int .i64 0, .int .i64 0, .int .i64 0, .int .i64 0, .int .i64 0, .int .i64 0, .int .i64 0, .int .i64 0, .int .i64 0, .int .i64 0, .int .i64 0, .int .i64 0, .int .i64 0, .int .i64 0, .int .i64 0, .int .i64 0, .int .i64 0, .int .i64 0, .int .i64 0, .int .i64 0, .int .i64 0, .int .i64 0, .int .i64 0] 59)
  have hbz := blw w4 (Obj.cells #[.int .i64 0, .int .i64 0, .int .i64 0, .int .i64 0, .int .i64 0, .int .i64 0, .int .i64 0, .int .i64 0, .int .i64 0, .int .i64 0, .int .i64 0, .int .i64 0, .int .i64 0, .int .i64 0, .int .i64 0, .int .i64 0, .int .i64 0, .int .i64 0, .int .i64 0, .int .i64 0, .int .i64 0, .int .i64 0, .int .i64 0, .int .i64 0, .int .i64 0] 59)
  have D5 := D4.below hbz
  have L5 := L4.below hbz
  have k5 := k4.trans (hbz.mono k4.size)
  have hql := k4.size
  clear D4 L4 k4 hbz
  generalize w4.alloc (Obj.cells #[.int .i64 0, .int .i64 0, .int .i64 0, .int .i64 0, .int .i64 0, .int .i64 0, .int .i64 0, .int .i64 0, .int .i64 0, .int .i64 0, .int .i64 0, .int .i64 0, .int .i64 0, .int .i64 0, .int .i64 0, .int .i64 0, .int .i64 0, .int .i64 0, .int .i64 0, .int .i64 0, .int .i64 0, .int .i64 0, .int .i64 0, .int .i64 0, .int .i64 0] 59) = w5 at *
  generalize w4.heap.size = ql at *
  refine wp_seq_k (fun K hK => ?_)
  go_cut [10, 11] (fun _ _ wx => ∃ (d : Dk) (wv : Value) (La : List Int), Hid (LdN l l.length d La) ∧ wx.heap[ql]? = some (.cells (lastA La) 59 (0, 0)) ∧ DiskB w.heap.size g gp wv d wx ∧ LgB wx q g sN ∧ Below w.heap.size w wx)
  case first =>
    go_wp2
    go_loopw [10, 11] (fun v _ wr => ∃ (k : Nat) (d : Dk) (wv : Value) (La : List Int), k ≤ l.length ∧ v = .int .i64 k ∧ Hid (LdN l k d La) ∧ wr.heap[ql]? = some (.cells (lastA La) 59 (0, 0)) ∧ DiskB w.heap.size g gp wv d wr ∧ LgB wr q g sN ∧ Below w.heap.size w wr) (fun v _ _ => l.length - (intOf v).toNat)
    case atStart => exact ⟨0, newDk 156, _, _, by omega, rfl, Lib.hid (ldn_new l), Z0, D5, L5, k5⟩
    case round =>
      clear Z0 D5 L5 k5
      obtain ⟨k, d, wv, La, hk, rfl, HLD, hZ, hD, hL, hbr⟩ := hrel
      by_cases hlt : k < l.length
      · have hlt2 : (k : Int) < l.length := by omega
        obtain ⟨b, off, rfl, hpt⟩ := PtAt.of (hR.below0 hbr) hlt
        obtain ⟨x, hx⟩ : ∃ x, l[k] = x := ⟨_, rfl⟩
        have hxl : x ∈ l := by rw [← hx]; exact List.getElem_mem hlt
        have HMX := Lib.hid (HFT.out.2 x hxl)
        have hox : x.at' ≤ 255 := HOK.out x hxl
        rw [hx] at hpt
        have HX := Lib.hid hx
        have HLT := Lib.hid hlt
        obtain ⟨kq, hK⟩ : ∃ kq : Nat, kq = x.at' % 24 + 1 := ⟨_, rfl⟩
        have hK1 : 1 ≤ kq ∧ kq ≤ 24 := by omega
        have hKi : (1 + (x.at' : Int) % 24) = (kq : Int) := by omega
        have HKI := Lib.hid hKi
        obtain ⟨hk1, hk2⟩ := hK1
        have HKL := Lib.hid (show kq < La.length by rw [HLD.out.len]; omega)
        have hat := HLD.out.at' (kq - 1) (by omega)
        rw [show kq - 1 + 1 = kq by omega, show ((kq - 1 : Nat) : Int) + 1 = (kq : Int) by omega] at hat
        have HAT := Lib.hid hat
        have c0 := hpt 0 _ rfl
        rw [Nat.add_zero] at c0
        clear hx hxl hK hKi hat
        refine wp_seq_k (fun K hK => ?_)
        have HK := Lib.hid hK
        clear hK
        go_wp2
        refine HK.out _ _ ?_
        clear HK
        refine wp_seq_k (fun K hK => ?_)
        have HK2 := Lib.hid hK
        clear hK
        refine wp_block ?_
        refine wp_seq_k (fun K hK => ?_)
        have HK := Lib.hid hK
        clear hK
        go_wp2
        refine HK.out _ _ ?_
        clear HK
        rw [HKI.out]
        clear c0
        rcases HAT.out with ⟨h0, hno⟩ | ⟨j, kk, hj, hjk, h0, his⟩
        · have c1 := blk_cell hZ kq _ (last_at h0)
          have HNO := Lib.hid hno
          clear h0 hno
          refine wp_seq_k (fun K hK => ?_)
          have HK3 := Lib.hid hK
          clear hK
          go_wp2_with fail
          refine wp_region_under (by kernel_rfl) (by kernel_rfl) ?_
          repeat (go_big_quiet_step (fail))
          refine wpQuiet_val (by rfl) ?_ ?_ ?_
          rotate_left
          · intro wS hSw
            obtain ⟨x, rfl⟩ := hSw; have c := under_cell c1 x
            go_simp
            (try with_reducible rfl)
          (try simp only [Act.put]); (try simp only [List.setIfInBounds_toArray]); (try simp only [List.set_cons_succ]); (try simp only [List.set_cons_zero])
          repeat (go_big_quiet_step (fail))
          refine wpQuiet_nil ?_
          intro _ hw'
          obtain ⟨xU, hw''⟩ := hw'
          subst hw''
          have hbU := under_below wr xU
          have hpt := hpt.below hbU
          have hZ := tr_bl hbU hZ
          have hD := hD.below hbU
          have hL := hL.below hbU
          have hbr := hbr.trans (hbU.mono hbr.size)
          clear c1 hbU
          generalize Under wr xU = wU at *
          obtain ⟨d2, ep, hl2⟩ := HLD.out.fresh (p := kq - 1) (by omega) HLT.out (b := x.bal) (e := x.e) (by rw [HX.out]) (by rw [HX.out]) HMX.out.1 HMX.out.2 HNO.out
          rw [show kq - 1 + 1 = kq by omega] at hl2
          rw [show ((kq - 1 : Nat) : Int) + 1 = (kq : Int) by omega] at ep
          have EP := Lib.hid ep
          have HLD2 := Lib.hid hl2
          clear ep hl2
          go_wp2
          refine HK3.out _ _ ?_
          clear HK3
          have hmx := HMX.out
          have hlw := (liveN HLD.out.live (i := (kq : Int)) (by omega) (by omega)).1
          have hpu := fun w' (hb : Below wU.heap.size wU w') => lput_ok (hL.below hb) (hD.below hb) (Nat.le_trans hbr.size hb.size) sN_ok (kq : Int) hlw hmx.1 hmx.2 (by rw [HLD.out.live.w]; simp)
          rw [EP.out] at hpu
          have HPU := Lib.hid hpu
          clear hpu hlw hmx
          refine wp_seq_k (fun K hK => ?_)
          have HK3 := Lib.hid hK
          clear hK
          go_wp2_with fail
          have hbd := (Below.refl wU.heap.size wU).drew
          have S1 := hpt.below hbd
          have Z1 := tr_bl hbd hZ
          have hb1 := hbr.trans (hbd.mono hbr.size)
          have HC := HPU.out _ hbd
          have L1 := hL.below hbd
          clear hpt HPU hD hZ hL hbd hbr
          refine wp_region_held_drew (S := PtAt b (off + k * 10) x) (by kernel_rfl) S1 (fun hS0 => ?_)
          clear hS0
          generalize wU.drew = x0 at *
          refine wpAnyH_take (i := 0) (oi := ⟨_, _, _, _, _, _⟩) (v := ?_) rfl (by kernel_rfl) (by kernel_rfl) (by kernel_rfl) (fun _ _ _ h => h) (Or.inl ⟨by rfl, ?_⟩) (by assumption) ?_
          rotate_left
          · intro wS hSw; go_simp; (try with_reducible rfl)
          (try simp only [Act.put]); (try simp only [List.setIfInBounds_toArray]); (try simp only [List.set_cons_succ]); (try simp only [List.set_cons_zero])
          refine wpAnyH_take (i := 1) (oi := ⟨_, _, _, _, _, _⟩) (v := ?_) rfl (by kernel_rfl) (by kernel_rfl) (by kernel_rfl) (fun _ _ _ h => h) (Or.inl ⟨by rfl, ?_⟩) (by assumption) ?_
          rotate_left
          · intro wS hSw; go_simp; (try with_reducible rfl)
          (try simp only [Act.put]); (try simp only [List.setIfInBounds_toArray]); (try simp only [List.set_cons_succ]); (try simp only [List.set_cons_zero])
          refine wpAnyH_take (i := 2) (oi := ⟨_, _, _, _, _, _⟩) (v := ?_) rfl (by kernel_rfl) (by kernel_rfl) (by kernel_rfl) (fun _ _ _ h => h) (Or.inl ⟨by rfl, ?_⟩) (by assumption) ?_
          rotate_left
          · intro wS hSw; go_simp; (try with_reducible rfl)
          (try simp only [Act.put]); (try simp only [List.setIfInBounds_toArray]); (try simp only [List.set_cons_succ]); (try simp only [List.set_cons_zero])
          refine wpAnyH_take (i := 3) (oi := ⟨_, _, _, _, _, _⟩) (v := ?_) rfl (by kernel_rfl) (by kernel_rfl) (by kernel_rfl) (fun _ _ _ h => h) (Or.inl ⟨by rfl, ?_⟩) (by assumption) ?_
          rotate_left
          · intro wS hSw; go_simp; (try with_reducible rfl)
          (try simp only [Act.put]); (try simp only [List.setIfInBounds_toArray]); (try simp only [List.set_cons_succ]); (try simp only [List.set_cons_zero])
          refine wpAnyH_take (i := 4) (oi := ⟨_, _, _, _, _, _⟩) (v := ?_) rfl (by kernel_rfl) (by kernel_rfl) (by kernel_rfl) (fun _ _ _ h => h) (Or.inl ⟨by rfl, ?_⟩) (by assumption) ?_
          rotate_left
          · intro wS hSw; go_simp; (try with_reducible rfl)
          (try simp only [Act.put]); (try simp only [List.setIfInBounds_toArray]); (try simp only [List.set_cons_succ]); (try simp only [List.set_cons_zero])
          refine wpAnyH_take (i := 5) (oi := ⟨_, _, _, _, _, _⟩) (v := ?_) rfl (by kernel_rfl) (by kernel_rfl) (by kernel_rfl) (fun _ _ _ h => h) (Or.inl ⟨by rfl, ?_⟩) (by assumption) ?_
          rotate_left
          · intro wS hSw; go_simp; (try with_reducible rfl)
          (try simp only [Act.put]); (try simp only [List.setIfInBounds_toArray]); (try simp only [List.set_cons_succ]); (try simp only [List.set_cons_zero])
          refine wpAnyH_take (i := 6) (oi := ⟨_, _, _, _, _, _⟩) (v := .agg (blA x.bal)) rfl (by kernel_rfl) (by kernel_rfl) (by kernel_rfl) (fun _ _ _ h => h) (Or.inl ⟨by rfl, fun wS hSw => ?_⟩) (by assumption) ?_
          · exact exec_ldC 32 _ ⟨_, _, _, Tryz.isAgg32, Tryz.sizeOf32, rfl, rfl, hSw.bal⟩
          (try simp only [Act.put]); (try simp only [List.setIfInBounds_toArray]); (try simp only [List.set_cons_succ]); (try simp only [List.set_cons_zero])
          refine wpAnyH_take (i := 7) (oi := ⟨_, _, _, _, _, _⟩) (v := ?_) rfl (by kernel_rfl) (by kernel_rfl) (by kernel_rfl) (fun _ _ _ h => h) (Or.inl ⟨by rfl, ?_⟩) (by assumption) ?_
          rotate_left
          · intro wS hSw; go_simp; (try with_reducible rfl)
          (try simp only [Act.put]); (try simp only [List.setIfInBounds_toArray]); (try simp only [List.set_cons_succ]); (try simp only [List.set_cons_zero])
          refine wpAnyH_take (i := 8) (oi := ⟨_, _, _, _, _, _⟩) (v := ?_) rfl (by kernel_rfl) (by kernel_rfl) (by kernel_rfl) (fun _ _ _ h => h) (Or.inl ⟨by rfl, ?_⟩) (by assumption) ?_
          rotate_left
          · intro wS hSw; go_simp; (try with_reducible rfl)
          (try simp only [Act.put]); (try simp only [List.setIfInBounds_toArray]); (try simp only [List.set_cons_succ]); (try simp only [List.set_cons_zero])
          refine wpAnyH_take (i := 9) (oi := ⟨_, _, _, _, _, _⟩) (v := ?_) rfl (by kernel_rfl) (by kernel_rfl) (by kernel_rfl) (fun _ _ _ h => h) (Or.inl ⟨by rfl, ?_⟩) (by assumption) ?_
          rotate_left
          · intro wS hSw; go_simp; (try with_reducible rfl)
          (try simp only [Act.put]); (try simp only [List.setIfInBounds_toArray]); (try simp only [List.set_cons_succ]); (try simp only [List.set_cons_zero])
          refine wpAnyH_take (i := 10) (oi := ⟨_, _, _, _, _, _⟩) (v := ?_) rfl (by kernel_rfl) (by kernel_rfl) (by kernel_rfl) (fun _ _ _ h => h) (Or.inl ⟨by rfl, ?_⟩) (by assumption) ?_
          rotate_left
          · intro wS hSw; go_simp; (try with_reducible rfl)
          (try simp only [Act.put]); (try simp only [List.setIfInBounds_toArray]); (try simp only [List.set_cons_succ]); (try simp only [List.set_cons_zero])
          refine wpAnyH_take (i := 11) (oi := ⟨_, _, _, _, _, _⟩) (v := .agg (enA x.e)) rfl (by kernel_rfl) (by kernel_rfl) (by kernel_rfl) (fun _ _ _ h => h) (Or.inl ⟨by rfl, fun wS hSw => ?_⟩) (by assumption) ?_
          · exact exec_ldC 36 _ ⟨_, _, _, Tryz.isAgg36, Tryz.sizeOf36, rfl, rfl, hSw.en⟩
          (try simp only [Act.put]); (try simp only [List.setIfInBounds_toArray]); (try simp only [List.set_cons_succ]); (try simp only [List.set_cons_zero])
          refine wpAnyH_ready (rs := [12]) (by kernel_rfl) (by simp) ?_
          refine AllReadyH.cons (o := ⟨_, _, _, _, _, _⟩) rfl (fun K' hK' => ?_) AllReadyH.nil
          refine (if_pos (by rfl)).mpr ?_
          go_simp
          refine HC.mono ?_
          rintro en w6 ⟨rfl, ⟨wv6, D6⟩, k6⟩
          have hb6 := hb1.trans k6.bl
          have S6 : PtAt b (off + k * 10) x w6 := by
            obtain ⟨b', off', e, h⟩ := PtAt.of (hR.below0 hb6) HLT.out
            cases e
            rw [HX.out] at h
            exact h
          have L6 := L1.kt k6
          have Z6 := k6.ty _ _ _ Z1 (by decide) (by decide) (by decide)
          refine hK'.out _ _ S6 (fun _ => ?_)
          clear hK' S1 Z1 L1 HC hb1 k6
          (try simp only [Act.put]); (try simp only [List.setIfInBounds_toArray]); (try simp only [List.set_cons_succ]); (try simp only [List.set_cons_zero])
          refine wpAnyH_take (i := 13) (oi := ⟨_, _, _, _, _, _⟩) (v := ?_) rfl (by kernel_rfl) (by kernel_rfl) (by kernel_rfl) (fun _ _ _ h => h) (Or.inl ⟨by rfl, ?_⟩) (by assumption) ?_
          rotate_left
          · intro wS hSw; go_simp; (try with_reducible rfl)
          (try simp only [Act.put]); (try simp only [List.setIfInBounds_toArray]); (try simp only [List.set_cons_succ]); (try simp only [List.set_cons_zero])
          refine wpAnyH_done (by kernel_rfl) ?_ _
          go_wp2
          refine HK3.out _ _ ?_
          clear HK3
          go_wp2_with ((with_reducible refine wpList_stB 3 _ _ ?_); refine ⟨_, _, _, ⟨_, _, _, Tryz.sizeOf3, rfl, Z6, last_set HKL.out _⟩, ?_⟩; intro w7 Z7 g7)
          have D7 := D6.otA g7 Z6 (by decide) (by decide) (by decide)
          have L7 : LgB w7 q g sN := tr_st g7 L6 (ne_tyA Z6 L6 (by decide))
          have hb7 := bl_st hb6 g7 hb6.size hql
          (try simp only [Exit.inBlock, Exit.then])
          refine HK2.out _ _ ?_
          clear HK2
          go_wp2
          go_roundw
          case rel => exact ⟨k + 1, d2, wv6, _, HLT.out, congrArg (Value.int .i64) (by omega), HLD2, Z7, D7, L7, hb7⟩
          case measure => have := HLT.out; simp [intOf]; omega
        · have c1 := blk_cell hZ kq _ (last_at h0)
          obtain ⟨b', off', e', hptj⟩ := PtAt.of (hR.below0 hbr) hj
          cases e'
          obtain ⟨y, hy⟩ : ∃ y, l[j] = y := ⟨_, rfl⟩
          rw [hy] at hptj his
          have HIS := Lib.hid his
          have hj1 : (0 : Int) < (j : Int) + 1 := by omega
          have hjl : (j : Int) < l.length := by omega
          clear h0 his hy
          cases hab : lessB y.bal x.bal
          case false =>
            refine wp_seq_k (fun K hK => ?_)
            have HK3 := Lib.hid hK
            clear hK
            go_wp2_with fail
            refine wp_region_under (by kernel_rfl) (by kernel_rfl) ?_
            repeat (go_big_quiet_step (fail))
            refine wpQuiet_val (by rfl) ?_ ?_ ?_
            rotate_left
            · intro wS hSw
              obtain ⟨xx, rfl⟩ := hSw; have c := under_cell c1 xx
              go_simp
              (try with_reducible rfl)
            (try simp only [Act.put]); (try simp only [List.setIfInBounds_toArray]); (try simp only [List.set_cons_succ]); (try simp only [List.set_cons_zero])
            repeat (go_big_quiet_step (fail))
            refine wpQuiet_val (by rfl) (.agg (blA x.bal)) (fun wS hSw => ?_) ?_
            · obtain ⟨xx, rfl⟩ := hSw; exact exec_ldC 32 _ ⟨_, _, _, Tryz.isAgg32, Tryz.sizeOf32, rfl, rfl, fun j u hu => under_cell (hpt.bal j u hu) xx⟩
            (try simp only [Act.put]); (try simp only [List.setIfInBounds_toArray]); (try simp only [List.set_cons_succ]); (try simp only [List.set_cons_zero])
            repeat (go_big_quiet_step (fail))
            refine wpQuiet_val (by rfl) ?_ ?_ ?_
            rotate_left
            · intro wS hSw
              obtain ⟨xx, rfl⟩ := hSw; have c := under_cell c1 xx
              go_simp
              (try with_reducible rfl)
            (try simp only [Act.put]); (try simp only [List.setIfInBounds_toArray]); (try simp only [List.set_cons_succ]); (try simp only [List.set_cons_zero])
            repeat (go_big_quiet_step (fail))
            refine wpQuiet_val (by rfl) (.agg (blA y.bal)) (fun wS hSw => ?_) ?_
            · obtain ⟨xx, rfl⟩ := hSw; exact exec_ldC 32 _ ⟨_, _, _, Tryz.isAgg32, Tryz.sizeOf32, rfl, rfl, fun j u hu => under_cell (hptj.bal j u hu) xx⟩
            (try simp only [Act.put]); (try simp only [List.setIfInBounds_toArray]); (try simp only [List.set_cons_succ]); (try simp only [List.set_cons_zero])
            go_big_quiet_step ((go_at_call 20; exact under_call (above_any _ _ _ hab _)))
            repeat (go_big_quiet_step (fail))
            refine wpQuiet_nil ?_
            intro _ hw'
            obtain ⟨xU, hw''⟩ := hw'
            subst hw''
            have hbU := under_below wr xU
            have hpt := hpt.below hbU
            have hZ := tr_bl hbU hZ
            have hD := hD.below hbU
            have hL := hL.below hbU
            have hbr := hbr.trans (hbU.mono hbr.size)
            clear c1 hbU hptj
            generalize Under wr xU = wU at *
            go_wp2
            (try simp only [Exit.inBlock, Exit.then])
            refine HK2.out _ _ ?_
            clear HK2
            go_wp2
            go_roundw
            case rel => exact ⟨k + 1, d, wv, La, HLT.out, congrArg (Value.int .i64) (by omega), Lib.hid HLD.out.skip, hZ, hD, hL, hbr⟩
            case measure => have := HLT.out; simp [intOf]; omega
          case true =>
            refine wp_seq_k (fun K hK => ?_)
            have HK3 := Lib.hid hK
            clear hK
            go_wp2_with fail
            refine wp_region_under (by kernel_rfl) (by kernel_rfl) ?_
            repeat (go_big_quiet_step (fail))
            refine wpQuiet_val (by rfl) ?_ ?_ ?_
            rotate_left
            · intro wS hSw
              obtain ⟨xx, rfl⟩ := hSw; have c := under_cell c1 xx
              go_simp
              (try with_reducible rfl)
            (try simp only [Act.put]); (try simp only [List.setIfInBounds_toArray]); (try simp only [List.set_cons_succ]); (try simp only [List.set_cons_zero])
            repeat (go_big_quiet_step (fail))
            refine wpQuiet_val (by rfl) (.agg (blA x.bal)) (fun wS hSw => ?_) ?_
            · obtain ⟨xx, rfl⟩ := hSw; exact exec_ldC 32 _ ⟨_, _, _, Tryz.isAgg32, Tryz.sizeOf32, rfl, rfl, fun j u hu => under_cell (hpt.bal j u hu) xx⟩
            (try simp only [Act.put]); (try simp only [List.setIfInBounds_toArray]); (try simp only [List.set_cons_succ]); (try simp only [List.set_cons_zero])
            repeat (go_big_quiet_step (fail))
            refine wpQuiet_val (by rfl) ?_ ?_ ?_
            rotate_left
            · intro wS hSw
              obtain ⟨xx, rfl⟩ := hSw; have c := under_cell c1 xx
              go_simp
              (try with_reducible rfl)
            (try simp only [Act.put]); (try simp only [List.setIfInBounds_toArray]); (try simp only [List.set_cons_succ]); (try simp only [List.set_cons_zero])
            repeat (go_big_quiet_step (fail))
            refine wpQuiet_val (by rfl) (.agg (blA y.bal)) (fun wS hSw => ?_) ?_
            · obtain ⟨xx, rfl⟩ := hSw; exact exec_ldC 32 _ ⟨_, _, _, Tryz.isAgg32, Tryz.sizeOf32, rfl, rfl, fun j u hu => under_cell (hptj.bal j u hu) xx⟩
            (try simp only [Act.put]); (try simp only [List.setIfInBounds_toArray]); (try simp only [List.set_cons_succ]); (try simp only [List.set_cons_zero])
            go_big_quiet_step ((go_at_call 20; exact under_call (above_any _ _ _ hab _)))
            repeat (go_big_quiet_step (fail))
            refine wpQuiet_nil ?_
            intro _ hw'
            obtain ⟨xU, hw''⟩ := hw'
            subst hw''
            have hbU := under_below wr xU
            have hpt := hpt.below hbU
            have hZ := tr_bl hbU hZ
            have hD := hD.below hbU
            have hL := hL.below hbU
            have hbr := hbr.trans (hbU.mono hbr.size)
            clear c1 hbU hptj
            generalize Under wr xU = wU at *
            obtain ⟨d2, ep, hl2⟩ := HLD.out.over (p := kq - 1) (by omega) HLT.out (b := x.bal) (e := x.e) (by rw [HX.out]) (by rw [HX.out]) HMX.out.1 HMX.out.2 (by rw [show ((kq - 1 : Nat) : Int) + 1 = (kq : Int) by omega]; exact HIS.out) hab
            rw [show kq - 1 + 1 = kq by omega] at hl2
            rw [show ((kq - 1 : Nat) : Int) + 1 = (kq : Int) by omega] at ep
            have EP := Lib.hid ep
            have HLD2 := Lib.hid hl2
            clear ep hl2
            go_wp2
            refine HK3.out _ _ ?_
            clear HK3
            have hmx := HMX.out
            have hlw := (liveN HLD.out.live (i := (kq : Int)) (by omega) (by omega)).1
            have hpu := fun w' (hb : Below wU.heap.size wU w') => lput_ok (hL.below hb) (hD.below hb) (Nat.le_trans hbr.size hb.size) sN_ok (kq : Int) hlw hmx.1 hmx.2 (by rw [HLD.out.live.w]; simp)
            rw [EP.out] at hpu
            have HPU := Lib.hid hpu
            clear hpu hlw hmx
            refine wp_seq_k (fun K hK => ?_)
            have HK3 := Lib.hid hK
            clear hK
            go_wp2_with fail
            have hbd := (Below.refl wU.heap.size wU).drew
            have S1 := hpt.below hbd
            have Z1 := tr_bl hbd hZ
            have hb1 := hbr.trans (hbd.mono hbr.size)
            have HC := HPU.out _ hbd
            have L1 := hL.below hbd
            clear hpt HPU hD hZ hL hbd hbr
            refine wp_region_held_drew (S := PtAt b (off + k * 10) x) (by kernel_rfl) S1 (fun hS0 => ?_)
            clear hS0
            generalize wU.drew = x0 at *
            refine wpAnyH_take (i := 0) (oi := ⟨_, _, _, _, _, _⟩) (v := ?_) rfl (by kernel_rfl) (by kernel_rfl) (by kernel_rfl) (fun _ _ _ h => h) (Or.inl ⟨by rfl, ?_⟩) (by assumption) ?_
            rotate_left
            · intro wS hSw; go_simp; (try with_reducible rfl)
            (try simp only [Act.put]); (try simp only [List.setIfInBounds_toArray]); (try simp only [List.set_cons_succ]); (try simp only [List.set_cons_zero])
            refine wpAnyH_take (i := 1) (oi := ⟨_, _, _, _, _, _⟩) (v := ?_) rfl (by kernel_rfl) (by kernel_rfl) (by kernel_rfl) (fun _ _ _ h => h) (Or.inl ⟨by rfl, ?_⟩) (by assumption) ?_
            rotate_left
            · intro wS hSw; go_simp; (try with_reducible rfl)
            (try simp only [Act.put]); (try simp only [List.setIfInBounds_toArray]); (try simp only [List.set_cons_succ]); (try simp only [List.set_cons_zero])
            refine wpAnyH_take (i := 2) (oi := ⟨_, _, _, _, _, _⟩) (v := ?_) rfl (by kernel_rfl) (by kernel_rfl) (by kernel_rfl) (fun _ _ _ h => h) (Or.inl ⟨by rfl, ?_⟩) (by assumption) ?_
            rotate_left
            · intro wS hSw; go_simp; (try with_reducible rfl)
            (try simp only [Act.put]); (try simp only [List.setIfInBounds_toArray]); (try simp only [List.set_cons_succ]); (try simp only [List.set_cons_zero])
            refine wpAnyH_take (i := 3) (oi := ⟨_, _, _, _, _, _⟩) (v := ?_) rfl (by kernel_rfl) (by kernel_rfl) (by kernel_rfl) (fun _ _ _ h => h) (Or.inl ⟨by rfl, ?_⟩) (by assumption) ?_
            rotate_left
            · intro wS hSw; go_simp; (try with_reducible rfl)
            (try simp only [Act.put]); (try simp only [List.setIfInBounds_toArray]); (try simp only [List.set_cons_succ]); (try simp only [List.set_cons_zero])
            refine wpAnyH_take (i := 4) (oi := ⟨_, _, _, _, _, _⟩) (v := ?_) rfl (by kernel_rfl) (by kernel_rfl) (by kernel_rfl) (fun _ _ _ h => h) (Or.inl ⟨by rfl, ?_⟩) (by assumption) ?_
            rotate_left
            · intro wS hSw; go_simp; (try with_reducible rfl)
            (try simp only [Act.put]); (try simp only [List.setIfInBounds_toArray]); (try simp only [List.set_cons_succ]); (try simp only [List.set_cons_zero])
            refine wpAnyH_take (i := 5) (oi := ⟨_, _, _, _, _, _⟩) (v := ?_) rfl (by kernel_rfl) (by kernel_rfl) (by kernel_rfl) (fun _ _ _ h => h) (Or.inl ⟨by rfl, ?_⟩) (by assumption) ?_
            rotate_left
            · intro wS hSw; go_simp; (try with_reducible rfl)
            (try simp only [Act.put]); (try simp only [List.setIfInBounds_toArray]); (try simp only [List.set_cons_succ]); (try simp only [List.set_cons_zero])
            refine wpAnyH_take (i := 6) (oi := ⟨_, _, _, _, _, _⟩) (v := .agg (blA x.bal)) rfl (by kernel_rfl) (by kernel_rfl) (by kernel_rfl) (fun _ _ _ h => h) (Or.inl ⟨by rfl, fun wS hSw => ?_⟩) (by assumption) ?_
            · exact exec_ldC 32 _ ⟨_, _, _, Tryz.isAgg32, Tryz.sizeOf32, rfl, rfl, hSw.bal⟩
            (try simp only [Act.put]); (try simp only [List.setIfInBounds_toArray]); (try simp only [List.set_cons_succ]); (try simp only [List.set_cons_zero])
            refine wpAnyH_take (i := 7) (oi := ⟨_, _, _, _, _, _⟩) (v := ?_) rfl (by kernel_rfl) (by kernel_rfl) (by kernel_rfl) (fun _ _ _ h => h) (Or.inl ⟨by rfl, ?_⟩) (by assumption) ?_
            rotate_left
            · intro wS hSw; go_simp; (try with_reducible rfl)
            (try simp only [Act.put]); (try simp only [List.setIfInBounds_toArray]); (try simp only [List.set_cons_succ]); (try simp only [List.set_cons_zero])
            refine wpAnyH_take (i := 8) (oi := ⟨_, _, _, _, _, _⟩) (v := ?_) rfl (by kernel_rfl) (by kernel_rfl) (by kernel_rfl) (fun _ _ _ h => h) (Or.inl ⟨by rfl, ?_⟩) (by assumption) ?_
            rotate_left
            · intro wS hSw; go_simp; (try with_reducible rfl)
            (try simp only [Act.put]); (try simp only [List.setIfInBounds_toArray]); (try simp only [List.set_cons_succ]); (try simp only [List.set_cons_zero])
            refine wpAnyH_take (i := 9) (oi := ⟨_, _, _, _, _, _⟩) (v := ?_) rfl (by kernel_rfl) (by kernel_rfl) (by kernel_rfl) (fun _ _ _ h => h) (Or.inl ⟨by rfl, ?_⟩) (by assumption) ?_
            rotate_left
            · intro wS hSw; go_simp; (try with_reducible rfl)
            (try simp only [Act.put]); (try simp only [List.setIfInBounds_toArray]); (try simp only [List.set_cons_succ]); (try simp only [List.set_cons_zero])
            refine wpAnyH_take (i := 10) (oi := ⟨_, _, _, _, _, _⟩) (v := ?_) rfl (by kernel_rfl) (by kernel_rfl) (by kernel_rfl) (fun _ _ _ h => h) (Or.inl ⟨by rfl, ?_⟩) (by assumption) ?_
            rotate_left
            · intro wS hSw; go_simp; (try with_reducible rfl)
            (try simp only [Act.put]); (try simp only [List.setIfInBounds_toArray]); (try simp only [List.set_cons_succ]); (try simp only [List.set_cons_zero])
            refine wpAnyH_take (i := 11) (oi := ⟨_, _, _, _, _, _⟩) (v := .agg (enA x.e)) rfl (by kernel_rfl) (by kernel_rfl) (by kernel_rfl) (fun _ _ _ h => h) (Or.inl ⟨by rfl, fun wS hSw => ?_⟩) (by assumption) ?_
            · exact exec_ldC 36 _ ⟨_, _, _, Tryz.isAgg36, Tryz.sizeOf36, rfl, rfl, hSw.en⟩
            (try simp only [Act.put]); (try simp only [List.setIfInBounds_toArray]); (try simp only [List.set_cons_succ]); (try simp only [List.set_cons_zero])
            refine wpAnyH_ready (rs := [12]) (by kernel_rfl) (by simp) ?_
            refine AllReadyH.cons (o := ⟨_, _, _, _, _, _⟩) rfl (fun K' hK' => ?_) AllReadyH.nil
            refine (if_pos (by rfl)).mpr ?_
            go_simp
            refine HC.mono ?_
            rintro en w6 ⟨rfl, ⟨wv6, D6⟩, k6⟩
            have hb6 := hb1.trans k6.bl
            have S6 : PtAt b (off + k * 10) x w6 := by
              obtain ⟨b', off', e, h⟩ := PtAt.of (hR.below0 hb6) HLT.out
              cases e
              rw [HX.out] at h
              exact h
            have L6 := L1.kt k6
            have Z6 := k6.ty _ _ _ Z1 (by decide) (by decide) (by decide)
            refine hK'.out _ _ S6 (fun _ => ?_)
            clear hK' S1 Z1 L1 HC hb1 k6
            (try simp only [Act.put]); (try simp only [List.setIfInBounds_toArray]); (try simp only [List.set_cons_succ]); (try simp only [List.set_cons_zero])
            refine wpAnyH_take (i := 13) (oi := ⟨_, _, _, _, _, _⟩) (v := ?_) rfl (by kernel_rfl) (by kernel_rfl) (by kernel_rfl) (fun _ _ _ h => h) (Or.inl ⟨by rfl, ?_⟩) (by assumption) ?_
            rotate_left
            · intro wS hSw; go_simp; (try with_reducible rfl)
            (try simp only [Act.put]); (try simp only [List.setIfInBounds_toArray]); (try simp only [List.set_cons_succ]); (try simp only [List.set_cons_zero])
            refine wpAnyH_done (by kernel_rfl) ?_ _
            go_wp2
            refine HK3.out _ _ ?_
            clear HK3
            go_wp2_with ((with_reducible refine wpList_stB 3 _ _ ?_); refine ⟨_, _, _, ⟨_, _, _, Tryz.sizeOf3, rfl, Z6, last_set HKL.out _⟩, ?_⟩; intro w7 Z7 g7)
            have D7 := D6.otA g7 Z6 (by decide) (by decide) (by decide)
            have L7 : LgB w7 q g sN := tr_st g7 L6 (ne_tyA Z6 L6 (by decide))
            have hb7 := bl_st hb6 g7 hb6.size hql
            (try simp only [Exit.inBlock, Exit.then])
            refine HK2.out _ _ ?_
            clear HK2
            go_wp2
            go_roundw
            case rel => exact ⟨k + 1, d2, wv6, _, HLT.out, congrArg (Value.int .i64) (by omega), HLD2, Z7, D7, L7, hb7⟩
            case measure => have := HLT.out; simp [intOf]; omega
      · obtain rfl : k = l.length := by omega
        go_wp2
        go_meet
        exact ⟨d, wv, La, HLD, hZ, hD, hL, hbr⟩
  clear Z0 D5 L5 k5
  obtain ⟨d, wv, La, HLD, hZ, hD, hL, hbr⟩ := hcut
  refine hK _ _ ?_
  clear hK
  have hhu := lhurt_any hD hbr.size (Flt.refl HLD.out.live) fa fcap (fun w' h => hF.below (hbr.trans h.bl)) H40.out
  refine wp_seq_k (fun K hK => ?_)
  have HK := Lib.hid hK
  clear hK
  go_wp2_with (go_at_call 21; refine hhu.mono ?_; rintro e w6 ⟨rfl, ⟨d', D6, hFl⟩, k6⟩)
  refine HK.out _ _ ?_
  clear HK
  have L6 := hL.kt k6
  have Z6 := k6.ty _ _ _ hZ (by decide) (by decide) (by decide)
  have hb6 := hbr.trans k6.bl
  have HFL := Lib.hid hFl
  clear hhu hD hL hZ hbr k6 hFl
  have hse := seen_any D6 2
  have hask : askG d' 2 1 0 = 0 := ask_of HFL.out.live.len (by decide) (by decide)
  obtain ⟨sn, hsn⟩ : ∃ sn, seenR d' 2 5 = sn := ⟨_, rfl⟩
  have hs0 : seenG d' 2 = (sn, 0) := by unfold seenG; rw [if_neg (by simp [hask]), hsn]
  rw [hs0] at hse
  have HS0 := Lib.hid hs0
  clear hask hsn hs0
  refine wp_seq_k (fun K hK => ?_)
  have HK := Lib.hid hK
  clear hK
  go_wp2_with (go_at_call 22; refine hse.mono ?_; rintro e w7 ⟨rfl, hb7⟩)
  refine HK.out _ _ ?_
  clear HK
  have L7 := L6.below hb7
  have D7 := D6.below hb7
  have Z7 := tr_bl hb7 Z6
  have k7 := hb6.trans (hb7.mono hb6.size)
  clear hse L6 D6 Z6 hb6 hb7
  refine wp_seq_k (fun K hK => ?_)
  have HK := Lib.hid hK
  clear hK
  go_wp2
  refine HK.out _ _ ?_
  clear HK
  cases sn
  case false =>
    go_wp2
    go_ret
    exact ⟨rfl, k7⟩
  case true =>
    refine wp_seq_k (fun K hK => ?_)
    have HK := Lib.hid hK
    clear hK
    go_wp2
    refine HK.out _ _ ?_
    clear HK
    refine wp_seq_k (fun K hK => ?_)
    go_cut [14] (fun _ wx => Below w7.heap.size w7 wx)
    case first =>
      go_wp2
      go_loopw [14] (fun v wr => ∃ k : Nat, 1 ≤ k ∧ k ≤ 25 ∧ v = .int .i64 (k : Int) ∧ Below w7.heap.size w7 wr) (fun v _ => 25 - (intOf v).toNat)
      case atStart => exact ⟨1, by omega, by omega, rfl, Below.refl _ _⟩
      case round =>
        obtain ⟨k, hk1, hk2, rfl, hbr⟩ := hrel
        by_cases hlt : k ≤ 24
        · have hlt2 : (k : Int) ≤ 24 := by omega
          have HLT := Lib.hid hlt
          have L12 := L7.below hbr
          have D12 := D7.below hbr
          obtain ⟨_, g1, g2⟩ := liveN HFL.out.live (i := (k : Int)) (by omega) (by omega)
          have hge := fun w' (h : LgB w' q g sN) (D : DiskB w.heap.size g gp wv d' w') => lget_any2 h D sN_ok (k : Int)
          have hcl := fun w' (h : LgB w' q g sN) (D : DiskB w.heap.size g gp wv d' w') => lclass_any2 h D sN_ok (k : Int)
          obtain ⟨r, hr⟩ : ∃ r, rptW d' sN (k : Int) = r := ⟨_, rfl⟩
          obtain ⟨c, hc⟩ : ∃ c, (repW d' sN (k : Int)).1 = c := ⟨_, rfl⟩
          rw [hr] at g1
          rw [hc] at g2
          rw [g1] at hge
          rw [g2] at hcl
          have HR := Lib.hid hr
          have HC := Lib.hid hc
          have hpk : plW (k : Int) = ((k - 1 : Nat) : Int) := by unfold plW; omega
          have hnth := nth_of (s := sN) (p := k - 1) HLD.out.clean HLD.out.live HFL.out HS0.out (by decide) (by omega)
          have hat := HLD.out.at' (k - 1) (by omega)
          rw [show k - 1 + 1 = k by omega, show ((k - 1 : Nat) : Int) + 1 = (k : Int) by omega] at hat
          have HAT := Lib.hid hat
          have HNT := Lib.hid hnth
          have HPK := Lib.hid hpk
          clear g1 g2 hr hc hpk hnth hat
          refine wp_seq_k (fun K hK => ?_)
          have HK := Lib.hid hK
          clear hK
          go_wp2
          refine HK.out _ _ ?_
          clear HK
          refine wp_seq_k (fun K hK => ?_)
          have HK2 := Lib.hid hK
          clear hK
          refine wp_block ?_
          refine wp_seq_k (fun K hK => ?_)
          have HK := Lib.hid hK
          clear hK
          go_wp2_with (first
                      | (go_at_call 15; refine (hge _ L12 D12).mono ?_; rintro e w13 ⟨rfl, hb13⟩)
                      | ((first | (with_reducible refine wpList_stNew 44 _ _ ?_) | (with_reducible refine wp_stNew 44 _ _ ?_)); refine ⟨_, _, ⟨Tryz.sizeOf44, rfl, rt_new _⟩, rfl, ?_⟩))
          refine HK.out _ _ ?_
          clear HK
          have R14 := heap_alloc_new w13 (Obj.cells (rptA r) 44)
          have hb14 := hb13.trans ((blw w13 (Obj.cells (rptA r) 44)).mono hb13.size)
          have L14 := L12.below hb14
          have D14 := D12.below hb14
          have hr14 := hbr.trans (hb14.mono hbr.size)
          clear hge hb13 L12 D12 hb14 hbr
          generalize w13.alloc (Obj.cells (rptA r) 44) = w14 at *
          generalize w13.heap.size = qr at *
          refine wp_seq_k (fun K hK => ?_)
          have HK := Lib.hid hK
          clear hK
          go_wp2_with (go_at_call 19; refine (hcl _ L14 D14).mono ?_; rintro e w15 ⟨rfl, hb15⟩)
          refine HK.out _ _ ?_
          clear HK
          have R15 := tr_bl hb15 R14
          have D15 := D14.below hb15
          have hr15 := hr14.trans (hb15.mono hr14.size)
          have Z15 := tr_bl hr15 Z7
          clear hcl L14 D14 hr14 hb15 R14
          refine wp_seq_k (fun K hK => ?_)
          have HK := Lib.hid hK
          clear hK
          go_wp2
          refine HK.out _ _ ?_
          clear HK
          rcases HAT.out with ⟨h0, hno⟩ | ⟨j, kk, hj, hjk, h0, his⟩
          · have c1 := blk_cell Z15 k _ (last_at h0)
            have hc3 : c ≠ 3 := by rw [← HC.out]; exact nothing_no hno HNT.out HPK.out
            have hx3 : (c == 3) = false := by simpa using hc3
            clear h0 hno hc3
            go_wp2
            (try simp only [Exit.inBlock, Exit.then])
            refine HK2.out _ _ ?_
            clear HK2
            go_wp2
            go_roundw
            case rel => exact ⟨k + 1, by omega, by have := HLT.out; omega, by simp, hr15⟩
            case measure => have := HLT.out; simp [intOf]; omega
          · have c1 := blk_cell Z15 k _ (last_at h0)
            obtain ⟨b', off', rfl, hptj⟩ := PtAt.of (hR.below0 (k7.trans (hr15.mono k7.size))) hj
            obtain ⟨y, hy⟩ : ∃ y, l[j] = y := ⟨_, rfl⟩
            have hyl : y ∈ l := by rw [← hy]; exact List.getElem_mem hj
            have hmy := (HFT.out.2 y hyl).1
            rw [hy] at hptj his
            have hni := nothing_is his HNT.out HPK.out hmy
            rw [show (2 * ((k - 1 : Nat) : Int) + 1) = 2 * ((k : Int) - 1) + 1 by omega, show (2 * ((k - 1 : Nat) : Int)) = 2 * ((k : Int) - 1) by omega, show ((k - 1 : Nat) : Int) = (k : Int) - 1 by omega] at hni
            change _ ∨ (_ ∧ ((placeG d' 2 3 ((k : Int) - 1)).1 = true ∨ (placeG d' 2 4 (2 * ((k : Int) - 1))).1 = true ∨ (placeG d' 2 4 (2 * ((k : Int) - 1) + 1)).1 = true)) at hni
            have hj1 : ((j : Int) + 1 == 0) = false := by rw [beq_eq_false_iff_ne]; omega
            have hjl : (j : Int) < l.length := by omega
            have hp1 := fun w' (D : DiskB w.heap.size g gp wv d' w') => place_any D 2 3 ((k : Int) - 1)
            have hp2 := fun w' (D : DiskB w.heap.size g gp wv d' w') => place_any D 2 4 (2 * ((k : Int) - 1))
            have hp3 := fun w' (D : DiskB w.heap.size g gp wv d' w') => place_any D 2 4 (2 * ((k : Int) - 1) + 1)
            have HNI := Lib.hid hni
            clear h0 his hni hy hyl hmy
            refine wp_seq_k (fun K hK => ?_)
            have HK := Lib.hid hK
            clear hK
            go_wp2
            refine HK.out _ _ ?_
            clear HK
            refine wp_seq_k (fun K hK => ?_)
            have HK := Lib.hid hK
            clear hK
            go_wp2_with (go_at_call 23; refine (hp1 _ D15).mono ?_; rintro e w16 ⟨rfl, hb16⟩)
            refine HK.out _ _ ?_
            clear HK
            have D16 := D15.below hb16
            refine wp_seq_k (fun K hK => ?_)
            have HK := Lib.hid hK
            clear hK
            go_wp2_with (go_at_call 23; refine (hp2 _ D16).mono ?_; rintro e w17 ⟨rfl, hb17⟩)
            refine HK.out _ _ ?_
            clear HK
            have D17 := D16.below hb17
            refine wp_seq_k (fun K hK => ?_)
            have HK := Lib.hid hK
            clear hK
            go_wp2_with (go_at_call 23; refine (hp3 _ D17).mono ?_; rintro e w18 ⟨rfl, hb18⟩)
            refine HK.out _ _ ?_
            clear HK
            have hb1 := (hb16.trans (hb17.mono hb16.size)).trans (hb18.mono (Nat.le_trans hb16.size hb17.size))
            have R18 := tr_bl hb1 R15
            have hptj := hptj.below hb1
            have c1 : w18.cell? ⟨ql, k, none⟩ = some (.int .i64 ((j : Int) + 1)) := by rw [hb1.cell (p := ⟨ql, k, none⟩) (World.block_lt_of_cell? _ _ c1)]; exact c1
            have hr18 := hr15.trans (hb1.mono hr15.size)
            clear hp1 hp2 hp3 D15 D16 D17 R15 hb16 hb17 hb18 hb1 hr15 Z15
            generalize (placeG d' 2 3 ((k : Int) - 1)).1 = pa at *
            generalize (placeG d' 2 4 (2 * ((k : Int) - 1))).1 = pb at *
            generalize (placeG d' 2 4 (2 * ((k : Int) - 1) + 1)).1 = pc at *
            refine wp_seq_k (fun K hK => ?_)
            go_cut [28] (fun v wx => ∃ wh : Bool, v = .bool wh ∧ Hid (wh = (!pa && (!pb && !pc))) ∧ Below w18.heap.size w18 wx)
            case first =>
              clear HNI
              cases pa
              case true =>
                go_wp2
                go_meet
                exact ⟨false, rfl, Lib.hid rfl, Below.refl _ _⟩
              case false =>
                cases pb
                case true =>
                  go_wp2
                  go_meet
                  exact ⟨false, rfl, Lib.hid rfl, Below.refl _ _⟩
                case false =>
                  go_wp2
                  go_meet
                  exact ⟨!pc, rfl, Lib.hid rfl, Below.refl _ _⟩
            obtain ⟨wh, rfl, HWH, hbx⟩ := hcut
            refine hK _ _ ?_
            clear hK
            have R18 := tr_bl hbx R18
            have hptj := hptj.below hbx
            have c1 : wc.cell? ⟨ql, k, none⟩ = some (.int .i64 ((j : Int) + 1)) := by rw [hbx.cell (p := ⟨ql, k, none⟩) (World.block_lt_of_cell? _ _ c1)]; exact c1
            have hr18 := hr18.trans (hbx.mono hr18.size)
            clear hbx
            rcases HNI.out with h3 | ⟨h2, hh⟩
            · obtain rfl : c = 3 := by rw [← HC.out, h3]
              obtain rfl : r = ⟨(k : Int), 2, y.bal, y.e⟩ := by rw [← HR.out]; unfold rptW; rw [h3]
              clear h3
              refine wp_seq_k (fun K hK => ?_)
              have HK5 := Lib.hid hK
              clear hK
              go_wp2_with fail
              refine wp_region_under (by kernel_rfl) (by kernel_rfl) ?_
              repeat (go_big_quiet_step (fail))
              refine wpQuiet_val (by rfl) (.agg (rptA ⟨(k : Int), 2, y.bal, y.e⟩)) (fun wS hSw => ?_) ?_
              · obtain ⟨xx, rfl⟩ := hSw; exact exec_ldB 44 _ ⟨_, _, _, _, _, Tryz.isAgg44, Tryz.sizeOf44, rfl, tr_bl (under_below _ xx) R18, arr_all rfl⟩
              (try simp only [Act.put]); (try simp only [List.setIfInBounds_toArray]); (try simp only [List.set_cons_succ]); (try simp only [List.set_cons_zero])
              repeat (go_big_quiet_step (fail))
              refine wpQuiet_val (by rfl) ?_ ?_ ?_
              rotate_left
              · intro wS hSw
                obtain ⟨xx, rfl⟩ := hSw; have c := under_cell c1 xx
                go_simp
                (try with_reducible rfl)
              (try simp only [Act.put]); (try simp only [List.setIfInBounds_toArray]); (try simp only [List.set_cons_succ]); (try simp only [List.set_cons_zero])
              repeat (go_big_quiet_step (fail))
              refine wpQuiet_val (by rfl) (.agg (ptA y)) (fun wS hSw => ?_) ?_
              · obtain ⟨xx, rfl⟩ := hSw; exact exec_ldC 48 _ ⟨_, _, _, Tryz.isAgg48, Tryz.sizeOf48, rfl, rfl, fun j u hu => under_cell (hptj j u (by rw [ptC, Array.getElem?_toList]; exact hu)) xx⟩
              (try simp only [Act.put]); (try simp only [List.setIfInBounds_toArray]); (try simp only [List.set_cons_succ]); (try simp only [List.set_cons_zero])
              go_big_quiet_step ((go_at_call 24; exact under_call (lis_any _ _ _)))
              repeat (go_big_quiet_step (fail))
              refine wpQuiet_nil ?_
              intro _ hw'
              obtain ⟨xU, hw''⟩ := hw'
              subst hw''
              have hbU := under_below wc xU
              have hr19 := hr18.trans (hbU.mono hr18.size)
              generalize Under wc xU = wU at *
              go_wp2
              refine HK5.out _ _ ?_
              clear HK5
              go_wp2
              (try simp only [Exit.inBlock, Exit.then])
              refine HK2.out _ _ ?_
              clear HK2
              go_wp2
              go_roundw
              case rel => exact ⟨k + 1, by omega, by have := HLT.out; omega, by simp, hr19⟩
              case measure => have := HLT.out; simp [intOf]; omega
            · obtain rfl : c = 2 := by rw [← HC.out]; exact h2
              obtain rfl : wh = false := by
                rw [HWH.out]
                rcases hh with rfl | rfl | rfl
                · rfl
                · cases pa <;> rfl
                · cases pa <;> cases pb <;> rfl
              clear h2 hh
              refine wp_seq_k (fun K hK => ?_)
              have HK5 := Lib.hid hK
              clear hK
              go_wp2_with fail
              refine wp_region_under (by kernel_rfl) (by kernel_rfl) ?_
              repeat (go_big_quiet_step (fail))
              refine wpQuiet_nil ?_
              intro _ hw'
              obtain ⟨xU, hw''⟩ := hw'
              subst hw''
              have hbU := under_below wc xU
              have hr19 := hr18.trans (hbU.mono hr18.size)
              generalize Under wc xU = wU at *
              go_wp2
              refine HK5.out _ _ ?_
              clear HK5
              go_wp2
              (try simp only [Exit.inBlock, Exit.then])
              refine HK2.out _ _ ?_
              clear HK2
              go_wp2
              go_roundw
              case rel => exact ⟨k + 1, by omega, by have := HLT.out; omega, by simp, hr19⟩
              case measure => have := HLT.out; simp [intOf]; omega
        · obtain rfl : k = 25 := by omega
          go_wp2
          go_meet
          exact hbr
    refine hK _ _ ?_
    clear hK
    go_wp2
    go_ret
    exact ⟨rfl, k7.trans (hcut.mono k7.size)⟩
end Go.Proofs.YtknchbhobopkeaaGreatDoor
