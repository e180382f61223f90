/- Texts that the claim leans on, part 13: K19d, I7, I7b, I8, RA, J37, J38, I9b. -/
import Derived.Test.YtkkoookmnnmiiaaZ1
import Derived.Test.YtkkoookmnnmiiaaZ2
import Derived.Test.YtkkoookmnnmiiaaZ3
import Derived.Test.YtkkoookmnnmiiaaZ4
import Derived.Test.YtkkoookmnnmiiaaZ5
import Derived.Test.YtkkoookmnnmiiaaZ6
import Derived.Test.YtkkoookmnnmiiaaZ7
import Derived.Test.YtkkoookmnnmiiaaZ8
import Derived.Test.YtkkoookmnnmiiaaZ9
import Derived.Test.YtkkoookmnnmiiaaZ10
import Derived.Test.YtkkoookmnnmiiaaZ11
import Derived.Test.YtkkoookmnnmiiaaZ12
import Derived.Test.YtkkoookmnnmiiaaRows
import Derived.WalkKit
import Derived.WalkSpells
import Derived.WalkLawsBesides
import Derived.Handy
import Derived.Deep.QuietTactic
import Derived.BigQuiet
import Derived.Deep.DeepCutAuto
import Derived.Lib.Hide
import Derived.RegionTactic
import Derived.ChangeAlike
import Derived.Deep.RegionHeld3
import Derived.Laws.ResultCell
import Derived.Outline
import Derived.LoopN
import Derived.ChangeKeysEq
import Derived.Laws.EntriesVeiled
import Derived.StillTailTactics
import Derived.Lib.Overlaps
import Derived.Deep.RegionWith
import Derived.Laws.Rows
import Derived.Deep.Quiet
import Derived.ProofKit
import Derived.OpenShut
import Derived.Laws.Strings
import Derived.Laws.CopyOwn
import Derived.Laws.CopyRow
import Derived.Laws.NewBlocks
import Derived.Deep.RegionLaw
import Derived.Shelf.Abstract
import Derived.Shelf.RegionOpen
import Derived.OwnWalkIn
import Derived.TacticsInMore
import Derived.LoopNIn
import Derived.LoopIn
import Derived.Maps.AppendAt
import Derived.Maps.OwnIn
import Derived.Maps.Keyed
import Derived.Maps.Views
import Derived.Shelf.SlIterI.Nil
import Derived.Shelf.SortM.Plain
import Derived.Shelf.SortM.SortNone
import Derived.RangeFuncNested
import Derived.RangeFuncBound
import Derived.RangeFuncCalls
import Derived.RangeFuncLeaves
import Derived.RangeFuncBox
import Derived.RangeFuncRecord
import Derived.Maps.OwnSet
import Derived.Lib.SlKeysI
import Derived.Deep.Slices
import Derived.Deep.Strs
import Derived.Lib.SmallJoins
namespace Go.Proofs.Ytkkoookmnnmiiaa
open Go.RowKit

theorem rdo_any (a : Option Addr) (cap : Nat) (l : List Pr) (o : Opn) (w : World) (hs : SlP w a cap l) (hl : l.length ≤ 1000) (hsm : ∀ p ∈ l, p.1.size ≤ 100000) (lr : List Pr × Rp) (hlr : doP l o = lr) :
    Calls Try.prog 53 #[.slice a l.length cap, opV o] w fun e w' => StRes w.heap.size lr.1 lr.2 e w' ∧ Below w.heap.size w w' := by
  obtain ⟨k, key, old, val⟩ := o
  cases hm : mayS l with
  | false =>
    have : doP l ⟨k, key, old, val⟩ = ([], ⟨2, false, ⟨#[]⟩⟩) := by unfold doP; rw [if_pos hm]
    rw [this] at hlr
    subst hlr
    exact rdo_nomay a cap l k key old val w hs hl hsm hm
  | true =>
    cases ho : mayO ⟨k, key, old, val⟩ with
    | false =>
      rw [doP_bad hm ho] at hlr
      subst hlr
      exact rdo_badop a cap l k key old val w hs hl hsm hm ho
    | true =>
      have hk := (mayO_spec ho).2.2.2
      rw [doP_ok hm ho] at hlr
      simp only at hlr hk
      rcases hk with rfl | rfl | rfl | rfl
      · simp only [if_true] at hlr
        cases hlk : look l key with
        | none =>
          have hw : wasR l key = ⟨0, false, ⟨#[]⟩⟩ := by simp [wasR, hlk]
          rw [hw] at hlr
          subst hlr
          exact rdo_1n a cap l key old val w hs hl hm ho hlk
        | some u =>
          have hw : wasR l key = ⟨0, true, u⟩ := by simp [wasR, hlk]
          rw [hw] at hlr
          subst hlr
          exact rdo_1s a cap l key old val w hs hl hm ho u hlk
      · simp only [show ¬ (2 : Int) = 1 by decide, if_true, if_false] at hlr
        cases hlk : look l key with
        | none =>
          have hw : wasR l key = ⟨0, false, ⟨#[]⟩⟩ := by simp [wasR, hlk]
          rw [hw] at hlr
          by_cases h8 : l.length = 8
          · rw [if_pos ⟨hlk, h8⟩] at hlr
            subst hlr
            exact rdo_2f a cap l key old val w hs hl hm ho hlk h8
          · rw [if_neg (fun h => h8 h.2)] at hlr
            subst hlr
            exact rdo_2n a cap l key old val w hs hl hm ho hlk h8
        | some u =>
          have hw : wasR l key = ⟨0, true, u⟩ := by simp [wasR, hlk]
          rw [hw, if_neg (by rw [hlk]; exact fun h => by cases h.1)] at hlr
          subst hlr
          exact rdo_2s a cap l key old val w hs hl hm ho u hlk
      · simp only [show ¬ (3 : Int) = 1 by decide, show ¬ (3 : Int) = 2 by decide, if_true, if_false] at hlr
        cases hlk : look l key with
        | none =>
          have hw : wasR l key = ⟨0, false, ⟨#[]⟩⟩ := by simp [wasR, hlk]
          rw [hw] at hlr
          subst hlr
          exact rdo_3n a cap l key old val w hs hl hm ho hlk
        | some u =>
          have hw : wasR l key = ⟨0, true, u⟩ := by simp [wasR, hlk]
          rw [hw] at hlr
          subst hlr
          exact rdo_3s a cap l key old val w hs hl hm ho u hlk
      · simp only [show ¬ (4 : Int) = 1 by decide, show ¬ (4 : Int) = 2 by decide, show ¬ (4 : Int) = 3 by decide, if_false] at hlr
        cases hlk : look l key with
        | none =>
          have hw : wasR l key = ⟨0, false, ⟨#[]⟩⟩ := by simp [wasR, hlk]
          rw [hw, if_neg (by rw [hlk]; exact fun h => by cases h)] at hlr
          subst hlr
          exact rdo_4n a cap l key old val w hs hl hm ho hlk
        | some u =>
          have hw : wasR l key = ⟨0, true, u⟩ := by simp [wasR, hlk]
          by_cases hu : u = old
          · subst hu
            rw [hw, if_pos hlk] at hlr
            subst hlr
            exact rdo_4e a cap l key u val w hs hl hm ho hlk
          · rw [hw, if_neg (by rw [hlk]; exact fun h => hu (Option.some.inj h))] at hlr
            subst hlr
            exact rdo_4o a cap l key old val w hs hl hm ho u hlk hu
end Go.Proofs.Ytkkoookmnnmiiaa

namespace Go.Proofs.Ytkkoookmnnmiiaa
open Go.RowKit

theorem do_opn (a : Option Addr) (cap : Nat) (l : List Pr) (o : Opn) (w : World) (hs : SlP w a cap l) (hl : l.length ≤ 1000) (lr : List Pr × Rp) (hlr : doP l o = lr) :
    Calls Try.prog 42 #[.slice a l.length cap, .agg #[.int .u8 o.kind, .string o.key, .string o.old, .string o.val]] w fun e w' => (∃ a' cap', e = .returned (.tuple #[.slice a' lr.1.length cap', .agg #[.int .i64 lr.2.err, .bool lr.2.found, .string lr.2.val]]) ∧ SlP w' a' cap' lr.1 ∧ w'.ownsRow w.heap.size 81 2 (.slice a' lr.1.length cap') lr.1.length (prs lr.1)) ∧ Below w.heap.size w w' := by
  refine (do_any a cap l o w hs hl _ hlr).mono ?_
  rintro e w' ⟨⟨v', rfl, ho⟩, hb⟩
  obtain ⟨a', cap', rfl, hs'⟩ := SlP.of_owns ho
  exact ⟨⟨a', cap', rfl, hs', ho⟩, hb⟩
theorem rdo_opn (a : Option Addr) (cap : Nat) (l : List Pr) (o : Opn) (w : World) (hs : SlP w a cap l) (hl : l.length ≤ 1000) (hsm : ∀ p ∈ l, p.1.size ≤ 100000) (lr : List Pr × Rp) (hlr : doP l o = lr) :
    Calls Try.prog 53 #[.slice a l.length cap, .agg #[.int .u8 o.kind, .string o.key, .string o.old, .string o.val]] w fun e w' => (∃ a' cap', e = .returned (.tuple #[.slice a' lr.1.length cap', .agg #[.int .i64 lr.2.err, .bool lr.2.found, .string lr.2.val]]) ∧ SlP w' a' cap' lr.1) ∧ Below w.heap.size w w' := by
  refine (rdo_any a cap l o w hs hl hsm _ hlr).mono ?_
  rintro e w' ⟨h, hb⟩
  exact ⟨h.open, hb⟩
theorem cpy_opn (a : Option Addr) (cap : Nat) (l : List Pr) (w : World) (hs : SlP w a cap l) (hl : l.length ≤ 1000) :
    Calls Try.prog 66 #[.slice a l.length cap] w fun e w' => (∃ a' cap', e = .returned (.slice a' l.length cap') ∧ w'.ownsRow w.heap.size 81 2 (.slice a' l.length cap') l.length (prs l)) ∧ Below w.heap.size w w' := by
  refine (rcopy_any a cap l w hs hl).mono ?_
  rintro e w' ⟨⟨v, rfl, ho⟩, hb⟩
  obtain ⟨a', cap', rfl, hs'⟩ := SlP.of_owns ho
  exact ⟨⟨a', cap', rfl, ho⟩, hb⟩
theorem cln_opn (a : Option Addr) (cap : Nat) (l : List Pr) (w : World) (hs : SlP w a cap l) (hl : l.length ≤ 1000) :
    Calls Try.prog 40 #[.slice a l.length cap] w fun e w' => (∃ a' cap', e = .returned (.slice a' l.length cap') ∧ SlP w' a' cap' l ∧ w'.ownsRow w.heap.size 81 2 (.slice a' l.length cap') l.length (prs l)) ∧ Below w.heap.size w w' := by
  refine (clone_any a cap l w hs hl).mono ?_
  rintro e w' ⟨⟨v, rfl, ho⟩, hb⟩
  obtain ⟨a', cap', rfl, hs'⟩ := SlP.of_owns ho
  exact ⟨⟨a', cap', rfl, hs', ho⟩, hb⟩

theorem imA_all (i : Int) (s : Value) (t : Tb) : 0 + 18 ≤ (imA i s t).size ∧ (imA i s t).extract 0 (0 + 18) = imA i s t := arr_all rfl
theorem imA_tb (i : Int) (s : Value) (t : Tb) : 2 + 16 ≤ (imA i s t).size ∧ (imA i s t).extract 2 (2 + 16) = tbA t := ⟨Nat.le_refl _, rfl⟩
theorem imA_row (i : Int) (s : Value) (t : Tb) {c : Nat} (h : c < 4) : 2 + c * 4 + 4 ≤ (imA i s t).size ∧ (imA i s t).extract (2 + c * 4) (2 + c * 4 + 4) = rowA (t.at c) := by
  rcases four_cases h with rfl | rfl | rfl | rfl
  all_goals exact ⟨by show _ ≤ 18; omega, rfl⟩
theorem imA_one (i : Int) {s : Value} (hs : s.oneCell' = true) (t : Tb) : ∀ u ∈ (imA i s t).toList, u.oneCell' = true := by
  intro u hu
  have : (imA i s t).toList = [.int .i64 i, s] ++ (tbA t).toList := rfl
  rw [this, List.mem_append] at hu
  rcases hu with hu | hu
  · simp at hu
    rcases hu with rfl | rfl
    · rfl
    · exact hs
  · exact tbA_one t u hu
theorem imA_idx (i j : Int) (s : Value) (t : Tb) : 0 + 1 ≤ (imA i s t).size ∧ (Value.int .i64 j).cells.size = 1 ∧ (∀ u ∈ (Value.int .i64 j).cells.toList, u.oneCell' = true) ∧ ((imA i s t).toList.take 0 ++ (Value.int .i64 j).cells.toList ++ (imA i s t).toList.drop (0 + 1)).toArray = imA j s t :=
  ⟨by show _ ≤ 18; omega, rfl, by simp [Value.cells, Value.oneCell'], rfl⟩
theorem imA_sv (i : Int) (s : Value) (x : Option Addr) (n c : Nat) (t : Tb) : 1 + 1 ≤ (imA i s t).size ∧ (Value.slice x n c).cells.size = 1 ∧ (∀ u ∈ (Value.slice x n c).cells.toList, u.oneCell' = true) ∧ ((imA i s t).toList.take 1 ++ (Value.slice x n c).cells.toList ++ (imA i s t).toList.drop (1 + 1)).toArray = imA i (.slice x n c) t :=
  ⟨by show _ ≤ 18; omega, rfl, by simp [Value.cells, Value.oneCell'], rfl⟩
theorem imA_put (i : Int) (s : Value) (t : Tb) (r : Rw) {c : Nat} (h : c < 4) : 2 + c * 4 + 4 ≤ (imA i s t).size ∧ (Value.agg (rowA r)).cells.size = 4 ∧ (∀ u ∈ (Value.agg (rowA r)).cells.toList, u.oneCell' = true) ∧ ((imA i s t).toList.take (2 + c * 4) ++ (Value.agg (rowA r)).cells.toList ++ (imA i s t).toList.drop (2 + c * 4 + 4)).toArray = imA i s (t.put c r) := by
  rcases four_cases h with rfl | rfl | rfl | rfl
  all_goals exact ⟨by show _ ≤ 18; omega, rfl, rowA_one r, by simp [imA, rowA, Tb.put, Value.cells]⟩
theorem imA_tbput (i : Int) (s : Value) (t u : Tb) : 2 + 16 ≤ (imA i s t).size ∧ (Value.agg (tbA u)).cells.size = 16 ∧ (∀ x ∈ (Value.agg (tbA u)).cells.toList, x.oneCell' = true) ∧ ((imA i s t).toList.take 2 ++ (Value.agg (tbA u)).cells.toList ++ (imA i s t).toList.drop (2 + 16)).toArray = imA i s u := ⟨Nat.le_refl _, rfl, tbA_one u, rfl⟩
theorem imA_over (i : Int) (x : Option Addr) (n c : Nat) (t : Tb) (i' : Int) (s' : Value) (t' : Tb) : 0 + 18 ≤ (imA i' s' t').size ∧ (Value.agg (imA i (.slice x n c) t)).cells.size = 18 ∧ (∀ u ∈ (Value.agg (imA i (.slice x n c) t)).cells.toList, u.oneCell' = true) ∧ ((imA i' s' t').toList.take 0 ++ (Value.agg (imA i (.slice x n c) t)).cells.toList ++ (imA i' s' t').toList.drop (0 + 18)).toArray = imA i (.slice x n c) t := ⟨Nat.le_refl _, rfl, imA_one i rfl t, rfl⟩
theorem imA_new (i : Int) (x : Option Addr) (n c : Nat) (t : Tb) : (Value.agg (imA i (.slice x n c) t)).cells = imA i (.slice x n c) t ∧ (imA i (.slice x n c) t).size = 18 ∧ ∀ u ∈ (imA i (.slice x n c) t).toList, u.oneCell' = true := ⟨rfl, rfl, imA_one i rfl t⟩
theorem imA_c0 {w : World} {g : Nat} {i : Int} {s : Value} {t : Tb} {T : TypeId} (h : w.heap[g]? = some (.cells (imA i s t) T (0, 0))) : w.cell? ⟨g, 0, none⟩ = some (.int .i64 i) := blk_cell h 0 _ rfl
theorem imA_c1 {w : World} {g : Nat} {i : Int} {s : Value} {t : Tb} {T : TypeId} (h : w.heap[g]? = some (.cells (imA i s t) T (0, 0))) : w.cell? ⟨g, 1, none⟩ = some s := blk_cell h 1 _ rfl
theorem enA_all (e : En) : 0 + 7 ≤ (enA e).size ∧ (enA e).extract 0 (0 + 7) = enA e := ⟨Nat.le_refl _, rfl⟩
theorem enA_op (e : En) : 3 + 4 ≤ (enA e).size ∧ (enA e).extract 3 (3 + 4) = #[.int .u8 e.op.kind, .string e.op.key, .string e.op.old, .string e.op.val] := ⟨Nat.le_refl _, rfl⟩
theorem enA_c {w : World} {g : Nat} {e : En} {T : TypeId} (h : w.heap[g]? = some (.cells (enA e) T (0, 0))) : w.cell? ⟨g, 0, none⟩ = some (.int .u8 e.kind) ∧ w.cell? ⟨g, 1, none⟩ = some (.int .i64 e.cli) ∧ w.cell? ⟨g, 2, none⟩ = some (.int .i64 e.seq) :=
  ⟨blk_cell h 0 _ rfl, blk_cell h 1 _ rfl, blk_cell h 2 _ rfl⟩

theorem step_b {w x y : World} (h : Below w.heap.size w x) (hb : Below x.heap.size x y) : Below w.heap.size w y := h.trans (hb.mono h.size)

set_option maxRecDepth 100000 in
set_option maxHeartbeats 4000000 in
theorem rcopyI_any (idx : Int) (a : Option Addr) (cap : Nat) (l : List Pr) (t : Tb) (w : World) (hs : SlP w a cap l) (hl : l.length ≤ 1000) :
    Calls Try.prog 52 #[.agg (imA idx (.slice a l.length cap) t)] w fun e w' => (∃ a' cap', e = .returned (.agg (imA idx (.slice a' l.length cap') t)) ∧ w'.ownsRow w.heap.size 81 2 (.slice a' l.length cap') l.length (prs l)) ∧ Below w.heap.size w w' := by
  have hb0 : Below w.heap.size w ((w.alloc (Obj.cells (imA idx (.slice a l.length cap) t) 57)).alloc (Obj.cells (imA 0 (.slice none 0 0) zeroT) 57)) := ((Below.refl _ _).alloc (Nat.le_refl _) _).alloc (by simp) _
  have B1 := tr_al (Obj.cells (imA 0 (.slice none 0 0) zeroT) 57) (heap_alloc_new w (Obj.cells (imA idx (.slice a l.length cap) t) 57))
  have B2 := heap_alloc2_new w (Obj.cells (imA idx (.slice a l.length cap) t) 57) (Obj.cells (imA 0 (.slice none 0 0) zeroT) 57)
  have hs0 := hs.below hb0
  go_enter Try.func52, Try.ntmps52
  refine wp_seq_k (fun K hK => ?_)
  have HK := Lib.hid hK
  clear hK
  go_wp2
  refine HK.out _ _ ?_
  clear HK
  change Code.wp _ _ _ _ ((w.alloc (Obj.cells (imA idx (.slice a l.length cap) t) 57)).alloc (Obj.cells (imA 0 (.slice none 0 0) zeroT) 57))
  generalize (w.alloc (Obj.cells (imA idx (.slice a l.length cap) t) 57)).alloc (Obj.cells (imA 0 (.slice none 0 0) zeroT) 57) = w0 at *
  have hl1 := lt_blk B1
  have hl2 := lt_blk B2
  have HSL := Lib.hid hs0
  clear hs0
  refine wp_seq_k (fun K hK => ?_)
  have HK := Lib.hid hK
  clear hK
  go_wp2_with fail
  refine wp_region_held_drew (S := fun w' => w'.heap[w.heap.size]? = some (.cells (imA idx (.slice a l.length cap) t) 57 (0, 0))) (by kernel_rfl) B1 (fun hS0 => ?_)
  refine wpAnyH_take (i := 0) (oi := ⟨_, _, _, _, _, _⟩) (v := ?_) rfl (by kernel_rfl) (by kernel_rfl) (by kernel_rfl) (fun _ _ _ h => h) (Or.inl ⟨by rfl, ?_⟩) (by assumption) ?_
  rotate_left
  · intro wS hSw
    go_simp; (try with_reducible rfl)
  (try simp only [Act.put])
  (try simp only [List.setIfInBounds_toArray])
  (try simp only [List.set_cons_succ])
  (try simp only [List.set_cons_zero])
  refine wpAnyH_take (i := 1) (oi := ⟨_, _, _, _, _, _⟩) (v := ?_) rfl (by kernel_rfl) (by kernel_rfl) (by kernel_rfl) (fun _ _ _ h => h) (Or.inl ⟨by rfl, ?_⟩) (by assumption) ?_
  rotate_left
  · intro wS hSw
    have c := imA_c0 hSw; go_simp; (try with_reducible rfl)
  (try simp only [Act.put])
  (try simp only [List.setIfInBounds_toArray])
  (try simp only [List.set_cons_succ])
  (try simp only [List.set_cons_zero])
  refine wpAnyH_take (i := 2) (oi := ⟨_, _, _, _, _, _⟩) (v := ?_) rfl (by kernel_rfl) (by kernel_rfl) (by kernel_rfl) (fun _ _ _ h => h) (Or.inl ⟨by rfl, ?_⟩) (by assumption) ?_
  rotate_left
  · intro wS hSw
    go_simp; (try with_reducible rfl)
  (try simp only [Act.put])
  (try simp only [List.setIfInBounds_toArray])
  (try simp only [List.set_cons_succ])
  (try simp only [List.set_cons_zero])
  refine wpAnyH_take (i := 3) (oi := ⟨_, _, _, _, _, _⟩) (v := ?_) rfl (by kernel_rfl) (by kernel_rfl) (by kernel_rfl) (fun _ _ _ h => h) (Or.inl ⟨by rfl, ?_⟩) (by assumption) ?_
  rotate_left
  · intro wS hSw
    have c := imA_c1 hSw; go_simp; (try with_reducible rfl)
  (try simp only [Act.put])
  (try simp only [List.setIfInBounds_toArray])
  (try simp only [List.set_cons_succ])
  (try simp only [List.set_cons_zero])
  refine wpAnyH_take (i := 5) (oi := ⟨_, _, _, _, _, _⟩) (v := ?_) rfl (by kernel_rfl) (by kernel_rfl) (by kernel_rfl) (fun _ _ _ h => h) (Or.inl ⟨by rfl, ?_⟩) (by assumption) ?_
  rotate_left
  · intro wS hSw
    go_simp; (try with_reducible rfl)
  (try simp only [Act.put])
  (try simp only [List.setIfInBounds_toArray])
  (try simp only [List.set_cons_succ])
  (try simp only [List.set_cons_zero])
  refine wpAnyH_take (i := 6) (oi := ⟨_, _, _, _, _, _⟩) (v := .agg (tbA t)) rfl (by kernel_rfl) (by kernel_rfl) (by kernel_rfl) (fun _ _ _ h => h) (Or.inl ⟨by rfl, fun wS hSw => ?_⟩) (by assumption) ?_
  · exact exec_ldB 55 _ ⟨_, _, _, _, _, Try.isAgg55, Try.sizeOf55, rfl, hSw, imA_tb _ _ _⟩
  (try simp only [Act.put])
  (try simp only [List.setIfInBounds_toArray])
  (try simp only [List.set_cons_succ])
  (try simp only [List.set_cons_zero])
  refine wpAnyH_ready (rs := [4]) (by kernel_rfl) (by simp) ?_
  refine AllReadyH.cons (o := ⟨_, _, _, _, _, _⟩) rfl (fun K' hK' => ?_) AllReadyH.nil
  refine (if_pos (by rfl)).mpr ?_
  go_simp
  refine (cpy_opn _ _ _ _ (HSL.out.below (Below.refl _ _).drew) hl).mono ?_
  rintro e w4 ⟨⟨a', cap', rfl, hs4⟩, hb4⟩
  have B14 := tr_bl hb4 hS0
  have B24 := tr_bl hb4 (show w0.drew.heap[w.heap.size + 1]? = _ from B2)
  have hbw4 : Below w.heap.size w w4 := (hb0.drew).trans (hb4.mono (hb0.drew).size)
  refine hK'.out _ _ B14 (fun _ => ?_)
  refine wpAnyH_take (i := 7) (oi := ⟨_, _, _, _, _, _⟩) (v := .agg (imA idx (.slice a' l.length cap') t)) rfl (by kernel_rfl) (by kernel_rfl) (by kernel_rfl) (fun _ _ _ h => h) (Or.inl ⟨by rfl, fun wS hSw => ?_⟩) (by assumption) ?_
  · unfold tbA; go_simp; rfl
  (try simp only [Act.put])
  (try simp only [List.setIfInBounds_toArray])
  (try simp only [List.set_cons_succ])
  (try simp only [List.set_cons_zero])
  refine wpAnyH_ready (rs := [8]) (by kernel_rfl) (by simp) ?_
  refine AllReadyH.cons (o := ⟨_, _, _, _, _, _⟩) rfl (fun K' hK' => ?_) AllReadyH.nil
  refine (if_pos (by rfl)).mpr ?_
  refine wp_stB 57 _ _ ?_
  refine ⟨_, _, _, ⟨_, _, _, Try.sizeOf57, rfl, B24, imA_over _ _ _ _ _ _ _ _⟩, ?_⟩
  intro w5 B5 g5
  have ho5 := owns_st hs4 g5 hl2
  refine hK'.out _ _ (tr_st g5 B14 (by omega)) (fun _ => ?_)
  refine wpAnyH_done (by kernel_rfl) ?_ _
  refine HK.out _ _ ?_
  clear HK
  go_wp2
  refine bodyPost_ret (results_c1 rfl rfl (run_loadVar_all Try.isAgg57 Try.sizeOf57 B5 rfl)) rfl ⟨⟨_, _, rfl, owns_mono ho5 hb0.size⟩, bl_st hbw4 g5 hbw4.size (by omega)⟩
end Go.Proofs.Ytkkoookmnnmiiaa

namespace Go.Proofs.Ytkkoookmnnmiiaa
open Go.RowKit

def rpA (r : Rp) : Array Value := #[.int .i64 r.err, .bool r.found, .string r.val]
theorem rpA_one (r : Rp) : ∀ u ∈ (rpA r).toList, u.oneCell' = true := by
  intro u hu
  simp [rpA] at hu
  rcases hu with rfl | rfl | rfl <;> rfl
theorem rpA_all (r : Rp) : 0 + 3 ≤ (rpA r).size ∧ (rpA r).extract 0 (0 + 3) = rpA r := arr_all rfl
theorem rpA_over (r s : Rp) : 0 + 3 ≤ (rpA s).size ∧ (Value.agg (rpA r)).cells.size = 3 ∧ (∀ u ∈ (Value.agg (rpA r)).cells.toList, u.oneCell' = true) ∧ ((rpA s).toList.take 0 ++ (Value.agg (rpA r)).cells.toList ++ (rpA s).toList.drop (0 + 3)).toArray = rpA r := ⟨Nat.le_refl _, rfl, rpA_one r, rfl⟩
theorem rpA_row {r : Rw} : 1 + 3 ≤ (rowA r).size ∧ (rowA r).extract 1 (1 + 3) = rpA r.rep := ⟨Nat.le_refl _, rfl⟩

def badAp (m : Im) (index : Int) (e : En) : Bool := !mayI m || !mayE e || m.idx == 1099511627776 || index != m.idx + 1
theorem badAp_yes {m : Im} {index : Int} {e : En} (h : badAp m index e = true) : applyP m index e = (zeroI, zeroR, 2) := by
  unfold applyP
  rw [if_pos]
  unfold badAp at h
  simp only [Bool.or_eq_true, Bool.not_eq_true', beq_iff_eq, bne_iff_ne] at h
  rcases h with ((h | h) | h) | h
  · exact .inl h
  · exact .inr (.inl h)
  · exact .inr (.inr (.inl h))
  · exact .inr (.inr (.inr h))
theorem badAp_no {m : Im} {index : Int} {e : En} (h : badAp m index e = false) : mayI m = true ∧ mayE e = true ∧ m.idx ≠ 1099511627776 ∧ index = m.idx + 1 := by
  unfold badAp at h
  simp only [Bool.or_eq_false_iff, Bool.not_eq_false', beq_eq_false_iff_ne, bne_eq_false_iff_eq] at h
  exact ⟨h.1.1.1, h.1.1.2, h.1.2, h.2⟩
theorem applyP_go {m : Im} {index : Int} {e : En} (h : badAp m index e = false) : applyP m index e = if e.kind = 1 then ({ m with idx := index }, zeroR, 0)
  else
    let last := m.tb.at e.cli
    if e.seq < last.seq then ({ m with idx := index }, ⟨220, false, ⟨#[]⟩⟩, 0)
    else if e.seq = last.seq then ({ m with idx := index }, last.rep, 0)
    else
      let d := doP m.st e.op
      (⟨index, d.1, m.tb.put e.cli ⟨e.seq, d.2⟩⟩, d.2, 0) := by
  obtain ⟨h1, h2, h3, h4⟩ := badAp_no h
  conv => lhs; unfold applyP
  rw [if_neg]
  rintro (h | h | h | h)
  · rw [h1] at h; cases h
  · rw [h2] at h; cases h
  · exact h3 h
  · exact h h4
theorem applyP_noop {m : Im} {index : Int} {e : En} (h : badAp m index e = false) (hk : e.kind = 1) : applyP m index e = (⟨index, m.st, m.tb⟩, zeroR, 0) := by rw [applyP_go h, if_pos hk]
theorem applyP_old {m : Im} {index : Int} {e : En} (h : badAp m index e = false) (hk : e.kind ≠ 1) (hs : e.seq < (m.tb.at e.cli).seq) : applyP m index e = (⟨index, m.st, m.tb⟩, ⟨220, false, ⟨#[]⟩⟩, 0) := by
  rw [applyP_go h, if_neg hk]
  simp only [hs, if_true]
theorem applyP_same {m : Im} {index : Int} {e : En} (h : badAp m index e = false) (hk : e.kind ≠ 1) (hs : e.seq = (m.tb.at e.cli).seq) : applyP m index e = (⟨index, m.st, m.tb⟩, (m.tb.at e.cli).rep, 0) := by
  rw [applyP_go h, if_neg hk]
  have : ¬ e.seq < (m.tb.at e.cli).seq := by omega
  simp only [this, if_false]
  rw [if_pos hs]
theorem applyP_fresh {m : Im} {index : Int} {e : En} (h : badAp m index e = false) (hk : e.kind ≠ 1) (hs : (m.tb.at e.cli).seq < e.seq) : applyP m index e = (⟨index, (doP m.st e.op).1, m.tb.put e.cli ⟨e.seq, (doP m.st e.op).2⟩⟩, (doP m.st e.op).2, 0) := by
  rw [applyP_go h, if_neg hk]
  have h1 : ¬ e.seq < (m.tb.at e.cli).seq := by omega
  have h2 : ¬ e.seq = (m.tb.at e.cli).seq := by omega
  simp only [h1, if_false]
  rw [if_neg h2]
theorem mayI_parts {m : Im} (h : mayI m = true) : 0 ≤ m.idx ∧ m.idx ≤ 1099511627776 ∧ mayS m.st = true ∧ mayT m.tb = true := by
  unfold mayI at h
  simp only [Bool.and_eq_true, decide_eq_true_eq] at h
  exact ⟨h.1.1.1, h.1.1.2, h.1.2, h.2⟩
theorem mayE_parts {e : En} (h : mayE e = true) (hk : e.kind ≠ 1) : e.kind = 2 ∧ 0 ≤ e.cli ∧ e.cli < 4 ∧ 1 ≤ e.seq ∧ e.seq ≤ 1099511627776 ∧ mayO e.op = true := by
  unfold mayE at h
  rw [if_neg hk] at h
  simp only [Bool.and_eq_true, decide_eq_true_eq, beq_iff_eq] at h
  exact ⟨h.1.1.1.1.1.1, h.1.1.1.1.1.2, h.1.1.1.1.2, h.1.1.1.2, h.1.1.2, h.1.2⟩
end Go.Proofs.Ytkkoookmnnmiiaa

namespace Go.Proofs.Ytkkoookmnnmiiaa
open Go.RowKit

theorem rpA_new (r : Rp) : (Value.agg (rpA r)).cells = rpA r ∧ (rpA r).size = 3 ∧ ∀ u ∈ (rpA r).toList, u.oneCell' = true := ⟨rfl, rfl, rpA_one r⟩

theorem SlP.of_own1 {w : World} {base cap : Nat} {e : TypeId} {a : Option Addr} {l : List Pr} (h : w.ownsRow base e 2 (.slice a l.length cap) l.length (prs l)) : SlP w a cap l := by
  obtain ⟨a', cap', hv, hs⟩ := SlP.of_owns h
  injection hv with h1 _ h2
  subst h1 h2
  exact hs

def ApRes (base : Nat) (r : Im × Rp × Int) (en : Ending) (w' : World) : Prop :=
  ∃ a' cap', en = .returned (.tuple #[.agg (imA r.1.idx (.slice a' r.1.st.length cap') r.1.tb), .agg (rpA r.2.1), .int .i64 r.2.2]) ∧ w'.ownsRow base 81 2 (.slice a' r.1.st.length cap') r.1.st.length (prs r.1.st)

/-- What stands ahead of Apply's last statement. -/
def ApMid (w : World) (N g : Nat) (r : Im × Rp × Int) (wx : World) : Prop :=
  ∃ a' cap', wx.heap[N]? = some (.cells (imA r.1.idx (.slice a' r.1.st.length cap') r.1.tb) 57 (0, 0)) ∧ wx.heap[g]? = some (.cells (rpA r.2.1) 51 (0, 0)) ∧ r.2.2 = 0 ∧
    wx.heap[N + 2]? = some (.cells (imA 0 (.slice none 0 0) zeroT) 57 (0, 0)) ∧ wx.heap[N + 3]? = some (.cells (rpA zeroR) 51 (0, 0)) ∧ wx.ownsRow (N + 4) 81 2 (.slice a' r.1.st.length cap') r.1.st.length (prs r.1.st) ∧ Below N w wx

theorem askR_parts (t : Tb) (c s : Int) : ∃ (f : Bool) (r : Rp) (er : Int), askR t c s = .tuple #[.bool f, .agg (rpA r), .int .i64 er] ∧
    ((f = true ∧ er = 0 ∧ (t.at c).seq < s) ∨ (f = false ∧ er = 220 ∧ s < (t.at c).seq) ∨ (f = false ∧ er = 0 ∧ r = (t.at c).rep ∧ s = (t.at c).seq)) := by
  unfold askR
  by_cases h1 : (t.at c).seq < s
  · exact ⟨true, zeroR, 0, by rw [if_pos h1]; rfl, .inl ⟨rfl, rfl, h1⟩⟩
  · by_cases h2 : s < (t.at c).seq
    · exact ⟨false, zeroR, 220, by rw [if_neg h1, if_pos h2]; rfl, .inr (.inl ⟨rfl, rfl, h2⟩)⟩
    · exact ⟨false, (t.at c).rep, 0, by rw [if_neg h1, if_neg h2]; rfl, .inr (.inr ⟨rfl, rfl, rfl, by omega⟩)⟩

set_option maxRecDepth 100000 in
set_option maxHeartbeats 4000000 in
theorem apply_any (m : Im) (a : Option Addr) (cap : Nat) (index : Int) (e : En) (w : World) (hs : SlP w a cap m.st) (hl : m.st.length ≤ 1000) :
    Calls Try.prog 25 #[.agg (imA m.idx (.slice a m.st.length cap) m.tb), .int .i64 index, .agg (enA e)] w fun en w' => ApRes w.heap.size (applyP m index e) en w' ∧ Below w.heap.size w w' := by
  obtain ⟨N, hN⟩ : ∃ N, w.heap.size = N := ⟨_, rfl⟩
  have hb0 : Below w.heap.size w ((((w.alloc (Obj.cells (imA m.idx (.slice a m.st.length cap) m.tb) 57)).alloc (Obj.cells (enA e) 34)).alloc (Obj.cells (imA 0 (.slice none 0 0) zeroT) 57)).alloc (Obj.cells (rpA zeroR) 51)) := ((((Below.refl _ _).alloc (Nat.le_refl _) _).alloc (by simp) _).alloc (by simp; omega) _).alloc (by simp; omega) _
  have B3 := tr_al (Obj.cells (rpA zeroR) 51) (tr_al (Obj.cells (imA 0 (.slice none 0 0) zeroT) 57) (tr_al (Obj.cells (enA e) 34) (heap_alloc_new w (Obj.cells (imA m.idx (.slice a m.st.length cap) m.tb) 57))))
  have B5 := tr_al (Obj.cells (rpA zeroR) 51) (tr_al (Obj.cells (imA 0 (.slice none 0 0) zeroT) 57) (heap_alloc2_new w (Obj.cells (imA m.idx (.slice a m.st.length cap) m.tb) 57) (Obj.cells (enA e) 34)))
  have B6 := tr_al (Obj.cells (rpA zeroR) 51) (heap_alloc2_new (w.alloc (Obj.cells (imA m.idx (.slice a m.st.length cap) m.tb) 57)) (Obj.cells (enA e) 34) (Obj.cells (imA 0 (.slice none 0 0) zeroT) 57))
  have B7 := heap_alloc2_new ((w.alloc (Obj.cells (imA m.idx (.slice a m.st.length cap) m.tb) 57)).alloc (Obj.cells (enA e) 34)) (Obj.cells (imA 0 (.slice none 0 0) zeroT) 57) (Obj.cells (rpA zeroR) 51)
  have hs0 := hs.below hb0
  have hsz0 : ((((w.alloc (Obj.cells (imA m.idx (.slice a m.st.length cap) m.tb) 57)).alloc (Obj.cells (enA e) 34)).alloc (Obj.cells (imA 0 (.slice none 0 0) zeroT) 57)).alloc (Obj.cells (rpA zeroR) 51)).heap.size = w.heap.size + 4 := by simp
  simp only [World.size_alloc] at B3 B5 B6 B7
  go_enter Try.func25, Try.ntmps25
  refine wp_seq_k (fun K hK => ?_)
  have HK := Lib.hid hK
  clear hK
  go_wp2
  refine HK.out _ _ ?_
  clear HK
  change Code.wp _ _ _ _ ((((w.alloc (Obj.cells (imA m.idx (.slice a m.st.length cap) m.tb) 57)).alloc (Obj.cells (enA e) 34)).alloc (Obj.cells (imA 0 (.slice none 0 0) zeroT) 57)).alloc (Obj.cells (rpA zeroR) 51))
  generalize (((w.alloc (Obj.cells (imA m.idx (.slice a m.st.length cap) m.tb) 57)).alloc (Obj.cells (enA e) 34)).alloc (Obj.cells (imA 0 (.slice none 0 0) zeroT) 57)).alloc (Obj.cells (rpA zeroR) 51) = w0 at *
  simp only [hN] at *
  have HSZ0 := Lib.hid hsz0
  have hsz0 : N + 4 ≤ w0.heap.size := by have := HSZ0.out; omega
  have HN := Lib.hid hN
  have HS := Lib.hid hs0
  clear hN hs0
  refine wp_seq_k (fun K0 hK0 => ?_)
  have HK0 := Lib.hid hK0
  clear hK0
  refine wp_seq_k (fun K hK => ?_)
  go_cut [31] (fun z wx => z = .bool (badAp m index e) ∧ Below w0.heap.size w0 wx)
  case first =>
    have c0 := imA_c0 B3
    cases hmi : mayI m
    · have HMI := Lib.hid hmi
      have hz : badAp m index e = true := by unfold badAp; rw [hmi]; rfl
      have HZ := Lib.hid hz
      clear hmi hz
      go_wp2_with (first
        | ((with_reducible refine wpList_ldB 57 _ ?_); refine ⟨rfl, _, ⟨_, _, _, _, _, Try.isAgg57, Try.sizeOf57, rfl, ‹_›, imA_all _ _ _⟩, ?_⟩)
        | (go_at_call 39; refine (imay_any _ _ _ _ _ _ HS.out.row hl _ HMI.out).mono ?_; rintro en w1 ⟨rfl, hb1⟩))
      go_meet
      exact ⟨bool_eq HZ.out.symm, hb1⟩
    · have HMI := Lib.hid hmi
      obtain ⟨hi0, hi1, _, _⟩ := mayI_parts hmi
      cases hme : mayE e
      · have HME := Lib.hid hme
        have hz : badAp m index e = true := by unfold badAp; rw [hmi, hme]; rfl
        have HZ := Lib.hid hz
        clear hmi hz hme
        go_wp2_with (first
          | ((with_reducible refine wpList_ldB 57 _ ?_); refine ⟨rfl, _, ⟨_, _, _, _, _, Try.isAgg57, Try.sizeOf57, rfl, ‹_›, imA_all _ _ _⟩, ?_⟩)
          | ((with_reducible refine wpList_ldB 34 _ ?_); refine ⟨rfl, _, ⟨_, _, _, _, _, Try.isAgg34, Try.sizeOf34, rfl, ‹_›, enA_all _⟩, ?_⟩)
          | (go_at_call 39; refine (imay_any _ _ _ _ _ _ HS.out.row hl _ HMI.out).mono ?_; rintro en w1 ⟨rfl, hb1⟩; have B5 := tr_bl hb1 B5)
          | (go_at_call 29; refine (emay_any _ _ _ HME.out).mono ?_; rintro en w2 ⟨rfl, hb2⟩))
        go_meet
        exact ⟨bool_eq HZ.out.symm, step_b hb1 hb2⟩
      · have HME := Lib.hid hme
        have hz : badAp m index e = (m.idx == 1099511627776 || index != m.idx + 1) := by unfold badAp; rw [hmi, hme]; rfl
        have HZ := Lib.hid hz
        clear hmi hz hme
        have hcs : m.idx = 1099511627776 ∨ ((m.idx == 1099511627776) = false ∧ (index != m.idx + 1) = true) ∨ ((m.idx == 1099511627776) = false ∧ (index != m.idx + 1) = false) := by
          rw [beq_eq_false_iff_ne, bne_iff_ne, bne_eq_false_iff_eq]
          omega
        have HCS := Lib.hid hcs
        clear hcs
        rcases HCS.out with h | ⟨h, h2⟩ | ⟨h, h2⟩
        · have hb : (m.idx == 1099511627776) = true := by rw [h]; rfl
          clear h
          go_wp2_with (first
            | ((with_reducible refine wpList_ldB 57 _ ?_); refine ⟨rfl, _, ⟨_, _, _, _, _, Try.isAgg57, Try.sizeOf57, rfl, ‹_›, imA_all _ _ _⟩, ?_⟩)
            | ((with_reducible refine wpList_ldB 34 _ ?_); refine ⟨rfl, _, ⟨_, _, _, _, _, Try.isAgg34, Try.sizeOf34, rfl, ‹_›, enA_all _⟩, ?_⟩)
            | (go_at_call 39; refine (imay_any _ _ _ _ _ _ HS.out.row hl _ HMI.out).mono ?_; rintro en w1 ⟨rfl, hb1⟩; have B5 := tr_bl hb1 B5)
            | (go_at_call 29; refine (emay_any _ _ _ HME.out).mono ?_; rintro en w2 ⟨rfl, hb2⟩; have c0 := imA_c0 (tr_bl hb2 (tr_bl hb1 B3))))
          go_meet
          exact ⟨bool_eq (by rw [HZ.out, hb]; rfl), step_b hb1 hb2⟩
        · have hlt : m.idx < 1099511627776 := by rw [beq_eq_false_iff_ne] at h; omega
          go_wp2_with (first
            | ((with_reducible refine wpList_ldB 57 _ ?_); refine ⟨rfl, _, ⟨_, _, _, _, _, Try.isAgg57, Try.sizeOf57, rfl, ‹_›, imA_all _ _ _⟩, ?_⟩)
            | ((with_reducible refine wpList_ldB 34 _ ?_); refine ⟨rfl, _, ⟨_, _, _, _, _, Try.isAgg34, Try.sizeOf34, rfl, ‹_›, enA_all _⟩, ?_⟩)
            | (go_at_call 39; refine (imay_any _ _ _ _ _ _ HS.out.row hl _ HMI.out).mono ?_; rintro en w1 ⟨rfl, hb1⟩; have B5 := tr_bl hb1 B5)
            | (go_at_call 29; refine (emay_any _ _ _ HME.out).mono ?_; rintro en w2 ⟨rfl, hb2⟩; have c0 := imA_c0 (tr_bl hb2 (tr_bl hb1 B3))))
          go_meet
          exact ⟨bool_eq (by rw [HZ.out, h2]; simp), step_b hb1 hb2⟩
        · have hlt : m.idx < 1099511627776 := by rw [beq_eq_false_iff_ne] at h; omega
          go_wp2_with (first
            | ((with_reducible refine wpList_ldB 57 _ ?_); refine ⟨rfl, _, ⟨_, _, _, _, _, Try.isAgg57, Try.sizeOf57, rfl, ‹_›, imA_all _ _ _⟩, ?_⟩)
            | ((with_reducible refine wpList_ldB 34 _ ?_); refine ⟨rfl, _, ⟨_, _, _, _, _, Try.isAgg34, Try.sizeOf34, rfl, ‹_›, enA_all _⟩, ?_⟩)
            | (go_at_call 39; refine (imay_any _ _ _ _ _ _ HS.out.row hl _ HMI.out).mono ?_; rintro en w1 ⟨rfl, hb1⟩; have B5 := tr_bl hb1 B5)
            | (go_at_call 29; refine (emay_any _ _ _ HME.out).mono ?_; rintro en w2 ⟨rfl, hb2⟩; have c0 := imA_c0 (tr_bl hb2 (tr_bl hb1 B3))))
          go_meet
          exact ⟨bool_eq (by rw [HZ.out, h, h2]; rfl), step_b hb1 hb2⟩
  obtain ⟨rfl, hbc⟩ := hcut
  refine hK _ _ ?_; clear hK
  have B3 := tr_bl hbc B3
  have B5 := tr_bl hbc B5
  have B6 := tr_bl hbc B6
  have B7 := tr_bl hbc B7
  have HS := Lib.hid (HS.out.below hbc)
  have hbw := hb0.trans (hbc.mono (by omega))
  have hszc : N + 4 ≤ wc.heap.size := Nat.le_trans hsz0 hbc.size
  cases hbad : badAp m index e
  · obtain ⟨hmi, hme, hne, hix⟩ := badAp_no hbad
    obtain ⟨hi0, hi1, hms, hmt⟩ := mayI_parts hmi
    have HBAD := Lib.hid hbad
    have HMS := Lib.hid hms
    have HMT := Lib.hid hmt
    have HME := Lib.hid hme
    clear hbad hmi hms hmt hme hne hix
    go_wp2
    refine HK0.out _ _ ?_
    clear HK0
    have c1 := imA_c1 B3
    refine wp_seq_k (fun K hK => ?_)
    have HK := Lib.hid hK
    clear hK
    go_wp2_with (first
          | (go_at_call 40; refine (cln_opn _ _ _ _ HS.out hl).mono ?_; rintro en w1 ⟨⟨a1, cap1, rfl, hs1, ho1⟩, hb1⟩; have B3 := tr_bl hb1 B3; have B5 := tr_bl hb1 B5; have B6 := tr_bl hb1 B6; have B7 := tr_bl hb1 B7; clear c1)
          | ((first | (with_reducible refine wpList_stB 3 _ _ ?_) | (with_reducible refine wp_stB 3 _ _ ?_)); refine ⟨_, _, _, ⟨_, _, _, Try.sizeOf3, rfl, ‹_›, imA_idx _ index _ _⟩, ?_⟩; intro w2 M3 g2; have M5 := tr_st g2 B5 (by omega); have M6 := tr_st g2 B6 (by omega); have M7 := tr_st g2 B7 (by omega); have ho2 := owns_st ho1 g2 (by omega))
          | ((first | (with_reducible refine wpList_stB 48 _ _ ?_) | (with_reducible refine wp_stB 48 _ _ ?_)); refine ⟨_, _, _, ⟨_, _, _, Try.sizeOf48, rfl, ‹_›, imA_sv _ _ _ _ _ _⟩, ?_⟩; intro w3 N3 g3; have N5 := tr_st g3 M5 (by omega); have N6 := tr_st g3 M6 (by omega); have N7 := tr_st g3 M7 (by omega); have ho3 := owns_st ho2 g3 (by omega)))
    refine HK.out _ _ ?_
    clear HK
    have hbw1 := hbw.trans (hb1.mono (by omega))
    have hz1 : N + 4 ≤ w1.heap.size := by have := hb1.size; omega
    have hbw2 := bl_st hbw1 g2 (by omega) (by omega)
    have hz2 : N + 4 ≤ w2.heap.size := by have := g2.size; omega
    have hbw3 := bl_st hbw2 g3 (by omega) (by omega)
    have hz3 : N + 4 ≤ w3.heap.size := by have := g3.size; omega
    have ho3 := owns_mono ho3 hszc
    clear B3 B5 B6 B7 M3 M5 M6 M7 ho1 ho2 g2 g3 hbw1 hbw2 hb1 hs1 hbc hb0 hbw
    obtain ⟨e0, e1, e2⟩ := enA_c N5
    by_cases hk : e.kind = 1
    · rw [applyP_noop HBAD.out hk]
      have hkb : (e.kind == 1) = true := by rw [hk]; rfl
      clear hk
      go_wp2_with (first
        | ((with_reducible refine wpList_ldB 57 _ ?_); refine ⟨rfl, _, ⟨_, _, _, _, _, Try.isAgg57, Try.sizeOf57, rfl, ‹_›, imA_all _ _ _⟩, ?_⟩)
        | ((first | (with_reducible refine wpList_stB 57 _ _ ?_) | (with_reducible refine wp_stB 57 _ _ ?_)); refine ⟨_, _, _, ⟨_, _, _, Try.sizeOf57, rfl, ‹_›, imA_over _ _ _ _ _ _ _ _⟩, ?_⟩; intro w4 Q6 g4; have Q7 := tr_st g4 N7 (by omega); have ho4 := owns_st ho3 g4 (by omega))
        | ((first | (with_reducible refine wpList_stB 51 _ _ ?_) | (with_reducible refine wp_stB 51 _ _ ?_)); refine ⟨_, _, _, ⟨_, _, _, Try.sizeOf51, rfl, ‹_›, rpA_over zeroR _⟩, ?_⟩; intro w5 R7 g5; have R6 := tr_st g5 Q6 (by omega); have ho5 := owns_st ho4 g5 (by omega)))
      refine bodyPost_ret (results_c2t1 rfl rfl (run_loadVar_all Try.isAgg57 Try.sizeOf57 R6 rfl) rfl (run_loadVar_all Try.isAgg51 Try.sizeOf51 R7 rfl)) rfl ⟨⟨_, _, rfl, owns_mono ho5 (by have := HN.out; omega)⟩, ?_⟩
      have h4 := bl_st hbw3 g4 (by omega) (by omega)
      exact bl_st h4 g5 (by have := g4.size; omega) (by omega)
    · obtain ⟨hk2, hc0, hc4, hq1, hq2, hmo⟩ := mayE_parts HME.out hk
      have hkb : (e.kind == 1) = false := beq_eq_false_iff_ne.2 hk
      obtain ⟨c, hcl⟩ : ∃ c : Nat, e.cli = c := ⟨e.cli.toNat, by omega⟩
      rw [hcl] at e1 hc0 hc4
      have hc5 : c < 4 := by omega
      obtain ⟨f, r0, er, hask, hcase⟩ := askR_parts m.tb c e.seq
      have HASK := Lib.hid hask
      have HC := Lib.hid hcase
      have HCL := Lib.hid hcl
      have HK1 := Lib.hid hk
      clear hask hcase hcl hk hk2 hmo
      refine wp_seq_k (fun K hK => ?_)
      have HK := Lib.hid hK
      clear hK
      go_wp2
      refine HK.out _ _ ?_
      clear HK
      clear hkb
      refine wp_seq_k (fun K hK => ?_)
      have HK := Lib.hid hK
      clear hK
      go_wp2_with (first
              | ((with_reducible refine wpList_ldB 55 _ ?_); refine ⟨rfl, _, ⟨_, _, _, _, _, Try.isAgg55, Try.sizeOf55, rfl, ‹_›, imA_tb _ _ _⟩, ?_⟩)
              | (go_at_call 41; refine (ask_any _ _ _ _ HMT.out hc0 hc4 hq1 hq2).mono ?_; rintro en w4 ⟨rfl, hb4⟩; rw [HASK.out])
              | ((first | (with_reducible refine wpList_stNew 51 _ _ ?_) | (with_reducible refine wp_stNew 51 _ _ ?_)); refine ⟨_, _, ⟨Try.sizeOf51, rfl, rpA_new r0⟩, rfl, ?_⟩))
      refine HK.out _ _ ?_
      clear HK
      have P3 := tr_al (Obj.cells (rpA r0) 51) (tr_bl hb4 N3)
      have P5 := tr_al (Obj.cells (rpA r0) 51) (tr_bl hb4 N5)
      have P6 := tr_al (Obj.cells (rpA r0) 51) (tr_bl hb4 N6)
      have P7 := tr_al (Obj.cells (rpA r0) 51) (tr_bl hb4 N7)
      have ho4 := owns_bl (owns_bl ho3 hb4) (blw w4 (Obj.cells (rpA r0) 51))
      have P10 := heap_alloc_new w4 (Obj.cells (rpA r0) 51)
      have hz4 : N + 4 ≤ w4.heap.size := by have := hb4.size; omega
      have hbw5 := (hbw3.trans (hb4.mono (by omega))).trans ((blw w4 (Obj.cells (rpA r0) 51)).mono (by omega))
      clear N3 N5 N6 N7 ho3 hb4 hbw3 e0 e1 e2
      generalize w4.alloc (Obj.cells (rpA r0) 51) = w5 at *
      obtain ⟨g10, hg10⟩ : ∃ g, w4.heap.size = g := ⟨_, rfl⟩
      rw [hg10] at P10 hz4
      simp only [hg10]
      clear hg10
      have hz5 := lt_blk P10
      obtain ⟨e0, e1, e2⟩ := enA_c P5
      rw [HCL.out] at e1
      refine wp_seq_k (fun K hK => ?_)
      go_cut [] (fun wx => ApMid w N g10 (applyP m index e) wx)
      case first =>
        rcases HC.out with ⟨rfl, rfl, hq⟩ | ⟨rfl, rfl, hq⟩ | ⟨rfl, rfl, hr, hq⟩
        · have hap := applyP_fresh HBAD.out HK1.out (by rw [HCL.out]; exact hq)
          obtain ⟨lr, hlr⟩ : ∃ lr, doP m.st e.op = lr := ⟨_, rfl⟩
          rw [hlr, HCL.out] at hap
          have HLR := Lib.hid hlr
          have HAP := Lib.hid hap
          clear hlr hap
          have c1 := imA_c1 P3
          have hsp := Lib.hid (SlP.of_owns ho4)
          go_wp2_with (first
            | ((with_reducible refine wpList_ldB 32 _ ?_); refine ⟨rfl, _, ⟨_, _, _, _, _, Try.isAgg32, Try.sizeOf32, rfl, ‹_›, enA_op _⟩, ?_⟩)
            | ((with_reducible refine wpList_ldB 55 _ ?_); refine ⟨rfl, _, ⟨_, _, _, _, _, Try.isAgg55, Try.sizeOf55, rfl, ‹_›, imA_tb _ _ _⟩, ?_⟩)
            | ((with_reducible refine wpList_ldB 51 _ ?_); refine ⟨rfl, _, ⟨_, _, _, _, _, Try.isAgg51, Try.sizeOf51, rfl, ‹_›, rpA_all _⟩, ?_⟩)
            | (go_at_call 42; refine (do_opn _ _ _ e.op _ (SlP.of_own1 ho4) (by omega) _ HLR.out).mono ?_; rintro en w6 ⟨⟨a6, cap6, rfl, hs6, ho6⟩, hb6⟩; have P3 := tr_bl hb6 P3; have P5 := tr_bl hb6 P5; have P6 := tr_bl hb6 P6; have P7 := tr_bl hb6 P7; have P10 := tr_bl hb6 P10; clear c1)
            | ((first | (with_reducible refine wpList_stB 48 _ _ ?_) | (with_reducible refine wp_stB 48 _ _ ?_)); refine ⟨_, _, _, ⟨_, _, _, Try.sizeOf48, rfl, ‹_›, imA_sv _ _ _ _ _ _⟩, ?_⟩; intro w7 Q3 g7; have Q5 := tr_st g7 P5 (by omega); have Q6 := tr_st g7 P6 (by omega); have Q7 := tr_st g7 P7 (by omega); have Q10 := tr_st g7 P10 (by omega); have ho7 := owns_st ho6 g7 (by omega); clear P3 P5 P6 P7 P10)
            | ((first | (with_reducible refine wpList_stB 51 _ _ ?_) | (with_reducible refine wp_stB 51 _ _ ?_)); refine ⟨_, _, _, ⟨_, _, _, Try.sizeOf51, rfl, ‹_›, rpA_over lr.2 _⟩, ?_⟩; intro w8 R10 g8; have R3 := tr_st g8 Q3 (by omega); have R5 := tr_st g8 Q5 (by omega); have R6 := tr_st g8 Q6 (by omega); have R7 := tr_st g8 Q7 (by omega); have ho8 := owns_st ho7 g8 (by omega); clear Q3 Q5 Q6 Q7 Q10; obtain ⟨e0, e1, e2⟩ := enA_c R5; rw [HCL.out] at e1)
            | (go_at_call 43; refine (note_any _ _ _ lr.2.err lr.2.found lr.2.val _ HMT.out hc5 hq1 hq2 hq (HLR.out ▸ doP_bad_no HMS.out)).mono ?_; rintro en w9 ⟨rfl, hb9⟩; have R3 := tr_bl hb9 R3; have R6 := tr_bl hb9 R6; have R7 := tr_bl hb9 R7; have R10 := tr_bl hb9 R10; have ho9 := owns_bl ho8 hb9)
            | ((first | (with_reducible refine wpList_stB 55 _ _ ?_) | (with_reducible refine wp_stB 55 _ _ ?_)); refine ⟨_, _, _, ⟨_, _, _, Try.sizeOf55, rfl, ‹_›, imA_tbput _ _ _ _⟩, ?_⟩; intro w10 S3 g10'; have S6 := tr_st g10' R6 (by omega); have S7 := tr_st g10' R7 (by omega); have S10 := tr_st g10' R10 (by omega); have ho10 := owns_st ho9 g10' (by omega)))
          go_meet
          rw [HAP.out]
          have hz6 : N + 4 ≤ w6.heap.size := by have := hb6.size; omega
          have h6 := hbw5.trans (hb6.mono (by omega))
          have h7 := bl_st h6 g7 (by omega) (by omega)
          have h8 := bl_st h7 g8 (by have := g7.size; omega) (by omega)
          have h9 := h8.trans (hb9.mono (by have := g7.size; have := g8.size; omega))
          exact ⟨_, _, S3, S10, rfl, S6, S7, owns_mono ho10 (by omega), bl_st h9 g10' (by have := g7.size; have := g8.size; have := hb9.size; omega) (by omega)⟩
        · have hap := applyP_old HBAD.out HK1.out (by rw [HCL.out]; exact hq)
          have HAP := Lib.hid hap
          clear hap
          go_wp2_with ((first | (with_reducible refine wpList_stB 51 _ _ ?_) | (with_reducible refine wp_stB 51 _ _ ?_)); refine ⟨_, _, _, ⟨_, _, _, Try.sizeOf51, rfl, ‹_›, rpA_over ⟨220, false, ⟨#[]⟩⟩ _⟩, ?_⟩; intro w6 Q10 g6; have Q3 := tr_st g6 P3 (by omega); have Q6 := tr_st g6 P6 (by omega); have Q7 := tr_st g6 P7 (by omega); have ho6 := owns_ne ho4 g6 P10 (by decide))
          go_meet
          rw [HAP.out]
          exact ⟨_, _, Q3, Q10, rfl, Q6, Q7, ho6, bl_st hbw5 g6 (by omega) (by omega)⟩
        · have hap := applyP_same HBAD.out HK1.out (by rw [HCL.out]; exact hq)
          rw [HCL.out, ← hr] at hap
          have HAP := Lib.hid hap
          clear hap hr
          go_wp2
          go_meet
          rw [HAP.out]
          exact ⟨_, _, P3, P10, rfl, P6, P7, ho4, hbw5⟩
      clear P3 P5 P6 P7 P10 ho4 hbw5 e0 e1 e2
      obtain ⟨a6, cap6, P3, P10, h0, P6, P7, ho6, hbw6⟩ := hcut
      refine hK _ _ ?_; clear hK
      generalize applyP m index e = out at *
      obtain ⟨⟨oi, ost, ot⟩, orp, oer⟩ := out
      simp only at P3 P10 h0 ho6
      subst h0
      refine wp_seq_k (fun K hK => ?_)
      have HK := Lib.hid hK
      clear hK
      go_wp2_with fail
      refine wp_region_held_drew (S := fun w' => w'.heap[N]? = some (.cells (imA oi (.slice a6 ost.length cap6) ot) 57 (0, 0)) ∧ w'.heap[g10]? = some (.cells (rpA orp) 51 (0, 0))) (by kernel_rfl) ⟨P3, P10⟩ (fun hS0 => ?_)
      refine wpAnyH_take (i := 0) (oi := ⟨_, _, _, _, _, _⟩) (v := .agg (imA oi (.slice a6 ost.length cap6) ot)) rfl (by kernel_rfl) (by kernel_rfl) (by kernel_rfl) (fun _ _ _ h => h) (Or.inl ⟨by rfl, fun wS hSw => ?_⟩) (by assumption) ?_
      · exact exec_ldB 57 _ ⟨_, _, _, _, _, Try.isAgg57, Try.sizeOf57, rfl, hSw.1, imA_all _ _ _⟩
      (try simp only [Act.put])
      (try simp only [List.setIfInBounds_toArray])
      (try simp only [List.set_cons_succ])
      (try simp only [List.set_cons_zero])
      refine wpAnyH_take (i := 1) (oi := ⟨_, _, _, _, _, _⟩) (v := .agg (rpA orp)) rfl (by kernel_rfl) (by kernel_rfl) (by kernel_rfl) (fun _ _ _ h => h) (Or.inl ⟨by rfl, fun wS hSw => ?_⟩) (by assumption) ?_
      · exact exec_ldB 51 _ ⟨_, _, _, _, _, Try.isAgg51, Try.sizeOf51, rfl, hSw.2, rpA_all _⟩
      (try simp only [Act.put])
      (try simp only [List.setIfInBounds_toArray])
      (try simp only [List.set_cons_succ])
      (try simp only [List.set_cons_zero])
      refine wpAnyH_ready (rs := [2]) (by kernel_rfl) (by simp) ?_
      refine AllReadyH.cons (o := ⟨_, _, _, _, _, _⟩) rfl (fun K' hK' => ?_) AllReadyH.nil
      refine (if_pos (by rfl)).mpr ?_
      refine wp_stB 57 _ _ ?_
      refine ⟨_, _, _, ⟨_, _, _, Try.sizeOf57, rfl, P6, imA_over _ _ _ _ _ _ _ _⟩, ?_⟩
      intro w7 Q6 g7
      refine hK'.out _ _ ⟨tr_st g7 P3 (by omega), tr_st g7 P10 (by omega)⟩ (fun _ => ?_)
      have Q7 := tr_st g7 P7 (by omega)
      refine wpAnyH_ready (rs := [3]) (by kernel_rfl) (by simp) ?_
      refine AllReadyH.cons (o := ⟨_, _, _, _, _, _⟩) rfl (fun K' hK' => ?_) AllReadyH.nil
      refine (if_pos (by rfl)).mpr ?_
      refine wp_stB 51 _ _ ?_
      refine ⟨_, _, _, ⟨_, _, _, Try.sizeOf51, rfl, Q7, rpA_over _ _⟩, ?_⟩
      intro w8 R7 g8
      have R6 := tr_st g8 Q6 (by omega)
      refine hK'.out _ _ ⟨tr_st g8 (tr_st g7 P3 (by omega)) (by omega), tr_st g8 (tr_st g7 P10 (by omega)) (by omega)⟩ (fun _ => ?_)
      refine wpAnyH_ready (rs := [4]) (by kernel_rfl) (by simp) ?_
      refine AllReadyH.cons (o := ⟨_, _, _, _, _, _⟩) rfl (fun K' hK' => ?_) AllReadyH.nil
      refine (if_pos (by rfl)).mpr ?_
      go_simp
      refine hK'.out _ _ ⟨tr_st g8 (tr_st g7 P3 (by omega)) (by omega), tr_st g8 (tr_st g7 P10 (by omega)) (by omega)⟩ (fun _ => ?_)
      refine wpAnyH_done (by kernel_rfl) ?_ _
      refine HK.out _ _ ?_
      clear HK
      go_wp2
      refine bodyPost_ret (results_c2t1 rfl rfl (run_loadVar_all Try.isAgg57 Try.sizeOf57 R6 rfl) rfl (run_loadVar_all Try.isAgg51 Try.sizeOf51 R7 rfl)) rfl ⟨⟨_, _, rfl, owns_mono (owns_st (owns_st ho6.drew g7 (by omega)) g8 (by omega)) (by have := HN.out; omega)⟩, ?_⟩
      have h7 : Below N w w7 := bl_st hbw6.drew g7 (by have := lt_blk P10; simp; omega) (by omega)
      exact bl_st h7 g8 (by have := lt_blk P10; have := g7.size; simp at this; omega) (by omega)
  · rw [badAp_yes hbad]
    clear hbad
    go_wp2_with (first
      | ((first | (with_reducible refine wpList_stB 57 _ _ ?_) | (with_reducible refine wp_stB 57 _ _ ?_)); refine ⟨_, _, _, ⟨_, _, _, Try.sizeOf57, rfl, ‹_›, imA_over 0 none 0 0 zeroT _ _ _⟩, ?_⟩; intro w1 N6 g1; have N7 := tr_st g1 B7 (by omega))
      | ((first | (with_reducible refine wpList_stB 51 _ _ ?_) | (with_reducible refine wp_stB 51 _ _ ?_)); refine ⟨_, _, _, ⟨_, _, _, Try.sizeOf51, rfl, ‹_›, rpA_over zeroR _⟩, ?_⟩; intro w2 M7 g2; have M6 := tr_st g2 N6 (by omega)))
    refine bodyPost_ret (results_c2t1 rfl rfl (run_loadVar_all Try.isAgg57 Try.sizeOf57 M6 rfl) rfl (run_loadVar_all Try.isAgg51 Try.sizeOf51 M7 rfl)) rfl ⟨⟨none, 0, rfl, World.ownsRow_nil _ _ _ _⟩, ?_⟩
    have h1 := bl_st hbw g1 (by omega) (by omega)
    exact bl_st h1 g2 (by have := g1.size; omega) (by omega)
end Go.Proofs.Ytkkoookmnnmiiaa

namespace Go.Proofs.Ytkkoookmnnmiiaa

theorem tb_at_put (t : Tb) (c d : Nat) (r : Rw) (hc : c < 4) (hd : d < 4) : (t.put c r).at d = if d = c then r else t.at d := by
  rcases four_cases hc with rfl | rfl | rfl | rfl <;> rcases four_cases hd with rfl | rfl | rfl | rfl <;> simp [Tb.put, Tb.at]
theorem tb_ext {t u : Tb} (h : ∀ c : Nat, c < 4 → t.at c = u.at c) : t = u := by
  have h0 := h 0 (by omega)
  have h1 := h 1 (by omega)
  have h2 := h 2 (by omega)
  have h3 := h 3 (by omega)
  simp [Tb.at] at h0 h1 h2 h3
  obtain ⟨a, b, c, d⟩ := t
  obtain ⟨a', b', c', d'⟩ := u
  simp only at h0 h1 h2 h3
  rw [h0, h1, h2, h3]
theorem mayT_at {t : Tb} : mayT t = true ↔ ∀ c : Nat, c < 4 → oddR (t.at c) = false := by
  rw [mayT_any, Bool.not_eq_true', List.any_eq_false]
  constructor
  · intro h c hc
    have := h (t.at c) (List.mem_of_getElem? (show t.list[c]? = some (t.at c) from by rcases four_cases hc with rfl | rfl | rfl | rfl <;> rfl))
    simpa using this
  · intro h r hr
    simp only [Tb.list, List.mem_cons, List.not_mem_nil, or_false] at hr
    have h0 := h 0 (by omega)
    have h1 := h 1 (by omega)
    have h2 := h 2 (by omega)
    have h3 := h 3 (by omega)
    simp [Tb.at] at h0 h1 h2 h3
    rcases hr with rfl | rfl | rfl | rfl <;> simp [*]

/-- What a good step comes to: the index goes on, the image may be, a row changes only to a greater number. -/
structure StepOk (m : Im) (e : En) (r : Im × Rp × Int) : Prop where
  may : mayI r.1 = true
  idx : r.1.idx = m.idx + 1
  err : r.2.2 = 0
  ent : mayE e = true
  rows : ∀ c : Nat, c < 4 → r.1.tb.at c = m.tb.at c ∨ (m.tb.at c).seq < (r.1.tb.at c).seq
  mine : e.kind ≠ 1 → ∀ c : Nat, e.cli = c → (e.seq < (m.tb.at c).seq ∧ r.1.tb = m.tb ∧ r.1.st = m.st ∧ r.2.1 = ⟨220, false, ⟨#[]⟩⟩) ∨ (e.seq = (m.tb.at c).seq ∧ r.1.tb = m.tb ∧ r.1.st = m.st ∧ r.2.1 = (m.tb.at c).rep) ∨ ((m.tb.at c).seq < e.seq ∧ r.1.tb.at c = ⟨e.seq, r.2.1⟩)

theorem step_ok {m : Im} {e : En} (h : (applyP m (m.idx + 1) e).2.2 = 0) : StepOk m e (applyP m (m.idx + 1) e) := by
  cases hb : badAp m (m.idx + 1) e with
  | true => rw [badAp_yes hb] at h; cases h
  | false =>
    obtain ⟨h1, h2, h3, _⟩ := badAp_no hb
    obtain ⟨i0, i1, hs, ht⟩ := mayI_parts h1
    have hidx : decide (0 ≤ m.idx + 1) = true ∧ decide (m.idx + 1 ≤ big40) = true := ⟨decide_eq_true (by omega), decide_eq_true (by unfold big40; omega)⟩
    have base : ∀ (st : List Pr) (tb : Tb), mayS st = true → mayT tb = true → mayI ⟨m.idx + 1, st, tb⟩ = true := by
      intro st tb a b
      unfold mayI
      simp only
      rw [hidx.1, hidx.2, a, b]
      rfl
    by_cases hk : e.kind = 1
    · rw [applyP_noop hb hk]
      exact ⟨base _ _ hs ht, rfl, rfl, h2, fun c _ => .inl rfl, fun hne => absurd hk hne⟩
    · obtain ⟨hk2, hc0, hc4, hq1, hq2, hmo⟩ := mayE_parts h2 hk
      obtain ⟨c, hc⟩ : ∃ c : Nat, e.cli = c := ⟨e.cli.toNat, by omega⟩
      have hc4' : c < 4 := by omega
      rcases Int.lt_trichotomy e.seq (m.tb.at e.cli).seq with hq | hq | hq
      · rw [applyP_old hb hk hq]
        refine ⟨base _ _ hs ht, rfl, rfl, h2, fun c _ => .inl rfl, fun _ d hd => .inl ⟨by rw [← hd]; exact hq, rfl, rfl, rfl⟩⟩
      · rw [applyP_same hb hk hq]
        refine ⟨base _ _ hs ht, rfl, rfl, h2, fun c _ => .inl rfl, fun _ d hd => .inr (.inl ⟨by rw [← hd]; exact hq, rfl, rfl, by rw [← hd]⟩)⟩
      · rw [applyP_fresh hb hk hq]
        have hnew : oddR ⟨e.seq, (doP m.st e.op).2⟩ = false := by
          unfold oddR
          simp only
          rw [if_neg (by omega), doP_bad_no hs, decide_eq_false (by omega), decide_eq_false (by unfold big40; omega)]
          rfl
        refine ⟨base _ _ (doP_may e.op hs) ?_, rfl, rfl, h2, ?_, ?_⟩
        · rw [mayT_at]
          intro d hd
          rw [hc, tb_at_put m.tb c d _ hc4' hd]
          split
          · exact hnew
          · exact mayT_at.1 ht d hd
        · intro d hd
          simp only
          rw [hc, tb_at_put m.tb c d _ hc4' hd]
          by_cases hdc : d = c
          · subst hdc
            rw [if_pos rfl]
            right
            rw [hc] at hq
            exact hq
          · rw [if_neg hdc]
            exact .inl rfl
        · intro _ d hd
          have : d = c := by omega
          subst this
          right; right
          rw [hc] at hq
          refine ⟨hq, ?_⟩
          simp only
          rw [hc, tb_at_put m.tb d d _ hc4' hc4', if_pos rfl]

end Go.Proofs.Ytkkoookmnnmiiaa

namespace Go.Proofs.Ytkkoookmnnmiiaa
open Go.RowKit

/-- One step of a replay. -/
def stepJ (f : List Ap) (m : Im) : Option Im :=
  match firstJ f (m.idx + 1) with
  | none => none
  | some e => if (applyP m (m.idx + 1) e).2.2 = 0 then some (applyP m (m.idx + 1) e).1 else none
def itJ (f : List Ap) : Nat → Option Im
  | 0 => some zeroI
  | n + 1 => (itJ f n).bind (stepJ f)
/-- A history's image. -/
def ownJ (h : List En) : Nat → Option Im
  | 0 => some zeroI
  | n + 1 => (ownJ h n).bind (fun m => if (applyP m (m.idx + 1) (h.getD n zeroE)).2.2 = 0 then some (applyP m (m.idx + 1) (h.getD n zeroE)).1 else none)
theorem mayI_zero : mayI zeroI = true := by decide +kernel
theorem stepJ_may {f : List Ap} {m m' : Im} (h : stepJ f m = some m') : mayI m' = true ∧ m'.idx = m.idx + 1 := by
  unfold stepJ at h
  cases hf : firstJ f (m.idx + 1) with
  | none => rw [hf] at h; cases h
  | some e =>
    rw [hf] at h
    simp only at h
    by_cases h0 : (applyP m (m.idx + 1) e).2.2 = 0
    · rw [if_pos h0] at h
      injection h with h
      have := step_ok h0
      rw [← h]
      exact ⟨this.may, this.idx⟩
    · rw [if_neg h0] at h
      cases h
theorem itJ_may {f : List Ap} : ∀ {n : Nat} {m : Im}, itJ f n = some m → mayI m = true ∧ m.idx = n
  | 0, m, h => by
    unfold itJ at h
    injection h with h
    rw [← h]
    exact ⟨mayI_zero, rfl⟩
  | n + 1, m, h => by
    unfold itJ at h
    cases hn : itJ f n with
    | none => rw [hn] at h; cases h
    | some k =>
      rw [hn] at h
      obtain ⟨_, h2⟩ := itJ_may hn
      obtain ⟨h3, h4⟩ := stepJ_may (show stepJ f k = some m from h)
      exact ⟨h3, by omega⟩
theorem itJ_stop {f : List Ap} {n : Nat} {m : Im} (h : itJ f n = some m) (hs : stepJ f m = none) : ∀ d, itJ f (n + 1 + d) = none
  | 0 => by
    show (itJ f n).bind (stepJ f) = none
    rw [h]
    exact hs
  | d + 1 => by
    show (itJ f (n + 1 + d)).bind (stepJ f) = none
    rw [itJ_stop h hs d]
    rfl
theorem itJ_one {f : List Ap} {n n' : Nat} {m m' : Im} (h : itJ f n = some m) (hs : stepJ f m = none) (h' : itJ f n' = some m') (hs' : stepJ f m' = none) : n = n' ∧ m = m' := by
  have key : n = n' := by
    rcases Nat.lt_trichotomy n n' with hlt | he | hlt
    · have := itJ_stop h hs (n' - n - 1)
      rw [show n + 1 + (n' - n - 1) = n' by omega, h'] at this
      cases this
    · exact he
    · have := itJ_stop h' hs' (n - n' - 1)
      rw [show n' + 1 + (n - n' - 1) = n by omega, h] at this
      cases this
  subst key
  rw [h] at h'
  injection h' with h'
  exact ⟨rfl, h'⟩
theorem apply_ok {m : Im} {e : En} (hm : mayI m = true) (he : mayE e = true) (hi : m.idx ≠ big40) : (applyP m (m.idx + 1) e).2.2 = 0 := by
  have hb : badAp m (m.idx + 1) e = false := by
    unfold badAp
    rw [hm, he]
    have h1 : (m.idx == 1099511627776) = false := beq_eq_false_iff_ne.2 hi
    rw [h1]
    simp
  by_cases hk : e.kind = 1
  · rw [applyP_noop hb hk]
  · rcases Int.lt_trichotomy e.seq (m.tb.at e.cli).seq with hq | hq | hq
    · rw [applyP_old hb hk hq]
    · rw [applyP_same hb hk hq]
    · rw [applyP_fresh hb hk hq]
section
variable {h : List En} {l : List Pc} {C : List Ap} {tq : Nat}
theorem own_some (hm : ∀ i (hi : i < h.length), mayE h[i] = true) (h40 : h.length ≤ 40) : ∀ n, n ≤ h.length → ∃ m, ownJ h n = some m ∧ mayI m = true ∧ m.idx = n
  | 0, _ => ⟨zeroI, rfl, mayI_zero, rfl⟩
  | n + 1, hn => by
    obtain ⟨m, h1, h2, h3⟩ := own_some hm h40 n (by omega)
    have h0 := apply_ok h2 (mayE_of hm (show n < h.length by omega)) (by unfold big40; omega)
    refine ⟨(applyP m (m.idx + 1) (h.getD n zeroE)).1, ?_, (step_ok h0).may, ?_⟩
    · unfold ownJ
      rw [h1]
      show (if _ then _ else _) = _
      rw [if_pos h0]
    · rw [(step_ok h0).idx]
      omega
/-- How far it is told without a gap. -/
structure FarJ (C : List Ap) (tq : Nat) : Prop where
  le : tq ≤ C.length
  at_ : ∀ j (_ : j < tq), ∃ hc : j < C.length, C[j].idx = ((j + 1 : Nat) : Int)
  stop : ∀ hc : tq < C.length, C[tq].idx ≠ ((tq + 1 : Nat) : Int)
theorem rise_le (f : List Ap) : ∀ (j i : Nat) (hj : j < (chosenJ f).length) (hi : i < j), (chosenJ f)[i].idx < (chosenJ f)[j].idx := fun j i hj hi =>
  List.pairwise_iff_getElem.1 (chosen_rises f) i j (by omega) hj hi
theorem far_le (hC : chosenJ (flatJ (piecesJ h l)) = C) (hF : FarJ C tq) : tq ≤ h.length := by
  by_cases h0 : tq = 0
  · omega
  · obtain ⟨hc, e⟩ := hF.at_ (tq - 1) (by omega)
    subst hC
    obtain ⟨q, hq, e2⟩ := (cho_s (h := h) (l := l)).at_ (tq - 1) hc
    rw [e2] at e
    simp only at e
    omega
theorem far_first (hC : chosenJ (flatJ (piecesJ h l)) = C) (hF : FarJ C tq) {j : Nat} (hj : j < tq) : firstJ (flatJ (piecesJ h l)) ((j : Int) + 1) = some (h.getD j zeroE) := by
  obtain ⟨hc, e⟩ := hF.at_ j hj
  subst hC
  have h1 := chosen_mem (List.getElem_mem hc)
  obtain ⟨q, hq, e2⟩ := (cho_s (h := h) (l := l)).at_ j hc
  rw [e2] at e h1
  simp only at e h1
  have hqj : q = j := by omega
  subst hqj
  rw [List.getD_eq_getElem?_getD, List.getElem?_eq_getElem hq]
  exact h1
theorem far_none (hC : chosenJ (flatJ (piecesJ h l)) = C) (hF : FarJ C tq) : firstJ (flatJ (piecesJ h l)) ((tq : Int) + 1) = none := by
  cases hf : firstJ (flatJ (piecesJ h l)) ((tq : Int) + 1) with
  | none => rfl
  | some e =>
    exfalso
    have hk := first_key.1 (show (firstJ (flatJ (piecesJ h l)) ((tq : Int) + 1)).isSome = true by rw [hf]; rfl)
    obtain ⟨j, hj, hje⟩ := List.getElem_of_mem hk
    have hjc : j < C.length := by rw [← hC]; unfold chosenJ; rw [List.length_map]; exact hj
    have hce : ∀ hc : j < C.length, C[j].idx = (tq : Int) + 1 := by
      subst hC
      intro hc
      have h9 : (chosenJ (flatJ (piecesJ h l)))[j] = atJ (flatJ (piecesJ h l)) (keysJ (flatJ (piecesJ h l)))[j] := by
        unfold chosenJ
        exact List.getElem_map _
      rw [h9]
      exact hje
    have h1 := hce hjc
    rcases Nat.lt_trichotomy j tq with hlt | rfl | hlt
    · obtain ⟨hc, e2⟩ := hF.at_ j hlt
      omega
    · have := hF.stop hjc
      omega
    · have htc : tq < C.length := by omega
      have h2 : C[tq].idx < C[j].idx := by
        subst hC
        exact rise_le _ j tq hjc hlt
      by_cases h0 : tq = 0
      · subst h0
        subst hC
        obtain ⟨q, hq, e2⟩ := (cho_s (h := h) (l := l)).at_ 0 htc
        rw [e2] at h2
        simp only at h2
        omega
      · obtain ⟨hc, e2⟩ := hF.at_ (tq - 1) (by omega)
        have h3 : C[tq - 1].idx < C[tq].idx := by
          subst hC
          exact rise_le _ tq (tq - 1) htc (by omega)
        omega
theorem it_own (hm : ∀ i (hi : i < h.length), mayE h[i] = true) (h40 : h.length ≤ 40) (hC : chosenJ (flatJ (piecesJ h l)) = C) (hF : FarJ C tq) : ∀ n, n ≤ tq → itJ (flatJ (piecesJ h l)) n = ownJ h n
  | 0, _ => rfl
  | n + 1, hn => by
    have hto := far_le hC hF
    obtain ⟨m, h1, h2, h3⟩ := own_some hm h40 n (by omega)
    unfold itJ ownJ
    rw [it_own hm h40 hC hF n (by omega), h1]
    show stepJ _ m = if _ then _ else _
    unfold stepJ
    rw [h3, far_first hC hF (show n < tq by omega)]
/-- What is replayed is the history's image, as far as it is told. -/
theorem replay_is (hm : ∀ i (hi : i < h.length), mayE h[i] = true) (h40 : h.length ≤ 40) (hC : chosenJ (flatJ (piecesJ h l)) = C) (hF : FarJ C tq) {n : Nat} {m : Im} (h1 : itJ (flatJ (piecesJ h l)) n = some m) (h2 : stepJ (flatJ (piecesJ h l)) m = none) : m.idx = tq ∧ ownJ h tq = some m := by
  have hto := far_le hC hF
  obtain ⟨m', e1, e2, e3⟩ := own_some hm h40 tq hto
  have e4 : itJ (flatJ (piecesJ h l)) tq = some m' := by rw [it_own hm h40 hC hF tq (Nat.le_refl _)]; exact e1
  have e5 : stepJ (flatJ (piecesJ h l)) m' = none := by
    unfold stepJ
    rw [e3, far_none hC hF]
  obtain ⟨_, rfl⟩ := itJ_one h1 h2 e4 e5
  exact ⟨e3, e1⟩
end
end Go.Proofs.Ytkkoookmnnmiiaa

namespace Go.Proofs.Ytkkoookmnnmiiaa
open Go.RowKit Go.Shelf Go.Maps

def RepR (f : List Ap) (e : Ending) (w' : World) : Prop := ∃ n m a c, e = .returned (.agg (imA m.idx (.slice a m.st.length c) m.tb)) ∧ itJ f n = some m ∧ stepJ f m = none ∧ SlP w' a c m.st
theorem enA_new (e : En) : (Value.agg (enA e)).cells = enA e ∧ (enA e).size = 7 ∧ ∀ u ∈ (enA e).toList, u.oneCell' = true := by
  refine ⟨rfl, rfl, fun u hu => ?_⟩
  simp [enA] at hu
  rcases hu with rfl | rfl | rfl | rfl | rfl | rfl | rfl <;> rfl
theorem blTwoJ {w x y : World} {o1 o2 : Obj} (g1 : ((w.alloc o1).alloc o2).grownBy x (some w.heap.size)) (g2 : x.grownBy y (some (w.heap.size + 1))) : Below w.heap.size w y := by
  have h0 : Below w.heap.size w ((w.alloc o1).alloc o2) := (blw w o1).trans ((blw _ o2).mono (by simp))
  have h1 := bl_st h0 g1 h0.size (Nat.le_refl _)
  exact bl_st h1 g2 h1.size (by omega)
theorem stepJ_no {f : List Ap} {m : Im} (h : firstJ f (m.idx + 1) = none) : stepJ f m = none := by
  unfold stepJ
  rw [h]
theorem stepJ_bad {f : List Ap} {m : Im} {e : En} (h : firstJ f (m.idx + 1) = some e) (h0 : (applyP m (m.idx + 1) e).2.2 ≠ 0) : stepJ f m = none := by
  unfold stepJ
  rw [h]
  simp only
  rw [if_neg h0]
theorem stepJ_ok {f : List Ap} {m : Im} {e : En} (h : firstJ f (m.idx + 1) = some e) (h0 : (applyP m (m.idx + 1) e).2.2 = 0) : stepJ f m = some (applyP m (m.idx + 1) e).1 := by
  unfold stepJ
  rw [h]
  simp only
  rw [if_pos h0]
set_option maxRecDepth 100000 in
set_option maxHeartbeats 4000000 in
theorem replay_any {a : Option Addr} {ls : List PartA} {w : World} (h : PartsA w a ls) (cap : Nat) (hlen : ls.length ≤ 1000000) (hlen2 : ∀ x ∈ ls, x.2.2.length ≤ 1000000) (hok : ∀ x ∈ ls, ∀ y ∈ x.2.2, okI y) : Calls Try.prog 23 #[.slice a ls.length cap] w fun e w' => RepR (flatJ (lstA ls)) e w' ∧ Below w.heap.size w w' := by
  have hb0 := blw w (Obj.cells (imA 0 (.slice none 0 0) zeroT) 57)
  have B2 := heap_alloc_new w (Obj.cells (imA 0 (.slice none 0 0) zeroT) 57)
  have hg := gather_any (h.below hb0) cap hlen hlen2 hok
  generalize flatJ (lstA ls) = f at *
  have hT := told_map f
  have HT := Lib.hid hT
  clear hT h hok
  go_enter Try.func23, Try.ntmps23
  refine wp_seq_k (fun K hK => ?_)
  have HK := Lib.hid hK
  clear hK
  go_wp2
  refine HK.out _ _ ?_
  clear HK
  change Code.wp _ _ _ _ (w.alloc (Obj.cells (imA 0 (.slice none 0 0) zeroT) 57))
  obtain ⟨N, hN⟩ : ∃ N, w.heap.size = N := ⟨_, rfl⟩
  rw [hN] at B2 hb0
  simp only [hN]
  have hs0 : N < (w.alloc (Obj.cells (imA 0 (.slice none 0 0) zeroT) 57)).heap.size := lt_blk B2
  generalize w.alloc (Obj.cells (imA 0 (.slice none 0 0) zeroT) 57) = w0 at *
  refine wp_seq_k (fun K hK => ?_)
  have HK := Lib.hid hK
  clear hK
  go_wp2_with (go_at_call 31; refine hg.mono ?_; rintro e w1 ⟨mb, v, n, rfl, hmb, hM, hn, hrow, hb1⟩)
  refine HK.out _ _ ?_
  clear HK
  have B2 := tr_bl hb1 B2
  have hb01 : Below N w w1 := hb0.trans (hb1.mono (Nat.le_of_lt hs0))
  have hs1 : N < w1.heap.size := Nat.lt_of_lt_of_le hs0 hb1.size
  have hml := hM.lt
  clear hrow hn hmb hb1 hb0 hg hs0
  refine wp_seq_k (fun K hK => ?_)
  have HK := Lib.hid hK
  clear hK
  go_wp2
  refine HK.out _ _ ?_
  clear HK
  change Code.wp _ _ _ _ (w1.alloc (Obj.cells (imA 0 (.slice none 0 0) zeroT) 57))
  have hM2 := hM.alloc (Obj.cells (imA 0 (.slice none 0 0) zeroT) 57)
  have B2 := tr_al (Obj.cells (imA 0 (.slice none 0 0) zeroT) 57) B2
  have B5 := heap_alloc_new w1 (Obj.cells (imA 0 (.slice none 0 0) zeroT) 57)
  have hb12 := blw w1 (Obj.cells (imA 0 (.slice none 0 0) zeroT) 57)
  obtain ⟨M, hMe⟩ : ∃ M, w1.heap.size = M := ⟨_, rfl⟩
  rw [hMe] at B5 hml hs1
  simp only [hMe]
  have hs2 : M < (w1.alloc (Obj.cells (imA 0 (.slice none 0 0) zeroT) 57)).heap.size := lt_blk B5
  have HME := Lib.hid hMe
  clear hMe hM
  generalize w1.alloc (Obj.cells (imA 0 (.slice none 0 0) zeroT) 57) = w2 at *
  go_wp2
  go_loopw [7] (fun t wr => ∃ (n : Nat) (m : Im) (a : Option Addr) (c : Nat), Hid (itJ f n = some m) ∧ wr.heap[M]? = some (.cells (imA m.idx (.slice a m.st.length c) m.tb) 57 (0, 0)) ∧ wr.ownsRow M 81 2 (.slice a m.st.length c) m.st.length (prs m.st) ∧ Below M w2 wr) (fun t wr => 1099511627777 - (Go.RowKit.intOf ((wr.cell? ⟨M, 0, none⟩).getD undef)).toNat)
  case atStart => exact ⟨0, zeroI, none, 0, Lib.hid rfl, B5, World.ownsRow_nil _ _ _ _, Below.refl _ _⟩
  case round =>
    obtain ⟨n, m, a, c, hit, C5, hown, hbr⟩ := hrel
    have hmay := (itJ_may hit.out).1
    obtain ⟨hi0, hi1, hms, _⟩ := mayI_parts hmay
    have hl8 : m.st.length ≤ 1000 := by
      have := (may_spec hms).1
      omega
    have c0 := imA_c0 C5
    have hwf : (Lit.int .i64 (m.idx + 1)).wf = true := by
      have e1 : IntKind.i64.min = -9223372036854775808 := by decide
      have e2 : IntKind.i64.max = 9223372036854775807 := by decide
      simp [Lit.wf, e1, e2]
      omega
    have hMr := map_at hM2 (hbr.block mb hml)
    obtain ⟨e, hat, hyes, hno⟩ := look_told HT.out (m.idx + 1)
    obtain ⟨u, ps, hrun, hru⟩ := hMr.look_ok (int_keyed Try.underlying3) Try.underlying65 (zeroEn wr) (rdE_mk zE0) (keyOf_int_mk Try.underlying3 hwf)
    rw [show (Lit.int .i64 (m.idx + 1)) = keyL (m.idx + 1) from rfl, hat] at hru
    rw [show (Lit.int .i64 (m.idx + 1)) = keyL (m.idx + 1) from rfl] at hrun
    have hu := rdE_inv hru
    subst hu
    have B2r := (hbr.block N hs1).trans B2
    have hbwr : Below N w wr := hb01.trans ((hb12.mono (by have := HME.out; omega)).trans (hbr.mono (Nat.le_of_lt hs1)))
    have hsr : M < wr.heap.size := lt_blk C5
    obtain ⟨b, hb⟩ : ∃ b, has (mapJ f) (keyL (m.idx + 1)) = b := ⟨_, rfl⟩
    rw [hb] at hrun hyes hno
    clear hb hru hat hMr
    cases b
    case false =>
      have HNO := Lib.hid (stepJ_no (hno rfl))
      clear hyes hno hmay hms
      go_wp2_with (first
        | ((first | (with_reducible refine wpList_stNew 34 _ _ ?_) | (with_reducible refine wp_stNew 34 _ _ ?_)); refine ⟨_, _, ⟨Try.sizeOf34, rfl, enA_new _⟩, rfl, ?_⟩; have C6 := tr_al (Obj.cells (enA e) 34) C5; have B6 := tr_al (Obj.cells (enA e) 34) B2r)
        | ((with_reducible refine wpList_ldB 57 _ ?_); refine ⟨rfl, _, ⟨_, _, _, _, _, Try.isAgg57, Try.sizeOf57, rfl, ‹_›, imA_all _ _ _⟩, ?_⟩)
        | ((first | (with_reducible refine wpList_stB 57 _ _ ?_) | (with_reducible refine wp_stB 57 _ _ ?_)); refine ⟨_, _, _, ⟨_, _, _, Try.sizeOf57, rfl, ‹_›, imA_over _ _ _ _ _ 0 (.slice none 0 0) zeroT⟩, ?_⟩; intro wz D4 gz))
      have ho2 := owns_ne (owns_bl hown (blw wr (Obj.cells (enA e) 34))) gz B6 (by decide)
      have hbz : Below N w wz := bl_st (hbwr.trans ((blw wr (Obj.cells (enA e) 34)).mono (by omega))) gz (by simp; omega) (Nat.le_refl _)
      refine bodyPost_ret (results_c1 rfl rfl (run_loadVar_all Try.isAgg57 Try.sizeOf57 D4 rfl)) rfl ⟨⟨n, m, a, c, rfl, hit.out, HNO.out, SlP.of_own1 ho2⟩, hbz⟩
    case true =>
      obtain ⟨⟨o1, o2, o3⟩, hap⟩ : ∃ o, applyP m (m.idx + 1) e = o := ⟨_, rfl⟩
      have HF := Lib.hid (hyes rfl)
      have hA := fun w' hs => apply_any m a c (m.idx + 1) e w' hs hl8
      rw [hap] at hA
      have HAP := Lib.hid hap
      clear hyes hno hap hmay hms
      have hbE : Below N w (wr.alloc (Obj.cells (enA e) 34)) := hbwr.trans ((blw wr (Obj.cells (enA e) 34)).mono (by omega))
      have hsE : M < (wr.alloc (Obj.cells (enA e) 34)).heap.size := by rw [World.size_alloc]; omega
      by_cases h3 : o3 = 0
      · subst h3
        go_wp2_with (first
          | ((first | (with_reducible refine wpList_stNew 34 _ _ ?_) | (with_reducible refine wp_stNew 34 _ _ ?_)); refine ⟨_, _, ⟨Try.sizeOf34, rfl, enA_new _⟩, rfl, ?_⟩; have C6 := tr_al (Obj.cells (enA e) 34) C5; have B6 := tr_al (Obj.cells (enA e) 34) B2r; have E6 := heap_alloc_new wr (Obj.cells (enA e) 34); have c6 := imA_c0 C6)
          | ((with_reducible refine wpList_ldB 57 _ ?_); refine ⟨rfl, _, ⟨_, _, _, _, _, Try.isAgg57, Try.sizeOf57, rfl, ‹_›, imA_all _ _ _⟩, ?_⟩)
          | ((with_reducible refine wpList_ldB 34 _ ?_); refine ⟨rfl, _, ⟨_, _, _, _, _, Try.isAgg34, Try.sizeOf34, rfl, ‹_›, enA_all _⟩, ?_⟩)
          | (go_at_call 25; refine (hA _ (SlP.of_own1 (owns_bl hown (blw wr (Obj.cells (enA e) 34))))).mono ?_; rintro en w3 ⟨⟨a', c', rfl, hown'⟩, hb3⟩; have C7 := tr_bl hb3 C6; have B7 := tr_bl hb3 B6)
          | ((with_reducible refine wpList_stB 57 _ _ ?_); refine ⟨_, _, _, ⟨_, _, _, Try.sizeOf57, rfl, tr_al _ (heap_alloc_new _ _), imA_over _ _ _ _ _ 0 (.slice none 0 0) zeroT⟩, ?_⟩; intro w6 D8 g6; have D9 := tr_st g6 (heap_alloc2_new w3 _ _) (by omega))
          | ((with_reducible refine wpList_stB 51 _ _ ?_); refine ⟨_, _, _, ⟨_, _, _, Try.sizeOf51, rfl, D9, rpA_over _ zeroR⟩, ?_⟩; intro w7 E4 g7; have E3 := tr_st g7 D8 (by omega); have hb37 := blTwoJ g6 g7; have C8 := tr_bl hb37 C7; have B8 := tr_bl hb37 B7; have hown7 := owns_bl hown' hb37)
          | ((first | (with_reducible refine wpList_stB 57 _ _ ?_) | (with_reducible refine wp_stB 57 _ _ ?_)); refine ⟨_, _, _, ⟨_, _, _, Try.sizeOf57, rfl, ‹_›, imA_over _ _ _ _ _ m.idx (.slice a m.st.length c) m.tb⟩, ?_⟩; intro w9 F5 g9))
        have hstep := stepJ_ok HF.out (show (applyP m (m.idx + 1) e).2.2 = 0 by rw [HAP.out])
        rw [HAP.out] at hstep
        have hidx : o1.idx = m.idx + 1 := (stepJ_may hstep).2
        have hitn : itJ f (n + 1) = some o1 := by
          show (itJ f n).bind (stepJ f) = some o1
          rw [hit.out]
          exact hstep
        have hw37 : (wr.alloc (Obj.cells (enA e) 34)).heap.size ≤ w7.heap.size := Nat.le_trans hb3.size hb37.size
        have hb27 : Below M w2 w7 := (hbr.trans ((blw wr (Obj.cells (enA e) 34)).mono (Nat.le_of_lt hsr))).trans ((hb3.mono (by omega)).trans (hb37.mono (by have := hb3.size; omega)))
        have hb29 := bl_st hb27 g9 (by omega) (Nat.le_refl _)
        have hown9 := owns_mono (owns_ne hown7 g9 C8 (by decide)) (show M ≤ (wr.alloc (Obj.cells (enA e) 34)).heap.size by omega)
        have c9 := imA_c0 F5
        refine ⟨?_, ?measure⟩
        (repeat apply Exists.intro)
        refine ⟨?rel, rfl⟩
        case rel => exact ⟨n + 1, o1, a', c', Lib.hid hitn, F5, hown9, hb29⟩
        case measure =>
          rw [c9, c0]
          show 1099511627777 - o1.idx.toNat < 1099511627777 - m.idx.toNat
          omega
      · have h3b : (o3 != 0) = true := bne_iff_ne.2 h3
        go_wp2_with (first
          | ((first | (with_reducible refine wpList_stNew 34 _ _ ?_) | (with_reducible refine wp_stNew 34 _ _ ?_)); refine ⟨_, _, ⟨Try.sizeOf34, rfl, enA_new _⟩, rfl, ?_⟩; have C6 := tr_al (Obj.cells (enA e) 34) C5; have B6 := tr_al (Obj.cells (enA e) 34) B2r; have E6 := heap_alloc_new wr (Obj.cells (enA e) 34); have c6 := imA_c0 C6)
          | ((with_reducible refine wpList_ldB 57 _ ?_); refine ⟨rfl, _, ⟨_, _, _, _, _, Try.isAgg57, Try.sizeOf57, rfl, ‹_›, imA_all _ _ _⟩, ?_⟩)
          | ((with_reducible refine wpList_ldB 34 _ ?_); refine ⟨rfl, _, ⟨_, _, _, _, _, Try.isAgg34, Try.sizeOf34, rfl, ‹_›, enA_all _⟩, ?_⟩)
          | (go_at_call 25; refine (hA _ (SlP.of_own1 (owns_bl hown (blw wr (Obj.cells (enA e) 34))))).mono ?_; rintro en w3 ⟨⟨a', c', rfl, hown'⟩, hb3⟩; have C7 := tr_bl hb3 C6; have B7 := tr_bl hb3 B6)
          | ((with_reducible refine wpList_stB 57 _ _ ?_); refine ⟨_, _, _, ⟨_, _, _, Try.sizeOf57, rfl, tr_al _ (heap_alloc_new _ _), imA_over _ _ _ _ _ 0 (.slice none 0 0) zeroT⟩, ?_⟩; intro w6 D8 g6; have D9 := tr_st g6 (heap_alloc2_new w3 _ _) (by omega))
          | ((with_reducible refine wpList_stB 51 _ _ ?_); refine ⟨_, _, _, ⟨_, _, _, Try.sizeOf51, rfl, D9, rpA_over _ zeroR⟩, ?_⟩; intro w7 E4 g7; have E3 := tr_st g7 D8 (by omega); have hb37 := blTwoJ g6 g7; have C8 := tr_bl hb37 C7; have B8 := tr_bl hb37 B7; have hown7 := owns_bl (owns_bl (owns_bl hown (blw wr (Obj.cells (enA e) 34))) hb3) hb37)
          | ((first | (with_reducible refine wpList_stB 57 _ _ ?_) | (with_reducible refine wp_stB 57 _ _ ?_)); refine ⟨_, _, _, ⟨_, _, _, Try.sizeOf57, rfl, ‹_›, imA_over _ _ _ _ _ 0 (.slice none 0 0) zeroT⟩, ?_⟩; intro w9 D4 g9))
        have hbw7 : Below N w w7 := hbE.trans ((hb3.mono (by omega)).trans (hb37.mono (by have := hb3.size; omega)))
        have hbz := bl_st hbw7 g9 (by have := hb3.size; have := hb37.size; omega) (Nat.le_refl _)
        have ho2 := owns_ne hown7 g9 B8 (by decide)
        refine bodyPost_ret (results_c1 rfl rfl (run_loadVar_all Try.isAgg57 Try.sizeOf57 D4 rfl)) rfl ⟨⟨n, m, a, c, rfl, hit.out, stepJ_bad HF.out (by rw [HAP.out]; exact h3), SlP.of_own1 ho2⟩, hbz⟩
end Go.Proofs.Ytkkoookmnnmiiaa

namespace Go.Proofs.Ytkkoookmnnmiiaa
open Go.RowKit

def rpEqB (r s : Rp) : Bool := r.err == s.err && r.found == s.found && r.val.toList == s.val.toList
def rwEq (r s : Rw) : Bool := r.seq == s.seq && rpEqB r.rep s.rep
def tbEq (t u : Tb) : Bool := rwEq t.r0 u.r0 && (rwEq t.r1 u.r1 && (rwEq t.r2 u.r2 && rwEq t.r3 u.r3))
def sameI (m n : Im) : Bool := m.idx == n.idx && decide (m.st = n.st) && tbEq m.tb n.tb

theorem rpEqB_iff {r s : Rp} : rpEqB r s = true ↔ r = s := by
  obtain ⟨a, b, c⟩ := r
  obtain ⟨a', b', c'⟩ := s
  unfold rpEqB
  simp only [Bool.and_eq_true, beq_iff_eq, Rp.mk.injEq]
  constructor
  · rintro ⟨⟨h1, h2⟩, h3⟩
    exact ⟨h1, h2, tx_ext h3⟩
  · rintro ⟨h1, h2, h3⟩
    exact ⟨⟨h1, h2⟩, by rw [h3]⟩
theorem rwEq_iff {r s : Rw} : rwEq r s = true ↔ r = s := by
  obtain ⟨a, b⟩ := r
  obtain ⟨a', b'⟩ := s
  unfold rwEq
  simp only [Bool.and_eq_true, beq_iff_eq, rpEqB_iff, Rw.mk.injEq]
theorem tbEq_iff {t u : Tb} : tbEq t u = true ↔ t = u := by
  obtain ⟨a, b, c, d⟩ := t
  obtain ⟨a', b', c', d'⟩ := u
  unfold tbEq
  simp only [Bool.and_eq_true, rwEq_iff, Tb.mk.injEq]
theorem sameI_iff {m n : Im} : sameI m n = true ↔ m = n := by
  obtain ⟨a, b, c⟩ := m
  obtain ⟨a', b', c'⟩ := n
  unfold sameI
  simp only [Bool.and_eq_true, beq_iff_eq, decide_eq_true_eq, tbEq_iff, Im.mk.injEq, and_assoc]
theorem sameI_refl (m : Im) : sameI m m = true := sameI_iff.2 rfl

theorem eqReplyG (d : Nat) (e e' : Int) (f f' : Bool) (v v' : Tx) (w : World) : (Op.equalIn (d + 2) 51 (.agg #[.int .i64 e, .bool f, .string v]) (.agg #[.int .i64 e', .bool f', .string v'])).run Try.prog w = .ok (e == e' && f == f' && v.toList == v'.toList) w := by
  have u3 := Try.underlying9
  have a3 := Try.isAgg9
  have z3 := Try.sizeOf9
  have u4 := Try.underlying4
  have a4 := Try.isAgg4
  have z4 := Try.sizeOf4
  have u5 := Try.underlying49
  have a5 := Try.isAgg49
  have z5 := Try.sizeOf49
  have hS : Try.prog.underlying 51 = some (.struct (Try.prog.fieldsOf 51)) := by kernel_rfl
  rw [show (d + 2 : Nat) = (d + 1) + 1 from rfl, run_equalIn_agg w (d + 1) 51 _ _ hS (by kernel_rfl)]
  simp only [Program.fieldsOf, Try.underlying51]
  go_simp
  cases h1 : (e == e') <;> cases h2 : (f == f') <;> cases h3 : (v.toList == v'.toList) <;> simp_all
theorem eqRowG (d : Nat) (s e s' e' : Int) (f f' : Bool) (v v' : Tx) (w : World) : (Op.equalIn (d + 3) 53 (.agg #[.int .i64 s, .int .i64 e, .bool f, .string v]) (.agg #[.int .i64 s', .int .i64 e', .bool f', .string v'])).run Try.prog w = .ok (s == s' && (e == e' && f == f' && v.toList == v'.toList)) w := by
  have u3 := Try.underlying3
  have a3 := Try.isAgg3
  have z3 := Try.sizeOf3
  have a4 := Try.isAgg51
  have z4 := Try.sizeOf51
  have hR := eqReplyG d e e' f f' v v'
  have hS : Try.prog.underlying 53 = some (.struct (Try.prog.fieldsOf 53)) := by kernel_rfl
  rw [show (d + 3 : Nat) = (d + 2) + 1 from rfl, run_equalIn_agg w (d + 2) 53 _ _ hS (by kernel_rfl)]
  simp only [Program.fieldsOf, Try.underlying53]
  go_simp
  cases h1 : (s == s') <;> cases h2 : (e == e') <;> cases h3 : (f == f') <;> cases h4 : (v.toList == v'.toList) <;> simp_all
@[go_sem] theorem eqRpA (r s : Rp) (w : World) : (Op.equalIn 10000 51 (.agg (rpA r)) (.agg (rpA s))).run Try.prog w = .ok (rpEqB r s) w := eqReplyG 9998 r.err s.err r.found s.found r.val s.val w
theorem eqRowGA (d : Nat) (r s : Rw) (w : World) : (Op.equalIn (d + 3) 53 (.agg (rowA r)) (.agg (rowA s))).run Try.prog w = .ok (rwEq r s) w := eqRowG d r.seq r.rep.err s.seq s.rep.err r.rep.found s.rep.found r.rep.val s.rep.val w
@[go_sem] theorem eqRowA (r s : Rw) (w : World) : (Op.equalIn 10000 53 (.agg (rowA r)) (.agg (rowA s))).run Try.prog w = .ok (rwEq r s) w := eqRowGA 9997 r s w
theorem part_row (t : Tb) {c : Nat} (h : c < 4) (w : World) : (part 53 (tbA t) (c * 4)).run Try.prog w = .ok (.agg (rowA (t.at c))) w := by
  have ha := Try.isAgg53
  have hs := Try.sizeOf53
  rcases four_cases h with rfl | rfl | rfl | rfl
  all_goals
    simp [part, ha, hs, tbA]
    rfl
theorem eqItems_rows (t u : Tb) (w : World) : ∀ (l : List Nat), (∀ c ∈ l, c < 4) → (Op.eqItems 9999 53 4 (tbA t) (tbA u) l).run Try.prog w = .ok (l.all fun c => rwEq (t.at c) (u.at c)) w
  | [], _ => by simp [Op.eqItems]
  | c :: l, h => by
    have hc := h c (by simp)
    have ih := eqItems_rows t u w l (fun x hx => h x (by simp [hx]))
    have q : (Op.equalIn 9999 53 (.agg (rowA (t.at c))) (.agg (rowA (u.at c)))).run Try.prog w = .ok (rwEq (t.at c) (u.at c)) w := eqRowGA 9996 _ _ w
    simp only [Op.eqItems, Sem.run_bind, part_row t hc, part_row u hc, Result.andThen_ok, q, List.all_cons]
    cases rwEq (t.at c) (u.at c)
    · simp
    · simpa using ih
@[go_sem] theorem eqTbA (t u : Tb) (w : World) : (Op.equalIn 10000 55 (.agg (tbA t)) (.agg (tbA u))).run Try.prog w = .ok (tbEq t u) w := by
  obtain ⟨i, hi⟩ : ∃ i, Try.prog.info? 53 = some i := Option.isSome_iff_exists.1 (by kernel_rfl)
  have h := run_equalIn_array w 9999 (tbA t) (tbA u) Try.underlying55 hi
  rw [show Try.prog.cellsOf 53 = 4 by kernel_rfl, eqItems_rows t u w _ (by simp)] at h
  refine h.trans ?_
  have e : ((List.range 4).all fun c => rwEq (t.at c) (u.at c)) = tbEq t u := by simp [List.range_succ, tbEq, Tb.at]
  rw [e]

set_option maxRecDepth 100000 in
set_option maxHeartbeats 4000000 in
theorem isame_any (m n : Im) (a b : Option Addr) (c d : Nat) (w : World) (ha : Row w a (prs m.st)) (hb : Row w b (prs n.st)) (hl : m.st.length ≤ 1000) (hl2 : n.st.length ≤ 1000) (r : Bool) (hr : sameI m n = r) :
    Calls Try.prog 26 #[.agg (imA m.idx (.slice a m.st.length c) m.tb), .agg (imA n.idx (.slice b n.st.length d) n.tb)] w fun e w' => e = .returned (.bool r) ∧ Below w.heap.size w w' := by
  have hb0 : Below w.heap.size w ((w.alloc (Obj.cells (imA m.idx (.slice a m.st.length c) m.tb) 57)).alloc (Obj.cells (imA n.idx (.slice b n.st.length d) n.tb) 57)) := ((Below.refl _ _).alloc (Nat.le_refl _) _).alloc (by simp) _
  have B2 := tr_al (Obj.cells (imA n.idx (.slice b n.st.length d) n.tb) 57) (heap_alloc_new w (Obj.cells (imA m.idx (.slice a m.st.length c) m.tb) 57))
  have B3 := heap_alloc2_new w (Obj.cells (imA m.idx (.slice a m.st.length c) m.tb) 57) (Obj.cells (imA n.idx (.slice b n.st.length d) n.tb) 57)
  have ra := Lib.hid (ha.below0 hb0)
  have rb := Lib.hid (hb.below0 hb0)
  have HR := Lib.hid hr
  clear hr
  go_enter Try.func26, Try.ntmps26
  refine wp_seq_k (fun K hK => ?_)
  have HK := Lib.hid hK
  clear hK
  go_wp2
  refine HK.out _ _ ?_
  clear HK
  change Code.wp _ _ _ _ ((w.alloc (Obj.cells (imA m.idx (.slice a m.st.length c) m.tb) 57)).alloc (Obj.cells (imA n.idx (.slice b n.st.length d) n.tb) 57))
  have hsz := hb0.size
  generalize (w.alloc (Obj.cells (imA m.idx (.slice a m.st.length c) m.tb) 57)).alloc (Obj.cells (imA n.idx (.slice b n.st.length d) n.tb) 57) = w0 at *
  have c0 := imA_c0 B2
  have c1 := imA_c1 B2
  have d0 := imA_c0 B3
  have d1 := imA_c1 B3
  unfold sameI at HR
  cases h1 : (m.idx == n.idx)
  · obtain rfl : r = false := by rw [← HR.out, h1]; rfl
    go_wp2
    go_ret
    exact ⟨rfl, hb0⟩
  · obtain ⟨z, hz⟩ : ∃ z, decide (m.st = n.st) = z := ⟨_, rfl⟩
    have HZ := Lib.hid hz
    cases z
    · obtain rfl : r = false := by rw [← HR.out, hz]; simp
      clear hz
      go_wp2_with (go_at_call 44; refine (psame_any _ _ _ _ _ _ _ ra.out rb.out hl hl2 _ HZ.out).mono ?_; rintro e w1 ⟨rfl, q, rfl⟩)
      go_ret
      exact ⟨rfl, hb0.trans (below_drewN (Below.refl _ _) q |>.mono hsz)⟩
    · have hq : tbEq m.tb n.tb = r := by rw [← HR.out, h1, hz]; simp
      have HQ := Lib.hid hq
      clear hz hq
      go_wp2_with (first
        | (go_at_call 44; refine (psame_any _ _ _ _ _ _ _ ra.out rb.out hl hl2 _ HZ.out).mono ?_; rintro e w1 ⟨rfl, q, rfl⟩)
        | ((with_reducible refine wpList_ldB 55 _ ?_); refine ⟨rfl, _, ⟨_, _, _, _, _, Try.isAgg55, Try.sizeOf55, rfl, ‹_›, imA_tb m.idx _ _⟩, ?_⟩)
        | ((with_reducible refine wpList_ldB 55 _ ?_); refine ⟨rfl, _, ⟨_, _, _, _, _, Try.isAgg55, Try.sizeOf55, rfl, ‹_›, imA_tb n.idx _ _⟩, ?_⟩))
      go_ret
      exact ⟨ret_bool HQ.out, hb0.trans (below_drewN (Below.refl _ _) q |>.mono hsz)⟩

def SameTb (t u : Tb) (k : Nat) : Prop := ∀ j : Nat, j < k → rwEq (t.at j) (u.at j) = true
theorem sameTb_all {t u : Tb} (h : SameTb t u 4) : tbEq t u = true := by
  have h0 := h 0 (by omega)
  have h1 := h 1 (by omega)
  have h2 := h 2 (by omega)
  have h3 := h 3 (by omega)
  simp only [Tb.at] at h0 h1 h2 h3
  unfold tbEq
  simp at h0 h1 h2 h3
  rw [h0, h1, h2, h3]
  rfl
theorem sameTb_no {t u : Tb} {k : Nat} (h : rwEq (t.at k) (u.at k) = false) : tbEq t u = false := by
  cases hz : tbEq t u with
  | false => rfl
  | true =>
    have := tbEq_iff.1 hz
    subst this
    rw [rwEq_iff.2 rfl] at h
    cases h
theorem sameTb_succ {t u : Tb} {k : Nat} (h : SameTb t u k) (hk : rwEq (t.at k) (u.at k) = true) : SameTb t u (k + 1) := by
  intro j hj
  by_cases e : j = k
  · subst e; exact hk
  · exact h j (by omega)

set_option maxRecDepth 100000 in
set_option maxHeartbeats 4000000 in
theorem risame_any (m n : Im) (a b : Option Addr) (c d : Nat) (w : World) (ha : Row w a (prs m.st)) (hb : Row w b (prs n.st)) (hl : m.st.length ≤ 1000) (hl2 : n.st.length ≤ 1000) (r : Bool) (hr : sameI m n = r) :
    Calls Try.prog 22 #[.agg (imA m.idx (.slice a m.st.length c) m.tb), .agg (imA n.idx (.slice b n.st.length d) n.tb)] w fun e w' => e = .returned (.bool r) ∧ Below w.heap.size w w' := by
  have hb0 : Below w.heap.size w ((w.alloc (Obj.cells (imA m.idx (.slice a m.st.length c) m.tb) 57)).alloc (Obj.cells (imA n.idx (.slice b n.st.length d) n.tb) 57)) := ((Below.refl _ _).alloc (Nat.le_refl _) _).alloc (by simp) _
  have B2 := tr_al (Obj.cells (imA n.idx (.slice b n.st.length d) n.tb) 57) (heap_alloc_new w (Obj.cells (imA m.idx (.slice a m.st.length c) m.tb) 57))
  have B3 := heap_alloc2_new w (Obj.cells (imA m.idx (.slice a m.st.length c) m.tb) 57) (Obj.cells (imA n.idx (.slice b n.st.length d) n.tb) 57)
  have ra := Lib.hid (ha.below0 hb0)
  have rb := Lib.hid (hb.below0 hb0)
  have HR := Lib.hid hr
  clear hr
  go_enter Try.func22, Try.ntmps22
  refine wp_seq_k (fun K hK => ?_)
  have HK := Lib.hid hK
  clear hK
  go_wp2
  refine HK.out _ _ ?_
  clear HK
  change Code.wp _ _ _ _ ((w.alloc (Obj.cells (imA m.idx (.slice a m.st.length c) m.tb) 57)).alloc (Obj.cells (imA n.idx (.slice b n.st.length d) n.tb) 57))
  have hsz := hb0.size
  generalize (w.alloc (Obj.cells (imA m.idx (.slice a m.st.length c) m.tb) 57)).alloc (Obj.cells (imA n.idx (.slice b n.st.length d) n.tb) 57) = w0 at *
  have c0 := imA_c0 B2
  have c1 := imA_c1 B2
  have d0 := imA_c0 B3
  have d1 := imA_c1 B3
  unfold sameI at HR
  cases h1 : (m.idx == n.idx)
  · obtain rfl : r = false := by rw [← HR.out, h1]; rfl
    have h1b : (m.idx != n.idx) = true := by rw [bne, h1]; rfl
    go_wp2
    go_ret
    exact ⟨rfl, hb0⟩
  · have h1b : (m.idx != n.idx) = false := by rw [bne, h1]; rfl
    obtain ⟨z, hz⟩ : ∃ z, decide (m.st = n.st) = z := ⟨_, rfl⟩
    have HZ := Lib.hid hz
    cases z
    · obtain rfl : r = false := by rw [← HR.out, hz]; simp
      clear hz
      go_wp2_with (go_at_call 37; refine (rsame_any _ _ _ _ _ _ _ ra.out rb.out hl hl2 _ HZ.out).mono ?_; rintro e w1 ⟨rfl, q, rfl⟩)
      go_ret
      exact ⟨rfl, hb0.trans (below_drewN (Below.refl _ _) q |>.mono hsz)⟩
    · have hq : tbEq m.tb n.tb = r := by rw [← HR.out, h1, hz]; simp
      have HQ := Lib.hid hq
      clear hz hq h1
      refine wp_seq_k (fun K hK => ?_)
      have HK := Lib.hid hK
      clear hK
      go_wp2_with (go_at_call 37; refine (rsame_any _ _ _ _ _ _ _ ra.out rb.out hl hl2 _ HZ.out).mono ?_; rintro e w1 ⟨rfl, q, rfl⟩)
      refine HK.out _ _ ?_
      clear HK
      have hbq : Below w0.heap.size w0 (w0.drewN q) := below_drewN (Below.refl _ _) q
      go_wp2_with fail
      go_loopw [5] (fun i wr => ∃ k : Nat, k ≤ 4 ∧ i = .int .i64 k ∧ SameTb m.tb n.tb k ∧ Below w0.heap.size w0 wr) (fun i _ => 4 - (intOf i).toNat)
      case atStart => exact ⟨0, by omega, rfl, fun j hj => by omega, hbq⟩
      case round =>
        obtain ⟨k, hk, rfl, hs, hbr⟩ := hrel
        have E2 := tr_bl hbr B2
        have E3 := tr_bl hbr B3
        by_cases hlt : k < 4
        · have hk0 : (0 : Int) ≤ k := by omega
          have hk1 : (k : Int) < 4 := by omega
          obtain ⟨z, hz⟩ : ∃ z, rwEq (m.tb.at k) (n.tb.at k) = z := ⟨_, rfl⟩
          have HZ := Lib.hid hz
          clear hz
          go_wp2_with fail
          refine wp_region_cls (C := fun w' => Below wr.heap.size wr w') (by kernel_rfl) (by kernel_rfl) (Below.refl _ _).drew ?_
          refine wpQuiet_val (by rfl) ?_ ?_ ?_
          rotate_left
          · intro wS hSw
            go_simp
            (try with_reducible rfl)
          (try simp only [Act.put])
          (try simp only [List.setIfInBounds_toArray])
          (try simp only [List.set_cons_succ])
          (try simp only [List.set_cons_zero])
          refine wpQuiet_val (by rfl) ?_ ?_ ?_
          rotate_left
          · intro wS hSw
            go_simp
            (try with_reducible rfl)
          (try simp only [Act.put])
          (try simp only [List.setIfInBounds_toArray])
          (try simp only [List.set_cons_succ])
          (try simp only [List.set_cons_zero])
          refine wpQuiet_val (by rfl) ?_ ?_ ?_
          rotate_left
          · intro wS hSw
            go_simp
            (try with_reducible rfl)
          (try simp only [Act.put])
          (try simp only [List.setIfInBounds_toArray])
          (try simp only [List.set_cons_succ])
          (try simp only [List.set_cons_zero])
          refine wpQuiet_val (by rfl) (.agg (rowA (m.tb.at k))) (fun wS hSw => exec_ldB 53 _ ⟨_, _, _, _, _, Try.isAgg53, Try.sizeOf53, rfl, tr_bl hSw E2, imA_row _ _ _ hlt⟩) ?_
          (try simp only [Act.put])
          (try simp only [List.setIfInBounds_toArray])
          (try simp only [List.set_cons_succ])
          (try simp only [List.set_cons_zero])
          refine wpQuiet_val (by rfl) ?_ ?_ ?_
          rotate_left
          · intro wS hSw
            go_simp
            (try with_reducible rfl)
          (try simp only [Act.put])
          (try simp only [List.setIfInBounds_toArray])
          (try simp only [List.set_cons_succ])
          (try simp only [List.set_cons_zero])
          refine wpQuiet_val (by rfl) ?_ ?_ ?_
          rotate_left
          · intro wS hSw
            go_simp
            (try with_reducible rfl)
          (try simp only [Act.put])
          (try simp only [List.setIfInBounds_toArray])
          (try simp only [List.set_cons_succ])
          (try simp only [List.set_cons_zero])
          refine wpQuiet_val (by rfl) ?_ ?_ ?_
          rotate_left
          · intro wS hSw
            go_simp
            (try with_reducible rfl)
          (try simp only [Act.put])
          (try simp only [List.setIfInBounds_toArray])
          (try simp only [List.set_cons_succ])
          (try simp only [List.set_cons_zero])
          refine wpQuiet_val (by rfl) (.agg (rowA (n.tb.at k))) (fun wS hSw => exec_ldB 53 _ ⟨_, _, _, _, _, Try.isAgg53, Try.sizeOf53, rfl, tr_bl hSw E3, imA_row _ _ _ hlt⟩) ?_
          (try simp only [Act.put])
          (try simp only [List.setIfInBounds_toArray])
          (try simp only [List.set_cons_succ])
          (try simp only [List.set_cons_zero])
          refine wpQuiet_val (by rfl) (.bool (!z)) (fun wS hSw => ?_) ?_
          · rw [← HZ.out]; unfold rowA rwEq rpEqB; clear hs HZ HR HQ; go_simp; (repeat' split) <;> simp_all
          (try simp only [Act.put])
          (try simp only [List.setIfInBounds_toArray])
          (try simp only [List.set_cons_succ])
          (try simp only [List.set_cons_zero])
          refine wpQuiet_nil ?_
          intro wE hE
          cases z
          · go_wp2
            go_ret
            exact ⟨ret_bool (by rw [← HQ.out, sameTb_no HZ.out]), hb0.trans ((step_b hbr hE).mono hsz)⟩
          · go_wp2
            go_roundw
            case rel => exact ⟨k + 1, by omega, by go_num, sameTb_succ hs HZ.out, step_b hbr hE⟩
            case measure => simp [intOf]; omega
        · have hall := sameTb_all (by rw [show (4 : Nat) = k by omega]; exact hs)
          obtain rfl : r = true := by rw [← HQ.out]; exact hall
          clear hall
          go_wp2
          go_ret
          exact ⟨rfl, hb0.trans (hbr.mono hsz)⟩
end Go.Proofs.Ytkkoookmnnmiiaa

