/- Texts that the claim leans on, part 11: D40, D41, D42, D43, D44, D45, D46, D47. -/
import Derived.Test.YthfolocjkpiljaaGreatDoorZ1
import Derived.Test.YthfolocjkpiljaaGreatDoorZ2
import Derived.Test.YthfolocjkpiljaaGreatDoorZ3
import Derived.Test.YthfolocjkpiljaaGreatDoorZ4
import Derived.Test.YthfolocjkpiljaaGreatDoorZ5
import Derived.Test.YthfolocjkpiljaaGreatDoorZ6
import Derived.Test.YthfolocjkpiljaaGreatDoorZ7
import Derived.Test.YthfolocjkpiljaaGreatDoorZ8
import Derived.Test.YthfolocjkpiljaaGreatDoorZ9
import Derived.Test.YthfolocjkpiljaaGreatDoorZ10
import Derived.Test.YthfolocjkpiljaaGreatDoorRows
import Derived.WalkKit
import Derived.WalkSpells
import Derived.WalkLawsBesides
import Derived.Handy
import Derived.Deep.QuietTactic
import Derived.BigQuiet
import Derived.Deep.DeepCutAuto
import Derived.Lib.Hide
import Derived.RegionTactic
import Derived.ChangeAlike
import Derived.Laws.ResultCell
import Derived.Outline
import Derived.Shelf.Abstract
import Derived.Shelf.RegionOpen
import Derived.OwnWalkIn
import Derived.TacticsInMore
import Derived.LoopNIn
import Derived.LoopIn
import Derived.Maps.AppendAt
import Derived.Lib.SliceRun
import Derived.Laws.IdiomStrings
import Derived.Laws.BytesArg
import Derived.IntWalk
import Derived.Carry
import Derived.Maps.Own
import Derived.Maps.Keyed
import Derived.RangeFuncNested
import Derived.RangeFuncBound
import Derived.RangeFuncCalls
import Derived.RangeFuncLeaves
import Derived.RangeFuncBox
import Derived.RangeFuncRecord
import Derived.OrdersIn
import Derived.OrdersHeld
import Derived.Laws.MakeOwn
import Derived.Laws.BitsAllLaws
import Derived.Great.BuildSlice
import Derived.Great.FillDense
import Derived.Laws.Rows
import Derived.Deep.Quiet
import Derived.Deep.RegionHeld3
import Derived.ProofKit
import Derived.OpenShut
import Derived.Laws.CopyOwn
import Derived.Laws.CopyRow
import Derived.Laws.NewBlocks
import Derived.Deep.RegionLaw
namespace Go.Proofs.YthfolocjkpiljaaGreatDoor
open Go.RowKit

def sameC (c x : Cp) : Bool := decide (c.st = x.st) && (decide (c.tg.idx = x.tg.idx) && decide (c.body = x.body))
set_option maxRecDepth 100000 in
theorem same_any (c x : Cp) (a b : Option Addr) (k m : Nat) (w : World) (hc : SlB w a k c.body) (hx : SlB w b m x.body) : Calls Tryz.prog 112 #[.agg (coA c.st c.tg (.slice a c.body.length k)), .agg (coA x.st x.tg (.slice b x.body.length m))] w fun e w' => e = .returned (.bool (sameC c x)) ∧ Below w.heap.size w w' := by
  unfold sameC
  by_cases h1 : c.st = x.st
  case neg =>
    rw [decide_eq_false h1, Bool.false_and]
    have e1 : ((c.st : Int) == (x.st : Int)) = false := by rw [beq_eq_false_iff_ne]; omega
    clear h1
    go_enter Tryz.func112, Tryz.ntmps112
    refine wp_seq_k (fun K hK => ?_)
    have HK := Lib.hid hK
    clear hK
    go_wp2
    have B1 := tr_al (Obj.cells (coA x.st x.tg (.slice b x.body.length m)) 197) (heap_alloc_new w (Obj.cells (coA c.st c.tg (.slice a c.body.length k)) 197))
    have B2 := heap_alloc_new (w.alloc (Obj.cells (coA c.st c.tg (.slice a c.body.length k)) 197)) (Obj.cells (coA x.st x.tg (.slice b x.body.length m)) 197)
    rw [show (w.alloc (Obj.cells (coA c.st c.tg (.slice a c.body.length k)) 197)).heap.size = w.heap.size + 1 by simp] at B2
    have hb := (blw w (Obj.cells (coA c.st c.tg (.slice a c.body.length k)) 197)).alloc (by simp) (Obj.cells (coA x.st x.tg (.slice b x.body.length m)) 197)
    change K _ ((w.alloc (Obj.cells (coA c.st c.tg (.slice a c.body.length k)) 197)).alloc (Obj.cells (coA x.st x.tg (.slice b x.body.length m)) 197))
    generalize (w.alloc (Obj.cells (coA c.st c.tg (.slice a c.body.length k)) 197)).alloc (Obj.cells (coA x.st x.tg (.slice b x.body.length m)) 197) = w1 at *
    have a0 := coA_0 B1
    have a4 := coA_4 B1
    have a6 := coA_6 B1
    have b0 := coA_0 B2
    have b4 := coA_4 B2
    have b6 := coA_6 B2
    refine HK.out _ _ ?_
    clear HK B1 B2
    go_wp2
    go_ret
    exact ⟨rfl, hb⟩
  case pos =>
    rw [decide_eq_true h1, Bool.true_and]
    have e1 : ((c.st : Int) == (x.st : Int)) = true := by rw [beq_iff_eq]; omega
    clear h1
    by_cases h2 : c.tg.idx = x.tg.idx
    case neg =>
      rw [decide_eq_false h2, Bool.false_and]
      have e2 : (c.tg.idx == x.tg.idx) = false := by rw [beq_eq_false_iff_ne]; exact h2
      clear h2
      go_enter Tryz.func112, Tryz.ntmps112
      refine wp_seq_k (fun K hK => ?_)
      have HK := Lib.hid hK
      clear hK
      go_wp2
      have B1 := tr_al (Obj.cells (coA x.st x.tg (.slice b x.body.length m)) 197) (heap_alloc_new w (Obj.cells (coA c.st c.tg (.slice a c.body.length k)) 197))
      have B2 := heap_alloc_new (w.alloc (Obj.cells (coA c.st c.tg (.slice a c.body.length k)) 197)) (Obj.cells (coA x.st x.tg (.slice b x.body.length m)) 197)
      rw [show (w.alloc (Obj.cells (coA c.st c.tg (.slice a c.body.length k)) 197)).heap.size = w.heap.size + 1 by simp] at B2
      have hb := (blw w (Obj.cells (coA c.st c.tg (.slice a c.body.length k)) 197)).alloc (by simp) (Obj.cells (coA x.st x.tg (.slice b x.body.length m)) 197)
      change K _ ((w.alloc (Obj.cells (coA c.st c.tg (.slice a c.body.length k)) 197)).alloc (Obj.cells (coA x.st x.tg (.slice b x.body.length m)) 197))
      generalize (w.alloc (Obj.cells (coA c.st c.tg (.slice a c.body.length k)) 197)).alloc (Obj.cells (coA x.st x.tg (.slice b x.body.length m)) 197) = w1 at *
      have a0 := coA_0 B1
      have a4 := coA_4 B1
      have a6 := coA_6 B1
      have b0 := coA_0 B2
      have b4 := coA_4 B2
      have b6 := coA_6 B2
      refine HK.out _ _ ?_
      clear HK B1 B2
      go_wp2
      go_ret
      exact ⟨rfl, hb⟩
    case pos =>
      rw [decide_eq_true h2, Bool.true_and]
      have e2 : (c.tg.idx == x.tg.idx) = true := by rw [beq_iff_eq]; exact h2
      clear h2
      obtain ⟨r, hr⟩ : ∃ r, decide (c.body = x.body) = r := ⟨_, rfl⟩
      rw [hr]
      have HR := Lib.hid hr
      clear hr
      go_enter Tryz.func112, Tryz.ntmps112
      refine wp_seq_k (fun K hK => ?_)
      have HK := Lib.hid hK
      clear hK
      go_wp2
      have B1 := tr_al (Obj.cells (coA x.st x.tg (.slice b x.body.length m)) 197) (heap_alloc_new w (Obj.cells (coA c.st c.tg (.slice a c.body.length k)) 197))
      have B2 := heap_alloc_new (w.alloc (Obj.cells (coA c.st c.tg (.slice a c.body.length k)) 197)) (Obj.cells (coA x.st x.tg (.slice b x.body.length m)) 197)
      rw [show (w.alloc (Obj.cells (coA c.st c.tg (.slice a c.body.length k)) 197)).heap.size = w.heap.size + 1 by simp] at B2
      have hb := (blw w (Obj.cells (coA c.st c.tg (.slice a c.body.length k)) 197)).alloc (by simp) (Obj.cells (coA x.st x.tg (.slice b x.body.length m)) 197)
      change K _ ((w.alloc (Obj.cells (coA c.st c.tg (.slice a c.body.length k)) 197)).alloc (Obj.cells (coA x.st x.tg (.slice b x.body.length m)) 197))
      generalize (w.alloc (Obj.cells (coA c.st c.tg (.slice a c.body.length k)) 197)).alloc (Obj.cells (coA x.st x.tg (.slice b x.body.length m)) 197) = w1 at *
      have a0 := coA_0 B1
      have a4 := coA_4 B1
      have a6 := coA_6 B1
      have b0 := coA_0 B2
      have b4 := coA_4 B2
      have b6 := coA_6 B2
      refine HK.out _ _ ?_
      clear HK B1 B2
      have heq := equal_any a b k m c.body x.body w1 (hc.below hb).row (hx.below hb).row
      rw [HR.out] at heq
      go_wp2_with (go_at_call 193; refine heq.mono ?_; rintro e w2 ⟨rfl, rfl⟩)
      go_ret
      exact ⟨rfl, hb⟩

/-- The cell's box: its disk, its replica and region, both copies. -/
def ceA (g : Nat) (rep reg : Int) (s0 : Nat) (t0 : Tg) (v0 : Value) (s1 : Nat) (t1 : Tg) (v1 : Value) : Array Value :=
  #[.pointer (some ⟨g, 0, none⟩), .int .i64 rep, .int .i64 reg, .int .u8 (s0 : Int), .int .i64 t0.rep, .int .i64 t0.reg, .int .i64 t0.pla, .int .i64 t0.idx, .int .i64 t0.inc, v0,
    .int .u8 (s1 : Int), .int .i64 t1.rep, .int .i64 t1.reg, .int .i64 t1.pla, .int .i64 t1.idx, .int .i64 t1.inc, v1]
section
variable {w : World} {q g : Nat} {rep reg : Int} {s0 s1 : Nat} {t0 t1 : Tg} {v0 v1 : Value}
theorem ceA_0 (h : w.heap[q]? = some (.cells (ceA g rep reg s0 t0 v0 s1 t1 v1) 200 (0, 0))) : w.cell? ⟨q, 0, none⟩ = some (.pointer (some ⟨g, 0, none⟩)) := blk_cell h 0 _ rfl
theorem ceA_1 (h : w.heap[q]? = some (.cells (ceA g rep reg s0 t0 v0 s1 t1 v1) 200 (0, 0))) : w.cell? ⟨q, 1, none⟩ = some (.int .i64 rep) := blk_cell h 1 _ rfl
theorem ceA_2 (h : w.heap[q]? = some (.cells (ceA g rep reg s0 t0 v0 s1 t1 v1) 200 (0, 0))) : w.cell? ⟨q, 2, none⟩ = some (.int .i64 reg) := blk_cell h 2 _ rfl
theorem ceA_7 (h : w.heap[q]? = some (.cells (ceA g rep reg s0 t0 v0 s1 t1 v1) 200 (0, 0))) : w.cell? ⟨q, 7, none⟩ = some (.int .i64 t0.idx) := blk_cell h 7 _ rfl
theorem ceA_9 (h : w.heap[q]? = some (.cells (ceA g rep reg s0 t0 v0 s1 t1 v1) 200 (0, 0))) : w.cell? ⟨q, 9, none⟩ = some v0 := blk_cell h 9 _ rfl
theorem ceA_14 (h : w.heap[q]? = some (.cells (ceA g rep reg s0 t0 v0 s1 t1 v1) 200 (0, 0))) : w.cell? ⟨q, 14, none⟩ = some (.int .i64 t1.idx) := blk_cell h 14 _ rfl
theorem ceA_16 (h : w.heap[q]? = some (.cells (ceA g rep reg s0 t0 v0 s1 t1 v1) 200 (0, 0))) : w.cell? ⟨q, 16, none⟩ = some v1 := blk_cell h 16 _ rfl
end
theorem ceA_ld0 (g : Nat) (rep reg : Int) (s0 : Nat) (t0 : Tg) (v0 : Value) (s1 : Nat) (t1 : Tg) (v1 : Value) : 3 + 7 ≤ (ceA g rep reg s0 t0 v0 s1 t1 v1).size ∧ (ceA g rep reg s0 t0 v0 s1 t1 v1).extract 3 (3 + 7) = coA s0 t0 v0 := ⟨by show _ ≤ 17; omega, rfl⟩
theorem ceA_ld1 (g : Nat) (rep reg : Int) (s0 : Nat) (t0 : Tg) (v0 : Value) (s1 : Nat) (t1 : Tg) (v1 : Value) : 10 + 7 ≤ (ceA g rep reg s0 t0 v0 s1 t1 v1).size ∧ (ceA g rep reg s0 t0 v0 s1 t1 v1).extract 10 (10 + 7) = coA s1 t1 v1 := ⟨by show _ ≤ 17; omega, rfl⟩
/-- Both copies, one behind the other. -/
def cpA (s0 : Nat) (t0 : Tg) (v0 : Value) (s1 : Nat) (t1 : Tg) (v1 : Value) : Array Value :=
  #[.int .u8 (s0 : Int), .int .i64 t0.rep, .int .i64 t0.reg, .int .i64 t0.pla, .int .i64 t0.idx, .int .i64 t0.inc, v0,
    .int .u8 (s1 : Int), .int .i64 t1.rep, .int .i64 t1.reg, .int .i64 t1.pla, .int .i64 t1.idx, .int .i64 t1.inc, v1]
theorem ceA_ldp (g : Nat) (rep reg : Int) (s0 : Nat) (t0 : Tg) (v0 : Value) (s1 : Nat) (t1 : Tg) (v1 : Value) : 3 + 14 ≤ (ceA g rep reg s0 t0 v0 s1 t1 v1).size ∧ (ceA g rep reg s0 t0 v0 s1 t1 v1).extract 3 (3 + 14) = cpA s0 t0 v0 s1 t1 v1 := ⟨by show _ ≤ 17; omega, rfl⟩
section
variable {w : World} {q : Nat} {T : TypeId} {s0 s1 : Nat} {t0 t1 : Tg} {v0 v1 : Value}
theorem cpA_0 (h : w.heap[q]? = some (.cells (cpA s0 t0 v0 s1 t1 v1) T (0, 0))) : w.cell? ⟨q, 0, none⟩ = some (.int .u8 (s0 : Int)) := blk_cell h 0 _ rfl
theorem cpA_7 (h : w.heap[q]? = some (.cells (cpA s0 t0 v0 s1 t1 v1) T (0, 0))) : w.cell? ⟨q, 7, none⟩ = some (.int .u8 (s1 : Int)) := blk_cell h 7 _ rfl
end
end Go.Proofs.YthfolocjkpiljaaGreatDoor

namespace Go.Proofs.YthfolocjkpiljaaGreatDoor
open Go.RowKit

theorem cpA_new (s0 : Nat) (t0 : Tg) (a0 : Option Addr) (n0 k0 : Nat) (s1 : Nat) (t1 : Tg) (a1 : Option Addr) (n1 k1 : Nat) : (Value.agg (cpA s0 t0 (.slice a0 n0 k0) s1 t1 (.slice a1 n1 k1))).cells = cpA s0 t0 (.slice a0 n0 k0) s1 t1 (.slice a1 n1 k1) ∧ (cpA s0 t0 (.slice a0 n0 k0) s1 t1 (.slice a1 n1 k1)).size = 14 ∧ ∀ u ∈ (cpA s0 t0 (.slice a0 n0 k0) s1 t1 (.slice a1 n1 k1)).toList, u.oneCell' = true :=
  ⟨rfl, rfl, by simp [cpA, Value.oneCell']⟩
set_option maxRecDepth 100000 in
set_option maxHeartbeats 1000000 in
theorem loaded_any (q g : Nat) (rep reg : Int) (c0 c1 : Cp) (a0 a1 : Option Addr) (n0 k0 n1 k1 : Nat) (w : World) (hB : (w.heap[q]? = some (.cells (ceA g rep reg c0.st c0.tg (.slice a0 n0 k0) c1.st c1.tg (.slice a1 n1 k1)) 200 (0, 0)))) : Calls Tryz.prog 107 #[.pointer (some ⟨q, 0, none⟩)] w fun e w' => e = .returned (.tuple #[.int .i64 ((loadedC c0 c1).1 : Nat), .bool (loadedC c0 c1).2.1, .int .i64 (loadedC c0 c1).2.2]) ∧ Below w.heap.size w w' := by
  have hpk := pick_any c1 c0 (.slice a1 n1 k1) (.slice a0 n0 k0)
  unfold loadedC
  cases hr : overC c1 c0
  case true =>
    have h1 : ((c1.st : Int) == 1) = true := by have := over_good hr; rw [beq_iff_eq]; omega
    rw [hr] at hpk
    simp only [if_true] at hpk ⊢
    clear hr
    go_enter Tryz.func107, Tryz.ntmps107
    refine wp_seq_k (fun K hK => ?_)
    have HK := Lib.hid hK
    clear hK
    go_wp2
    refine HK.out _ _ ?_
    clear HK
    refine wp_seq_k (fun K hK => ?_)
    have HK := Lib.hid hK
    clear hK
    go_wp2_with fail
    have hbd := (Below.refl w.heap.size w).drew
    refine wp_region_held_drew (S := fun w' => w'.heap[q]? = some (.cells (ceA g rep reg c0.st c0.tg (.slice a0 n0 k0) c1.st c1.tg (.slice a1 n1 k1)) 200 (0, 0))) (by kernel_rfl) (tr_bl hbd hB) (fun hS0 => ?_)
    generalize w.drew = x0 at *
    refine wpAnyH_take (i := 0) (oi := ⟨_, _, _, _, _, _⟩) (v := ?_) rfl (by kernel_rfl) (by kernel_rfl) (by kernel_rfl) (fun _ _ _ h => h) (Or.inl ⟨by rfl, ?_⟩) (by assumption) ?_
    rotate_left
    · intro wS hSw
      go_simp; (try with_reducible rfl)
    (try simp only [Act.put])
    (try simp only [List.setIfInBounds_toArray])
    (try simp only [List.set_cons_succ])
    (try simp only [List.set_cons_zero])
    refine wpAnyH_take (i := 1) (oi := ⟨_, _, _, _, _, _⟩) (v := ?_) rfl (by kernel_rfl) (by kernel_rfl) (by kernel_rfl) (fun _ _ _ h => h) (Or.inl ⟨by rfl, ?_⟩) (by assumption) ?_
    rotate_left
    · intro wS hSw
      go_simp; (try with_reducible rfl)
    (try simp only [Act.put])
    (try simp only [List.setIfInBounds_toArray])
    (try simp only [List.set_cons_succ])
    (try simp only [List.set_cons_zero])
    refine wpAnyH_take (i := 2) (oi := ⟨_, _, _, _, _, _⟩) (v := ?_) rfl (by kernel_rfl) (by kernel_rfl) (by kernel_rfl) (fun _ _ _ h => h) (Or.inl ⟨by rfl, ?_⟩) (by assumption) ?_
    rotate_left
    · intro wS hSw
      go_simp; (try with_reducible rfl)
    (try simp only [Act.put])
    (try simp only [List.setIfInBounds_toArray])
    (try simp only [List.set_cons_succ])
    (try simp only [List.set_cons_zero])
    refine wpAnyH_take (i := 3) (oi := ⟨_, _, _, _, _, _⟩) (v := ?_) rfl (by kernel_rfl) (by kernel_rfl) (by kernel_rfl) (fun _ _ _ h => h) (Or.inl ⟨by rfl, ?_⟩) (by assumption) ?_
    rotate_left
    · intro wS hSw
      go_simp; (try with_reducible rfl)
    (try simp only [Act.put])
    (try simp only [List.setIfInBounds_toArray])
    (try simp only [List.set_cons_succ])
    (try simp only [List.set_cons_zero])
    refine wpAnyH_take (i := 4) (oi := ⟨_, _, _, _, _, _⟩) (v := .agg (coA c1.st c1.tg (.slice a1 n1 k1))) rfl (by kernel_rfl) (by kernel_rfl) (by kernel_rfl) (fun _ _ _ h => h) (Or.inl ⟨by rfl, fun wS hSw => ?_⟩) (by assumption) ?_
    · exact exec_ldB 197 _ ⟨_, _, _, _, _, Tryz.isAgg197, Tryz.sizeOf197, rfl, hSw, ceA_ld1 _ _ _ _ _ _ _ _ _⟩
    (try simp only [Act.put])
    (try simp only [List.setIfInBounds_toArray])
    (try simp only [List.set_cons_succ])
    (try simp only [List.set_cons_zero])
    refine wpAnyH_take (i := 5) (oi := ⟨_, _, _, _, _, _⟩) (v := ?_) rfl (by kernel_rfl) (by kernel_rfl) (by kernel_rfl) (fun _ _ _ h => h) (Or.inl ⟨by rfl, ?_⟩) (by assumption) ?_
    rotate_left
    · intro wS hSw
      go_simp; (try with_reducible rfl)
    (try simp only [Act.put])
    (try simp only [List.setIfInBounds_toArray])
    (try simp only [List.set_cons_succ])
    (try simp only [List.set_cons_zero])
    refine wpAnyH_take (i := 6) (oi := ⟨_, _, _, _, _, _⟩) (v := ?_) rfl (by kernel_rfl) (by kernel_rfl) (by kernel_rfl) (fun _ _ _ h => h) (Or.inl ⟨by rfl, ?_⟩) (by assumption) ?_
    rotate_left
    · intro wS hSw
      go_simp; (try with_reducible rfl)
    (try simp only [Act.put])
    (try simp only [List.setIfInBounds_toArray])
    (try simp only [List.set_cons_succ])
    (try simp only [List.set_cons_zero])
    refine wpAnyH_take (i := 7) (oi := ⟨_, _, _, _, _, _⟩) (v := ?_) rfl (by kernel_rfl) (by kernel_rfl) (by kernel_rfl) (fun _ _ _ h => h) (Or.inl ⟨by rfl, ?_⟩) (by assumption) ?_
    rotate_left
    · intro wS hSw
      go_simp; (try with_reducible rfl)
    (try simp only [Act.put])
    (try simp only [List.setIfInBounds_toArray])
    (try simp only [List.set_cons_succ])
    (try simp only [List.set_cons_zero])
    refine wpAnyH_take (i := 8) (oi := ⟨_, _, _, _, _, _⟩) (v := ?_) rfl (by kernel_rfl) (by kernel_rfl) (by kernel_rfl) (fun _ _ _ h => h) (Or.inl ⟨by rfl, ?_⟩) (by assumption) ?_
    rotate_left
    · intro wS hSw
      go_simp; (try with_reducible rfl)
    (try simp only [Act.put])
    (try simp only [List.setIfInBounds_toArray])
    (try simp only [List.set_cons_succ])
    (try simp only [List.set_cons_zero])
    refine wpAnyH_take (i := 9) (oi := ⟨_, _, _, _, _, _⟩) (v := ?_) rfl (by kernel_rfl) (by kernel_rfl) (by kernel_rfl) (fun _ _ _ h => h) (Or.inl ⟨by rfl, ?_⟩) (by assumption) ?_
    rotate_left
    · intro wS hSw
      go_simp; (try with_reducible rfl)
    (try simp only [Act.put])
    (try simp only [List.setIfInBounds_toArray])
    (try simp only [List.set_cons_succ])
    (try simp only [List.set_cons_zero])
    refine wpAnyH_take (i := 10) (oi := ⟨_, _, _, _, _, _⟩) (v := .agg (coA c0.st c0.tg (.slice a0 n0 k0))) rfl (by kernel_rfl) (by kernel_rfl) (by kernel_rfl) (fun _ _ _ h => h) (Or.inl ⟨by rfl, fun wS hSw => ?_⟩) (by assumption) ?_
    · exact exec_ldB 197 _ ⟨_, _, _, _, _, Tryz.isAgg197, Tryz.sizeOf197, rfl, hSw, ceA_ld0 _ _ _ _ _ _ _ _ _⟩
    (try simp only [Act.put])
    (try simp only [List.setIfInBounds_toArray])
    (try simp only [List.set_cons_succ])
    (try simp only [List.set_cons_zero])
    refine wpAnyH_ready (rs := [11]) (by kernel_rfl) (by simp) ?_
    refine AllReadyH.cons (o := ⟨_, _, _, _, _, _⟩) rfl (fun K' hK' => ?_) AllReadyH.nil
    refine (if_pos (by rfl)).mpr ?_
    go_simp
    refine (hpk _).mono ?_
    rintro e w1 ⟨rfl, hb1⟩
    have B1 := tr_bl hb1 hS0
    have hb := hbd.trans (hb1.mono hbd.size)
    refine hK'.out _ _ B1 (fun _ => ?_)
    clear hK' hb1 hbd hS0 hpk
    (try simp only [Act.put])
    (try simp only [List.setIfInBounds_toArray])
    (try simp only [List.set_cons_succ])
    (try simp only [List.set_cons_zero])
    refine wpAnyH_take (i := 12) (oi := ⟨_, _, _, _, _, _⟩) (v := ?_) rfl (by kernel_rfl) (by kernel_rfl) (by kernel_rfl) (fun _ _ _ h => h) (Or.inl ⟨by rfl, ?_⟩) (by assumption) ?_
    rotate_left
    · intro wS hSw
      go_simp; (try with_reducible rfl)
    (try simp only [Act.put])
    (try simp only [List.setIfInBounds_toArray])
    (try simp only [List.set_cons_succ])
    (try simp only [List.set_cons_zero])
    refine wpAnyH_done (by kernel_rfl) ?_ _
    refine HK.out _ _ ?_
    clear HK
    refine wp_seq_k (fun K hK => ?_)
    have HK2 := Lib.hid hK
    clear hK
    refine wp_seq_k (fun K hK => ?_)
    have HK := Lib.hid hK
    clear hK
    go_wp2_with (first
      | ((with_reducible refine wpList_ldB 198 _ ?_); refine ⟨rfl, _, ⟨_, _, _, _, _, Tryz.isAgg198, Tryz.sizeOf198, rfl, ‹_›, ceA_ldp _ _ _ _ _ _ _ _ _⟩, ?_⟩)
      | ((first | (with_reducible refine wpList_stNew 198 _ _ ?_) | (with_reducible refine wp_stNew 198 _ _ ?_)); refine ⟨_, _, ⟨Tryz.sizeOf198, rfl, cpA_new _ _ _ _ _ _ _ _ _ _⟩, rfl, ?_⟩))
    refine HK.out _ _ ?_
    clear HK
    have P2 := heap_alloc_new w1 (Obj.cells (cpA c0.st c0.tg (.slice a0 n0 k0) c1.st c1.tg (.slice a1 n1 k1)) 198)
    have hb2 := hb.alloc hb.size (Obj.cells (cpA c0.st c0.tg (.slice a0 n0 k0) c1.st c1.tg (.slice a1 n1 k1)) 198)
    generalize w1.alloc (Obj.cells (cpA c0.st c0.tg (.slice a0 n0 k0) c1.st c1.tg (.slice a1 n1 k1)) 198) = w2 at *
    generalize w1.heap.size = p at *
    have p0 := cpA_0 P2
    have p7 := cpA_7 P2
    clear P2
    go_wp2
    go_ret3
    exact ⟨rfl, hb2⟩
  case false =>
    rw [hr] at hpk
    simp only [Bool.false_eq_true, if_false] at hpk ⊢
    clear hr
    by_cases h1 : c0.st = 1
    case pos =>
      rw [if_pos h1]
      have e1 : ((c0.st : Int) == 1) = true := by rw [beq_iff_eq]; omega
      clear h1
      go_enter Tryz.func107, Tryz.ntmps107
      refine wp_seq_k (fun K hK => ?_)
      have HK := Lib.hid hK
      clear hK
      go_wp2
      refine HK.out _ _ ?_
      clear HK
      refine wp_seq_k (fun K hK => ?_)
      have HK := Lib.hid hK
      clear hK
      go_wp2_with fail
      have hbd := (Below.refl w.heap.size w).drew
      refine wp_region_held_drew (S := fun w' => w'.heap[q]? = some (.cells (ceA g rep reg c0.st c0.tg (.slice a0 n0 k0) c1.st c1.tg (.slice a1 n1 k1)) 200 (0, 0))) (by kernel_rfl) (tr_bl hbd hB) (fun hS0 => ?_)
      generalize w.drew = x0 at *
      refine wpAnyH_take (i := 0) (oi := ⟨_, _, _, _, _, _⟩) (v := ?_) rfl (by kernel_rfl) (by kernel_rfl) (by kernel_rfl) (fun _ _ _ h => h) (Or.inl ⟨by rfl, ?_⟩) (by assumption) ?_
      rotate_left
      · intro wS hSw
        go_simp; (try with_reducible rfl)
      (try simp only [Act.put])
      (try simp only [List.setIfInBounds_toArray])
      (try simp only [List.set_cons_succ])
      (try simp only [List.set_cons_zero])
      refine wpAnyH_take (i := 1) (oi := ⟨_, _, _, _, _, _⟩) (v := ?_) rfl (by kernel_rfl) (by kernel_rfl) (by kernel_rfl) (fun _ _ _ h => h) (Or.inl ⟨by rfl, ?_⟩) (by assumption) ?_
      rotate_left
      · intro wS hSw
        go_simp; (try with_reducible rfl)
      (try simp only [Act.put])
      (try simp only [List.setIfInBounds_toArray])
      (try simp only [List.set_cons_succ])
      (try simp only [List.set_cons_zero])
      refine wpAnyH_take (i := 2) (oi := ⟨_, _, _, _, _, _⟩) (v := ?_) rfl (by kernel_rfl) (by kernel_rfl) (by kernel_rfl) (fun _ _ _ h => h) (Or.inl ⟨by rfl, ?_⟩) (by assumption) ?_
      rotate_left
      · intro wS hSw
        go_simp; (try with_reducible rfl)
      (try simp only [Act.put])
      (try simp only [List.setIfInBounds_toArray])
      (try simp only [List.set_cons_succ])
      (try simp only [List.set_cons_zero])
      refine wpAnyH_take (i := 3) (oi := ⟨_, _, _, _, _, _⟩) (v := ?_) rfl (by kernel_rfl) (by kernel_rfl) (by kernel_rfl) (fun _ _ _ h => h) (Or.inl ⟨by rfl, ?_⟩) (by assumption) ?_
      rotate_left
      · intro wS hSw
        go_simp; (try with_reducible rfl)
      (try simp only [Act.put])
      (try simp only [List.setIfInBounds_toArray])
      (try simp only [List.set_cons_succ])
      (try simp only [List.set_cons_zero])
      refine wpAnyH_take (i := 4) (oi := ⟨_, _, _, _, _, _⟩) (v := .agg (coA c1.st c1.tg (.slice a1 n1 k1))) rfl (by kernel_rfl) (by kernel_rfl) (by kernel_rfl) (fun _ _ _ h => h) (Or.inl ⟨by rfl, fun wS hSw => ?_⟩) (by assumption) ?_
      · exact exec_ldB 197 _ ⟨_, _, _, _, _, Tryz.isAgg197, Tryz.sizeOf197, rfl, hSw, ceA_ld1 _ _ _ _ _ _ _ _ _⟩
      (try simp only [Act.put])
      (try simp only [List.setIfInBounds_toArray])
      (try simp only [List.set_cons_succ])
      (try simp only [List.set_cons_zero])
      refine wpAnyH_take (i := 5) (oi := ⟨_, _, _, _, _, _⟩) (v := ?_) rfl (by kernel_rfl) (by kernel_rfl) (by kernel_rfl) (fun _ _ _ h => h) (Or.inl ⟨by rfl, ?_⟩) (by assumption) ?_
      rotate_left
      · intro wS hSw
        go_simp; (try with_reducible rfl)
      (try simp only [Act.put])
      (try simp only [List.setIfInBounds_toArray])
      (try simp only [List.set_cons_succ])
      (try simp only [List.set_cons_zero])
      refine wpAnyH_take (i := 6) (oi := ⟨_, _, _, _, _, _⟩) (v := ?_) rfl (by kernel_rfl) (by kernel_rfl) (by kernel_rfl) (fun _ _ _ h => h) (Or.inl ⟨by rfl, ?_⟩) (by assumption) ?_
      rotate_left
      · intro wS hSw
        go_simp; (try with_reducible rfl)
      (try simp only [Act.put])
      (try simp only [List.setIfInBounds_toArray])
      (try simp only [List.set_cons_succ])
      (try simp only [List.set_cons_zero])
      refine wpAnyH_take (i := 7) (oi := ⟨_, _, _, _, _, _⟩) (v := ?_) rfl (by kernel_rfl) (by kernel_rfl) (by kernel_rfl) (fun _ _ _ h => h) (Or.inl ⟨by rfl, ?_⟩) (by assumption) ?_
      rotate_left
      · intro wS hSw
        go_simp; (try with_reducible rfl)
      (try simp only [Act.put])
      (try simp only [List.setIfInBounds_toArray])
      (try simp only [List.set_cons_succ])
      (try simp only [List.set_cons_zero])
      refine wpAnyH_take (i := 8) (oi := ⟨_, _, _, _, _, _⟩) (v := ?_) rfl (by kernel_rfl) (by kernel_rfl) (by kernel_rfl) (fun _ _ _ h => h) (Or.inl ⟨by rfl, ?_⟩) (by assumption) ?_
      rotate_left
      · intro wS hSw
        go_simp; (try with_reducible rfl)
      (try simp only [Act.put])
      (try simp only [List.setIfInBounds_toArray])
      (try simp only [List.set_cons_succ])
      (try simp only [List.set_cons_zero])
      refine wpAnyH_take (i := 9) (oi := ⟨_, _, _, _, _, _⟩) (v := ?_) rfl (by kernel_rfl) (by kernel_rfl) (by kernel_rfl) (fun _ _ _ h => h) (Or.inl ⟨by rfl, ?_⟩) (by assumption) ?_
      rotate_left
      · intro wS hSw
        go_simp; (try with_reducible rfl)
      (try simp only [Act.put])
      (try simp only [List.setIfInBounds_toArray])
      (try simp only [List.set_cons_succ])
      (try simp only [List.set_cons_zero])
      refine wpAnyH_take (i := 10) (oi := ⟨_, _, _, _, _, _⟩) (v := .agg (coA c0.st c0.tg (.slice a0 n0 k0))) rfl (by kernel_rfl) (by kernel_rfl) (by kernel_rfl) (fun _ _ _ h => h) (Or.inl ⟨by rfl, fun wS hSw => ?_⟩) (by assumption) ?_
      · exact exec_ldB 197 _ ⟨_, _, _, _, _, Tryz.isAgg197, Tryz.sizeOf197, rfl, hSw, ceA_ld0 _ _ _ _ _ _ _ _ _⟩
      (try simp only [Act.put])
      (try simp only [List.setIfInBounds_toArray])
      (try simp only [List.set_cons_succ])
      (try simp only [List.set_cons_zero])
      refine wpAnyH_ready (rs := [11]) (by kernel_rfl) (by simp) ?_
      refine AllReadyH.cons (o := ⟨_, _, _, _, _, _⟩) rfl (fun K' hK' => ?_) AllReadyH.nil
      refine (if_pos (by rfl)).mpr ?_
      go_simp
      refine (hpk _).mono ?_
      rintro e w1 ⟨rfl, hb1⟩
      have B1 := tr_bl hb1 hS0
      have hb := hbd.trans (hb1.mono hbd.size)
      refine hK'.out _ _ B1 (fun _ => ?_)
      clear hK' hb1 hbd hS0 hpk
      (try simp only [Act.put])
      (try simp only [List.setIfInBounds_toArray])
      (try simp only [List.set_cons_succ])
      (try simp only [List.set_cons_zero])
      refine wpAnyH_take (i := 12) (oi := ⟨_, _, _, _, _, _⟩) (v := ?_) rfl (by kernel_rfl) (by kernel_rfl) (by kernel_rfl) (fun _ _ _ h => h) (Or.inl ⟨by rfl, ?_⟩) (by assumption) ?_
      rotate_left
      · intro wS hSw
        go_simp; (try with_reducible rfl)
      (try simp only [Act.put])
      (try simp only [List.setIfInBounds_toArray])
      (try simp only [List.set_cons_succ])
      (try simp only [List.set_cons_zero])
      refine wpAnyH_done (by kernel_rfl) ?_ _
      refine HK.out _ _ ?_
      clear HK
      refine wp_seq_k (fun K hK => ?_)
      have HK2 := Lib.hid hK
      clear hK
      refine wp_seq_k (fun K hK => ?_)
      have HK := Lib.hid hK
      clear hK
      go_wp2_with (first
        | ((with_reducible refine wpList_ldB 198 _ ?_); refine ⟨rfl, _, ⟨_, _, _, _, _, Tryz.isAgg198, Tryz.sizeOf198, rfl, ‹_›, ceA_ldp _ _ _ _ _ _ _ _ _⟩, ?_⟩)
        | ((first | (with_reducible refine wpList_stNew 198 _ _ ?_) | (with_reducible refine wp_stNew 198 _ _ ?_)); refine ⟨_, _, ⟨Tryz.sizeOf198, rfl, cpA_new _ _ _ _ _ _ _ _ _ _⟩, rfl, ?_⟩))
      refine HK.out _ _ ?_
      clear HK
      have P2 := heap_alloc_new w1 (Obj.cells (cpA c0.st c0.tg (.slice a0 n0 k0) c1.st c1.tg (.slice a1 n1 k1)) 198)
      have hb2 := hb.alloc hb.size (Obj.cells (cpA c0.st c0.tg (.slice a0 n0 k0) c1.st c1.tg (.slice a1 n1 k1)) 198)
      generalize w1.alloc (Obj.cells (cpA c0.st c0.tg (.slice a0 n0 k0) c1.st c1.tg (.slice a1 n1 k1)) 198) = w2 at *
      generalize w1.heap.size = p at *
      have p0 := cpA_0 P2
      have p7 := cpA_7 P2
      clear P2
      go_wp2
      go_ret3
      exact ⟨rfl, hb2⟩
    case neg =>
      rw [if_neg h1]
      have e1 : ((c0.st : Int) == 1) = false := by rw [beq_eq_false_iff_ne]; omega
      clear h1
      by_cases h2 : c0.st = 0
      case pos =>
        rw [if_pos (.inl h2)]
        have e2 : ((c0.st : Int) == 0) = true := by rw [beq_iff_eq]; omega
        clear h2
        go_enter Tryz.func107, Tryz.ntmps107
        refine wp_seq_k (fun K hK => ?_)
        have HK := Lib.hid hK
        clear hK
        go_wp2
        refine HK.out _ _ ?_
        clear HK
        refine wp_seq_k (fun K hK => ?_)
        have HK := Lib.hid hK
        clear hK
        go_wp2_with fail
        have hbd := (Below.refl w.heap.size w).drew
        refine wp_region_held_drew (S := fun w' => w'.heap[q]? = some (.cells (ceA g rep reg c0.st c0.tg (.slice a0 n0 k0) c1.st c1.tg (.slice a1 n1 k1)) 200 (0, 0))) (by kernel_rfl) (tr_bl hbd hB) (fun hS0 => ?_)
        generalize w.drew = x0 at *
        refine wpAnyH_take (i := 0) (oi := ⟨_, _, _, _, _, _⟩) (v := ?_) rfl (by kernel_rfl) (by kernel_rfl) (by kernel_rfl) (fun _ _ _ h => h) (Or.inl ⟨by rfl, ?_⟩) (by assumption) ?_
        rotate_left
        · intro wS hSw
          go_simp; (try with_reducible rfl)
        (try simp only [Act.put])
        (try simp only [List.setIfInBounds_toArray])
        (try simp only [List.set_cons_succ])
        (try simp only [List.set_cons_zero])
        refine wpAnyH_take (i := 1) (oi := ⟨_, _, _, _, _, _⟩) (v := ?_) rfl (by kernel_rfl) (by kernel_rfl) (by kernel_rfl) (fun _ _ _ h => h) (Or.inl ⟨by rfl, ?_⟩) (by assumption) ?_
        rotate_left
        · intro wS hSw
          go_simp; (try with_reducible rfl)
        (try simp only [Act.put])
        (try simp only [List.setIfInBounds_toArray])
        (try simp only [List.set_cons_succ])
        (try simp only [List.set_cons_zero])
        refine wpAnyH_take (i := 2) (oi := ⟨_, _, _, _, _, _⟩) (v := ?_) rfl (by kernel_rfl) (by kernel_rfl) (by kernel_rfl) (fun _ _ _ h => h) (Or.inl ⟨by rfl, ?_⟩) (by assumption) ?_
        rotate_left
        · intro wS hSw
          go_simp; (try with_reducible rfl)
        (try simp only [Act.put])
        (try simp only [List.setIfInBounds_toArray])
        (try simp only [List.set_cons_succ])
        (try simp only [List.set_cons_zero])
        refine wpAnyH_take (i := 3) (oi := ⟨_, _, _, _, _, _⟩) (v := ?_) rfl (by kernel_rfl) (by kernel_rfl) (by kernel_rfl) (fun _ _ _ h => h) (Or.inl ⟨by rfl, ?_⟩) (by assumption) ?_
        rotate_left
        · intro wS hSw
          go_simp; (try with_reducible rfl)
        (try simp only [Act.put])
        (try simp only [List.setIfInBounds_toArray])
        (try simp only [List.set_cons_succ])
        (try simp only [List.set_cons_zero])
        refine wpAnyH_take (i := 4) (oi := ⟨_, _, _, _, _, _⟩) (v := .agg (coA c1.st c1.tg (.slice a1 n1 k1))) rfl (by kernel_rfl) (by kernel_rfl) (by kernel_rfl) (fun _ _ _ h => h) (Or.inl ⟨by rfl, fun wS hSw => ?_⟩) (by assumption) ?_
        · exact exec_ldB 197 _ ⟨_, _, _, _, _, Tryz.isAgg197, Tryz.sizeOf197, rfl, hSw, ceA_ld1 _ _ _ _ _ _ _ _ _⟩
        (try simp only [Act.put])
        (try simp only [List.setIfInBounds_toArray])
        (try simp only [List.set_cons_succ])
        (try simp only [List.set_cons_zero])
        refine wpAnyH_take (i := 5) (oi := ⟨_, _, _, _, _, _⟩) (v := ?_) rfl (by kernel_rfl) (by kernel_rfl) (by kernel_rfl) (fun _ _ _ h => h) (Or.inl ⟨by rfl, ?_⟩) (by assumption) ?_
        rotate_left
        · intro wS hSw
          go_simp; (try with_reducible rfl)
        (try simp only [Act.put])
        (try simp only [List.setIfInBounds_toArray])
        (try simp only [List.set_cons_succ])
        (try simp only [List.set_cons_zero])
        refine wpAnyH_take (i := 6) (oi := ⟨_, _, _, _, _, _⟩) (v := ?_) rfl (by kernel_rfl) (by kernel_rfl) (by kernel_rfl) (fun _ _ _ h => h) (Or.inl ⟨by rfl, ?_⟩) (by assumption) ?_
        rotate_left
        · intro wS hSw
          go_simp; (try with_reducible rfl)
        (try simp only [Act.put])
        (try simp only [List.setIfInBounds_toArray])
        (try simp only [List.set_cons_succ])
        (try simp only [List.set_cons_zero])
        refine wpAnyH_take (i := 7) (oi := ⟨_, _, _, _, _, _⟩) (v := ?_) rfl (by kernel_rfl) (by kernel_rfl) (by kernel_rfl) (fun _ _ _ h => h) (Or.inl ⟨by rfl, ?_⟩) (by assumption) ?_
        rotate_left
        · intro wS hSw
          go_simp; (try with_reducible rfl)
        (try simp only [Act.put])
        (try simp only [List.setIfInBounds_toArray])
        (try simp only [List.set_cons_succ])
        (try simp only [List.set_cons_zero])
        refine wpAnyH_take (i := 8) (oi := ⟨_, _, _, _, _, _⟩) (v := ?_) rfl (by kernel_rfl) (by kernel_rfl) (by kernel_rfl) (fun _ _ _ h => h) (Or.inl ⟨by rfl, ?_⟩) (by assumption) ?_
        rotate_left
        · intro wS hSw
          go_simp; (try with_reducible rfl)
        (try simp only [Act.put])
        (try simp only [List.setIfInBounds_toArray])
        (try simp only [List.set_cons_succ])
        (try simp only [List.set_cons_zero])
        refine wpAnyH_take (i := 9) (oi := ⟨_, _, _, _, _, _⟩) (v := ?_) rfl (by kernel_rfl) (by kernel_rfl) (by kernel_rfl) (fun _ _ _ h => h) (Or.inl ⟨by rfl, ?_⟩) (by assumption) ?_
        rotate_left
        · intro wS hSw
          go_simp; (try with_reducible rfl)
        (try simp only [Act.put])
        (try simp only [List.setIfInBounds_toArray])
        (try simp only [List.set_cons_succ])
        (try simp only [List.set_cons_zero])
        refine wpAnyH_take (i := 10) (oi := ⟨_, _, _, _, _, _⟩) (v := .agg (coA c0.st c0.tg (.slice a0 n0 k0))) rfl (by kernel_rfl) (by kernel_rfl) (by kernel_rfl) (fun _ _ _ h => h) (Or.inl ⟨by rfl, fun wS hSw => ?_⟩) (by assumption) ?_
        · exact exec_ldB 197 _ ⟨_, _, _, _, _, Tryz.isAgg197, Tryz.sizeOf197, rfl, hSw, ceA_ld0 _ _ _ _ _ _ _ _ _⟩
        (try simp only [Act.put])
        (try simp only [List.setIfInBounds_toArray])
        (try simp only [List.set_cons_succ])
        (try simp only [List.set_cons_zero])
        refine wpAnyH_ready (rs := [11]) (by kernel_rfl) (by simp) ?_
        refine AllReadyH.cons (o := ⟨_, _, _, _, _, _⟩) rfl (fun K' hK' => ?_) AllReadyH.nil
        refine (if_pos (by rfl)).mpr ?_
        go_simp
        refine (hpk _).mono ?_
        rintro e w1 ⟨rfl, hb1⟩
        have B1 := tr_bl hb1 hS0
        have hb := hbd.trans (hb1.mono hbd.size)
        refine hK'.out _ _ B1 (fun _ => ?_)
        clear hK' hb1 hbd hS0 hpk
        (try simp only [Act.put])
        (try simp only [List.setIfInBounds_toArray])
        (try simp only [List.set_cons_succ])
        (try simp only [List.set_cons_zero])
        refine wpAnyH_take (i := 12) (oi := ⟨_, _, _, _, _, _⟩) (v := ?_) rfl (by kernel_rfl) (by kernel_rfl) (by kernel_rfl) (fun _ _ _ h => h) (Or.inl ⟨by rfl, ?_⟩) (by assumption) ?_
        rotate_left
        · intro wS hSw
          go_simp; (try with_reducible rfl)
        (try simp only [Act.put])
        (try simp only [List.setIfInBounds_toArray])
        (try simp only [List.set_cons_succ])
        (try simp only [List.set_cons_zero])
        refine wpAnyH_done (by kernel_rfl) ?_ _
        refine HK.out _ _ ?_
        clear HK
        refine wp_seq_k (fun K hK => ?_)
        have HK2 := Lib.hid hK
        clear hK
        refine wp_seq_k (fun K hK => ?_)
        have HK := Lib.hid hK
        clear hK
        go_wp2_with (first
          | ((with_reducible refine wpList_ldB 198 _ ?_); refine ⟨rfl, _, ⟨_, _, _, _, _, Tryz.isAgg198, Tryz.sizeOf198, rfl, ‹_›, ceA_ldp _ _ _ _ _ _ _ _ _⟩, ?_⟩)
          | ((first | (with_reducible refine wpList_stNew 198 _ _ ?_) | (with_reducible refine wp_stNew 198 _ _ ?_)); refine ⟨_, _, ⟨Tryz.sizeOf198, rfl, cpA_new _ _ _ _ _ _ _ _ _ _⟩, rfl, ?_⟩))
        refine HK.out _ _ ?_
        clear HK
        have P2 := heap_alloc_new w1 (Obj.cells (cpA c0.st c0.tg (.slice a0 n0 k0) c1.st c1.tg (.slice a1 n1 k1)) 198)
        have hb2 := hb.alloc hb.size (Obj.cells (cpA c0.st c0.tg (.slice a0 n0 k0) c1.st c1.tg (.slice a1 n1 k1)) 198)
        generalize w1.alloc (Obj.cells (cpA c0.st c0.tg (.slice a0 n0 k0) c1.st c1.tg (.slice a1 n1 k1)) 198) = w2 at *
        generalize w1.heap.size = p at *
        have p0 := cpA_0 P2
        have p7 := cpA_7 P2
        clear P2
        go_wp2
        go_ret3
        exact ⟨rfl, hb2⟩
      case neg =>
        have e2 : ((c0.st : Int) == 0) = false := by rw [beq_eq_false_iff_ne]; omega
        by_cases h3 : c1.st = 0
        case pos =>
          rw [if_pos (.inr h3)]
          have e3 : ((c1.st : Int) == 0) = true := by rw [beq_iff_eq]; omega
          clear h2 h3
          go_enter Tryz.func107, Tryz.ntmps107
          refine wp_seq_k (fun K hK => ?_)
          have HK := Lib.hid hK
          clear hK
          go_wp2
          refine HK.out _ _ ?_
          clear HK
          refine wp_seq_k (fun K hK => ?_)
          have HK := Lib.hid hK
          clear hK
          go_wp2_with fail
          have hbd := (Below.refl w.heap.size w).drew
          refine wp_region_held_drew (S := fun w' => w'.heap[q]? = some (.cells (ceA g rep reg c0.st c0.tg (.slice a0 n0 k0) c1.st c1.tg (.slice a1 n1 k1)) 200 (0, 0))) (by kernel_rfl) (tr_bl hbd hB) (fun hS0 => ?_)
          generalize w.drew = x0 at *
          refine wpAnyH_take (i := 0) (oi := ⟨_, _, _, _, _, _⟩) (v := ?_) rfl (by kernel_rfl) (by kernel_rfl) (by kernel_rfl) (fun _ _ _ h => h) (Or.inl ⟨by rfl, ?_⟩) (by assumption) ?_
          rotate_left
          · intro wS hSw
            go_simp; (try with_reducible rfl)
          (try simp only [Act.put])
          (try simp only [List.setIfInBounds_toArray])
          (try simp only [List.set_cons_succ])
          (try simp only [List.set_cons_zero])
          refine wpAnyH_take (i := 1) (oi := ⟨_, _, _, _, _, _⟩) (v := ?_) rfl (by kernel_rfl) (by kernel_rfl) (by kernel_rfl) (fun _ _ _ h => h) (Or.inl ⟨by rfl, ?_⟩) (by assumption) ?_
          rotate_left
          · intro wS hSw
            go_simp; (try with_reducible rfl)
          (try simp only [Act.put])
          (try simp only [List.setIfInBounds_toArray])
          (try simp only [List.set_cons_succ])
          (try simp only [List.set_cons_zero])
          refine wpAnyH_take (i := 2) (oi := ⟨_, _, _, _, _, _⟩) (v := ?_) rfl (by kernel_rfl) (by kernel_rfl) (by kernel_rfl) (fun _ _ _ h => h) (Or.inl ⟨by rfl, ?_⟩) (by assumption) ?_
          rotate_left
          · intro wS hSw
            go_simp; (try with_reducible rfl)
          (try simp only [Act.put])
          (try simp only [List.setIfInBounds_toArray])
          (try simp only [List.set_cons_succ])
          (try simp only [List.set_cons_zero])
          refine wpAnyH_take (i := 3) (oi := ⟨_, _, _, _, _, _⟩) (v := ?_) rfl (by kernel_rfl) (by kernel_rfl) (by kernel_rfl) (fun _ _ _ h => h) (Or.inl ⟨by rfl, ?_⟩) (by assumption) ?_
          rotate_left
          · intro wS hSw
            go_simp; (try with_reducible rfl)
          (try simp only [Act.put])
          (try simp only [List.setIfInBounds_toArray])
          (try simp only [List.set_cons_succ])
          (try simp only [List.set_cons_zero])
          refine wpAnyH_take (i := 4) (oi := ⟨_, _, _, _, _, _⟩) (v := .agg (coA c1.st c1.tg (.slice a1 n1 k1))) rfl (by kernel_rfl) (by kernel_rfl) (by kernel_rfl) (fun _ _ _ h => h) (Or.inl ⟨by rfl, fun wS hSw => ?_⟩) (by assumption) ?_
          · exact exec_ldB 197 _ ⟨_, _, _, _, _, Tryz.isAgg197, Tryz.sizeOf197, rfl, hSw, ceA_ld1 _ _ _ _ _ _ _ _ _⟩
          (try simp only [Act.put])
          (try simp only [List.setIfInBounds_toArray])
          (try simp only [List.set_cons_succ])
          (try simp only [List.set_cons_zero])
          refine wpAnyH_take (i := 5) (oi := ⟨_, _, _, _, _, _⟩) (v := ?_) rfl (by kernel_rfl) (by kernel_rfl) (by kernel_rfl) (fun _ _ _ h => h) (Or.inl ⟨by rfl, ?_⟩) (by assumption) ?_
          rotate_left
          · intro wS hSw
            go_simp; (try with_reducible rfl)
          (try simp only [Act.put])
          (try simp only [List.setIfInBounds_toArray])
          (try simp only [List.set_cons_succ])
          (try simp only [List.set_cons_zero])
          refine wpAnyH_take (i := 6) (oi := ⟨_, _, _, _, _, _⟩) (v := ?_) rfl (by kernel_rfl) (by kernel_rfl) (by kernel_rfl) (fun _ _ _ h => h) (Or.inl ⟨by rfl, ?_⟩) (by assumption) ?_
          rotate_left
          · intro wS hSw
            go_simp; (try with_reducible rfl)
          (try simp only [Act.put])
          (try simp only [List.setIfInBounds_toArray])
          (try simp only [List.set_cons_succ])
          (try simp only [List.set_cons_zero])
          refine wpAnyH_take (i := 7) (oi := ⟨_, _, _, _, _, _⟩) (v := ?_) rfl (by kernel_rfl) (by kernel_rfl) (by kernel_rfl) (fun _ _ _ h => h) (Or.inl ⟨by rfl, ?_⟩) (by assumption) ?_
          rotate_left
          · intro wS hSw
            go_simp; (try with_reducible rfl)
          (try simp only [Act.put])
          (try simp only [List.setIfInBounds_toArray])
          (try simp only [List.set_cons_succ])
          (try simp only [List.set_cons_zero])
          refine wpAnyH_take (i := 8) (oi := ⟨_, _, _, _, _, _⟩) (v := ?_) rfl (by kernel_rfl) (by kernel_rfl) (by kernel_rfl) (fun _ _ _ h => h) (Or.inl ⟨by rfl, ?_⟩) (by assumption) ?_
          rotate_left
          · intro wS hSw
            go_simp; (try with_reducible rfl)
          (try simp only [Act.put])
          (try simp only [List.setIfInBounds_toArray])
          (try simp only [List.set_cons_succ])
          (try simp only [List.set_cons_zero])
          refine wpAnyH_take (i := 9) (oi := ⟨_, _, _, _, _, _⟩) (v := ?_) rfl (by kernel_rfl) (by kernel_rfl) (by kernel_rfl) (fun _ _ _ h => h) (Or.inl ⟨by rfl, ?_⟩) (by assumption) ?_
          rotate_left
          · intro wS hSw
            go_simp; (try with_reducible rfl)
          (try simp only [Act.put])
          (try simp only [List.setIfInBounds_toArray])
          (try simp only [List.set_cons_succ])
          (try simp only [List.set_cons_zero])
          refine wpAnyH_take (i := 10) (oi := ⟨_, _, _, _, _, _⟩) (v := .agg (coA c0.st c0.tg (.slice a0 n0 k0))) rfl (by kernel_rfl) (by kernel_rfl) (by kernel_rfl) (fun _ _ _ h => h) (Or.inl ⟨by rfl, fun wS hSw => ?_⟩) (by assumption) ?_
          · exact exec_ldB 197 _ ⟨_, _, _, _, _, Tryz.isAgg197, Tryz.sizeOf197, rfl, hSw, ceA_ld0 _ _ _ _ _ _ _ _ _⟩
          (try simp only [Act.put])
          (try simp only [List.setIfInBounds_toArray])
          (try simp only [List.set_cons_succ])
          (try simp only [List.set_cons_zero])
          refine wpAnyH_ready (rs := [11]) (by kernel_rfl) (by simp) ?_
          refine AllReadyH.cons (o := ⟨_, _, _, _, _, _⟩) rfl (fun K' hK' => ?_) AllReadyH.nil
          refine (if_pos (by rfl)).mpr ?_
          go_simp
          refine (hpk _).mono ?_
          rintro e w1 ⟨rfl, hb1⟩
          have B1 := tr_bl hb1 hS0
          have hb := hbd.trans (hb1.mono hbd.size)
          refine hK'.out _ _ B1 (fun _ => ?_)
          clear hK' hb1 hbd hS0 hpk
          (try simp only [Act.put])
          (try simp only [List.setIfInBounds_toArray])
          (try simp only [List.set_cons_succ])
          (try simp only [List.set_cons_zero])
          refine wpAnyH_take (i := 12) (oi := ⟨_, _, _, _, _, _⟩) (v := ?_) rfl (by kernel_rfl) (by kernel_rfl) (by kernel_rfl) (fun _ _ _ h => h) (Or.inl ⟨by rfl, ?_⟩) (by assumption) ?_
          rotate_left
          · intro wS hSw
            go_simp; (try with_reducible rfl)
          (try simp only [Act.put])
          (try simp only [List.setIfInBounds_toArray])
          (try simp only [List.set_cons_succ])
          (try simp only [List.set_cons_zero])
          refine wpAnyH_done (by kernel_rfl) ?_ _
          refine HK.out _ _ ?_
          clear HK
          refine wp_seq_k (fun K hK => ?_)
          have HK2 := Lib.hid hK
          clear hK
          refine wp_seq_k (fun K hK => ?_)
          have HK := Lib.hid hK
          clear hK
          go_wp2_with (first
            | ((with_reducible refine wpList_ldB 198 _ ?_); refine ⟨rfl, _, ⟨_, _, _, _, _, Tryz.isAgg198, Tryz.sizeOf198, rfl, ‹_›, ceA_ldp _ _ _ _ _ _ _ _ _⟩, ?_⟩)
            | ((first | (with_reducible refine wpList_stNew 198 _ _ ?_) | (with_reducible refine wp_stNew 198 _ _ ?_)); refine ⟨_, _, ⟨Tryz.sizeOf198, rfl, cpA_new _ _ _ _ _ _ _ _ _ _⟩, rfl, ?_⟩))
          refine HK.out _ _ ?_
          clear HK
          have P2 := heap_alloc_new w1 (Obj.cells (cpA c0.st c0.tg (.slice a0 n0 k0) c1.st c1.tg (.slice a1 n1 k1)) 198)
          have hb2 := hb.alloc hb.size (Obj.cells (cpA c0.st c0.tg (.slice a0 n0 k0) c1.st c1.tg (.slice a1 n1 k1)) 198)
          generalize w1.alloc (Obj.cells (cpA c0.st c0.tg (.slice a0 n0 k0) c1.st c1.tg (.slice a1 n1 k1)) 198) = w2 at *
          generalize w1.heap.size = p at *
          have p0 := cpA_0 P2
          have p7 := cpA_7 P2
          clear P2
          go_wp2
          go_ret3
          exact ⟨rfl, hb2⟩
        case neg =>
          rw [if_neg (by rintro (h | h) <;> contradiction)]
          have e3 : ((c1.st : Int) == 0) = false := by rw [beq_eq_false_iff_ne]; omega
          clear h2 h3
          go_enter Tryz.func107, Tryz.ntmps107
          refine wp_seq_k (fun K hK => ?_)
          have HK := Lib.hid hK
          clear hK
          go_wp2
          refine HK.out _ _ ?_
          clear HK
          refine wp_seq_k (fun K hK => ?_)
          have HK := Lib.hid hK
          clear hK
          go_wp2_with fail
          have hbd := (Below.refl w.heap.size w).drew
          refine wp_region_held_drew (S := fun w' => w'.heap[q]? = some (.cells (ceA g rep reg c0.st c0.tg (.slice a0 n0 k0) c1.st c1.tg (.slice a1 n1 k1)) 200 (0, 0))) (by kernel_rfl) (tr_bl hbd hB) (fun hS0 => ?_)
          generalize w.drew = x0 at *
          refine wpAnyH_take (i := 0) (oi := ⟨_, _, _, _, _, _⟩) (v := ?_) rfl (by kernel_rfl) (by kernel_rfl) (by kernel_rfl) (fun _ _ _ h => h) (Or.inl ⟨by rfl, ?_⟩) (by assumption) ?_
          rotate_left
          · intro wS hSw
            go_simp; (try with_reducible rfl)
          (try simp only [Act.put])
          (try simp only [List.setIfInBounds_toArray])
          (try simp only [List.set_cons_succ])
          (try simp only [List.set_cons_zero])
          refine wpAnyH_take (i := 1) (oi := ⟨_, _, _, _, _, _⟩) (v := ?_) rfl (by kernel_rfl) (by kernel_rfl) (by kernel_rfl) (fun _ _ _ h => h) (Or.inl ⟨by rfl, ?_⟩) (by assumption) ?_
          rotate_left
          · intro wS hSw
            go_simp; (try with_reducible rfl)
          (try simp only [Act.put])
          (try simp only [List.setIfInBounds_toArray])
          (try simp only [List.set_cons_succ])
          (try simp only [List.set_cons_zero])
          refine wpAnyH_take (i := 2) (oi := ⟨_, _, _, _, _, _⟩) (v := ?_) rfl (by kernel_rfl) (by kernel_rfl) (by kernel_rfl) (fun _ _ _ h => h) (Or.inl ⟨by rfl, ?_⟩) (by assumption) ?_
          rotate_left
          · intro wS hSw
            go_simp; (try with_reducible rfl)
          (try simp only [Act.put])
          (try simp only [List.setIfInBounds_toArray])
          (try simp only [List.set_cons_succ])
          (try simp only [List.set_cons_zero])
          refine wpAnyH_take (i := 3) (oi := ⟨_, _, _, _, _, _⟩) (v := ?_) rfl (by kernel_rfl) (by kernel_rfl) (by kernel_rfl) (fun _ _ _ h => h) (Or.inl ⟨by rfl, ?_⟩) (by assumption) ?_
          rotate_left
          · intro wS hSw
            go_simp; (try with_reducible rfl)
          (try simp only [Act.put])
          (try simp only [List.setIfInBounds_toArray])
          (try simp only [List.set_cons_succ])
          (try simp only [List.set_cons_zero])
          refine wpAnyH_take (i := 4) (oi := ⟨_, _, _, _, _, _⟩) (v := .agg (coA c1.st c1.tg (.slice a1 n1 k1))) rfl (by kernel_rfl) (by kernel_rfl) (by kernel_rfl) (fun _ _ _ h => h) (Or.inl ⟨by rfl, fun wS hSw => ?_⟩) (by assumption) ?_
          · exact exec_ldB 197 _ ⟨_, _, _, _, _, Tryz.isAgg197, Tryz.sizeOf197, rfl, hSw, ceA_ld1 _ _ _ _ _ _ _ _ _⟩
          (try simp only [Act.put])
          (try simp only [List.setIfInBounds_toArray])
          (try simp only [List.set_cons_succ])
          (try simp only [List.set_cons_zero])
          refine wpAnyH_take (i := 5) (oi := ⟨_, _, _, _, _, _⟩) (v := ?_) rfl (by kernel_rfl) (by kernel_rfl) (by kernel_rfl) (fun _ _ _ h => h) (Or.inl ⟨by rfl, ?_⟩) (by assumption) ?_
          rotate_left
          · intro wS hSw
            go_simp; (try with_reducible rfl)
          (try simp only [Act.put])
          (try simp only [List.setIfInBounds_toArray])
          (try simp only [List.set_cons_succ])
          (try simp only [List.set_cons_zero])
          refine wpAnyH_take (i := 6) (oi := ⟨_, _, _, _, _, _⟩) (v := ?_) rfl (by kernel_rfl) (by kernel_rfl) (by kernel_rfl) (fun _ _ _ h => h) (Or.inl ⟨by rfl, ?_⟩) (by assumption) ?_
          rotate_left
          · intro wS hSw
            go_simp; (try with_reducible rfl)
          (try simp only [Act.put])
          (try simp only [List.setIfInBounds_toArray])
          (try simp only [List.set_cons_succ])
          (try simp only [List.set_cons_zero])
          refine wpAnyH_take (i := 7) (oi := ⟨_, _, _, _, _, _⟩) (v := ?_) rfl (by kernel_rfl) (by kernel_rfl) (by kernel_rfl) (fun _ _ _ h => h) (Or.inl ⟨by rfl, ?_⟩) (by assumption) ?_
          rotate_left
          · intro wS hSw
            go_simp; (try with_reducible rfl)
          (try simp only [Act.put])
          (try simp only [List.setIfInBounds_toArray])
          (try simp only [List.set_cons_succ])
          (try simp only [List.set_cons_zero])
          refine wpAnyH_take (i := 8) (oi := ⟨_, _, _, _, _, _⟩) (v := ?_) rfl (by kernel_rfl) (by kernel_rfl) (by kernel_rfl) (fun _ _ _ h => h) (Or.inl ⟨by rfl, ?_⟩) (by assumption) ?_
          rotate_left
          · intro wS hSw
            go_simp; (try with_reducible rfl)
          (try simp only [Act.put])
          (try simp only [List.setIfInBounds_toArray])
          (try simp only [List.set_cons_succ])
          (try simp only [List.set_cons_zero])
          refine wpAnyH_take (i := 9) (oi := ⟨_, _, _, _, _, _⟩) (v := ?_) rfl (by kernel_rfl) (by kernel_rfl) (by kernel_rfl) (fun _ _ _ h => h) (Or.inl ⟨by rfl, ?_⟩) (by assumption) ?_
          rotate_left
          · intro wS hSw
            go_simp; (try with_reducible rfl)
          (try simp only [Act.put])
          (try simp only [List.setIfInBounds_toArray])
          (try simp only [List.set_cons_succ])
          (try simp only [List.set_cons_zero])
          refine wpAnyH_take (i := 10) (oi := ⟨_, _, _, _, _, _⟩) (v := .agg (coA c0.st c0.tg (.slice a0 n0 k0))) rfl (by kernel_rfl) (by kernel_rfl) (by kernel_rfl) (fun _ _ _ h => h) (Or.inl ⟨by rfl, fun wS hSw => ?_⟩) (by assumption) ?_
          · exact exec_ldB 197 _ ⟨_, _, _, _, _, Tryz.isAgg197, Tryz.sizeOf197, rfl, hSw, ceA_ld0 _ _ _ _ _ _ _ _ _⟩
          (try simp only [Act.put])
          (try simp only [List.setIfInBounds_toArray])
          (try simp only [List.set_cons_succ])
          (try simp only [List.set_cons_zero])
          refine wpAnyH_ready (rs := [11]) (by kernel_rfl) (by simp) ?_
          refine AllReadyH.cons (o := ⟨_, _, _, _, _, _⟩) rfl (fun K' hK' => ?_) AllReadyH.nil
          refine (if_pos (by rfl)).mpr ?_
          go_simp
          refine (hpk _).mono ?_
          rintro e w1 ⟨rfl, hb1⟩
          have B1 := tr_bl hb1 hS0
          have hb := hbd.trans (hb1.mono hbd.size)
          refine hK'.out _ _ B1 (fun _ => ?_)
          clear hK' hb1 hbd hS0 hpk
          (try simp only [Act.put])
          (try simp only [List.setIfInBounds_toArray])
          (try simp only [List.set_cons_succ])
          (try simp only [List.set_cons_zero])
          refine wpAnyH_take (i := 12) (oi := ⟨_, _, _, _, _, _⟩) (v := ?_) rfl (by kernel_rfl) (by kernel_rfl) (by kernel_rfl) (fun _ _ _ h => h) (Or.inl ⟨by rfl, ?_⟩) (by assumption) ?_
          rotate_left
          · intro wS hSw
            go_simp; (try with_reducible rfl)
          (try simp only [Act.put])
          (try simp only [List.setIfInBounds_toArray])
          (try simp only [List.set_cons_succ])
          (try simp only [List.set_cons_zero])
          refine wpAnyH_done (by kernel_rfl) ?_ _
          refine HK.out _ _ ?_
          clear HK
          refine wp_seq_k (fun K hK => ?_)
          have HK2 := Lib.hid hK
          clear hK
          refine wp_seq_k (fun K hK => ?_)
          have HK := Lib.hid hK
          clear hK
          go_wp2_with (first
            | ((with_reducible refine wpList_ldB 198 _ ?_); refine ⟨rfl, _, ⟨_, _, _, _, _, Tryz.isAgg198, Tryz.sizeOf198, rfl, ‹_›, ceA_ldp _ _ _ _ _ _ _ _ _⟩, ?_⟩)
            | ((first | (with_reducible refine wpList_stNew 198 _ _ ?_) | (with_reducible refine wp_stNew 198 _ _ ?_)); refine ⟨_, _, ⟨Tryz.sizeOf198, rfl, cpA_new _ _ _ _ _ _ _ _ _ _⟩, rfl, ?_⟩))
          refine HK.out _ _ ?_
          clear HK
          have P2 := heap_alloc_new w1 (Obj.cells (cpA c0.st c0.tg (.slice a0 n0 k0) c1.st c1.tg (.slice a1 n1 k1)) 198)
          have hb2 := hb.alloc hb.size (Obj.cells (cpA c0.st c0.tg (.slice a0 n0 k0) c1.st c1.tg (.slice a1 n1 k1)) 198)
          generalize w1.alloc (Obj.cells (cpA c0.st c0.tg (.slice a0 n0 k0) c1.st c1.tg (.slice a1 n1 k1)) 198) = w2 at *
          generalize w1.heap.size = p at *
          have p0 := cpA_0 P2
          have p7 := cpA_7 P2
          clear P2
          go_wp2
          refine HK2.out _ _ ?_
          clear HK2
          go_wp2
          go_ret3
          exact ⟨rfl, hb2⟩
end Go.Proofs.YthfolocjkpiljaaGreatDoor

namespace Go.Proofs.YthfolocjkpiljaaGreatDoor
open Go.RowKit

section
variable {B g gp : Nat} {wv : Value} {d : Dk} {w : World}
set_option maxRecDepth 100000 in
set_option maxHeartbeats 1000000 in
theorem cput_any (h : DiskB B g gp wv d w) (hb : B ≤ w.heap.size) (q : Nat) (rep reg : Int) (s0 s1 : Nat) (t0 t1 : Tg) (v0 v1 : Value) (hq : w.heap[q]? = some (.cells (ceA g rep reg s0 t0 v0 s1 t1 v1) 200 (0, 0))) (pla ver inc : Int) (hm : mayTg ⟨rep, reg, pla, ver, inc⟩ = true) (a : Option Addr) (c : Nat) (body : List UInt8) (hs : SlB w a c body) (hl : body.length ≤ 43) (hw : d.waits.length ≤ 1000000) :
    Calls Tryz.prog 108 #[.pointer (some ⟨q, 0, none⟩), .int .i64 pla, .int .i64 ver, .int .i64 inc, .slice a body.length c] w fun e w' => e = .returned (.int .i64 (putC d ⟨rep, reg, pla, ver, inc⟩ body).2) ∧ (∃ wv', DiskB B g gp wv' (putC d ⟨rep, reg, pla, ver, inc⟩ body).1 w') ∧ Kt B w w' := by
  have HM := Lib.hid hm
  clear hm
  unfold putC
  simp only
  have hlen := seal64 ⟨rep, reg, pla, ver, inc⟩ hl
  obtain ⟨fr, hfr⟩ : ∃ fr, sealF ⟨rep, reg, pla, ver, inc⟩ body 64 = fr := ⟨_, rfl⟩
  rw [hfr] at hlen ⊢
  obtain ⟨d1, r1, hd1⟩ : ∃ d1 r1, writeD d (firstN reg pla) fr = (d1, r1) := ⟨_, _, rfl⟩
  rw [hd1]
  have HFR := Lib.hid hfr
  have HLN := Lib.hid hlen
  have HD1 := Lib.hid hd1
  clear hfr hlen hd1
  go_enter Tryz.func108, Tryz.ntmps108
  refine wp_seq_k (fun K hK => ?_)
  have HK := Lib.hid hK
  clear hK
  go_wp2
  refine HK.out _ _ ?_
  clear HK
  refine wp_seq_k (fun K hK => ?_)
  have HK := Lib.hid hK
  clear hK
  go_wp2_with fail
  have hbd := (Below.refl w.heap.size w).drew
  have hqd := tr_bl hbd hq
  have hsd := hs.below hbd
  have hdd := h.below hbd
  have hkd := Kt.of hbd hb
  refine wp_region_held_drew (S := fun w' => w'.heap[q]? = some (.cells (ceA g rep reg s0 t0 v0 s1 t1 v1) 200 (0, 0))) (by kernel_rfl) hqd (fun hS0 => ?_)
  generalize w.drew = x0 at *
  refine wpAnyH_take (i := 0) (oi := ⟨_, _, _, _, _, _⟩) (v := ?_) rfl (by kernel_rfl) (by kernel_rfl) (by kernel_rfl) (fun _ _ _ h => h) (Or.inl ⟨by rfl, ?_⟩) (by assumption) ?_
  rotate_left
  · intro wS hSw
    go_simp; (try with_reducible rfl)
  (try simp only [Act.put])
  (try simp only [List.setIfInBounds_toArray])
  (try simp only [List.set_cons_succ])
  (try simp only [List.set_cons_zero])
  refine wpAnyH_take (i := 1) (oi := ⟨_, _, _, _, _, _⟩) (v := ?_) rfl (by kernel_rfl) (by kernel_rfl) (by kernel_rfl) (fun _ _ _ h => h) (Or.inl ⟨by rfl, ?_⟩) (by assumption) ?_
  rotate_left
  · intro wS hSw
    go_simp; (try with_reducible rfl)
  (try simp only [Act.put])
  (try simp only [List.setIfInBounds_toArray])
  (try simp only [List.set_cons_succ])
  (try simp only [List.set_cons_zero])
  refine wpAnyH_take (i := 2) (oi := ⟨_, _, _, _, _, _⟩) (v := ?_) rfl (by kernel_rfl) (by kernel_rfl) (by kernel_rfl) (fun _ _ _ h => h) (Or.inl ⟨by rfl, ?_⟩) (by assumption) ?_
  rotate_left
  · intro wS hSw
    go_simp; (try with_reducible rfl)
  (try simp only [Act.put])
  (try simp only [List.setIfInBounds_toArray])
  (try simp only [List.set_cons_succ])
  (try simp only [List.set_cons_zero])
  refine wpAnyH_take (i := 3) (oi := ⟨_, _, _, _, _, _⟩) (v := ?_) rfl (by kernel_rfl) (by kernel_rfl) (by kernel_rfl) (fun _ _ _ h => h) (Or.inl ⟨by rfl, ?_⟩) (by assumption) ?_
  rotate_left
  · intro wS hSw
    have c := ceA_1 hSw; go_simp; (try with_reducible rfl)
  (try simp only [Act.put])
  (try simp only [List.setIfInBounds_toArray])
  (try simp only [List.set_cons_succ])
  (try simp only [List.set_cons_zero])
  refine wpAnyH_take (i := 4) (oi := ⟨_, _, _, _, _, _⟩) (v := ?_) rfl (by kernel_rfl) (by kernel_rfl) (by kernel_rfl) (fun _ _ _ h => h) (Or.inl ⟨by rfl, ?_⟩) (by assumption) ?_
  rotate_left
  · intro wS hSw
    go_simp; (try with_reducible rfl)
  (try simp only [Act.put])
  (try simp only [List.setIfInBounds_toArray])
  (try simp only [List.set_cons_succ])
  (try simp only [List.set_cons_zero])
  refine wpAnyH_take (i := 5) (oi := ⟨_, _, _, _, _, _⟩) (v := ?_) rfl (by kernel_rfl) (by kernel_rfl) (by kernel_rfl) (fun _ _ _ h => h) (Or.inl ⟨by rfl, ?_⟩) (by assumption) ?_
  rotate_left
  · intro wS hSw
    go_simp; (try with_reducible rfl)
  (try simp only [Act.put])
  (try simp only [List.setIfInBounds_toArray])
  (try simp only [List.set_cons_succ])
  (try simp only [List.set_cons_zero])
  refine wpAnyH_take (i := 6) (oi := ⟨_, _, _, _, _, _⟩) (v := ?_) rfl (by kernel_rfl) (by kernel_rfl) (by kernel_rfl) (fun _ _ _ h => h) (Or.inl ⟨by rfl, ?_⟩) (by assumption) ?_
  rotate_left
  · intro wS hSw
    go_simp; (try with_reducible rfl)
  (try simp only [Act.put])
  (try simp only [List.setIfInBounds_toArray])
  (try simp only [List.set_cons_succ])
  (try simp only [List.set_cons_zero])
  refine wpAnyH_take (i := 7) (oi := ⟨_, _, _, _, _, _⟩) (v := ?_) rfl (by kernel_rfl) (by kernel_rfl) (by kernel_rfl) (fun _ _ _ h => h) (Or.inl ⟨by rfl, ?_⟩) (by assumption) ?_
  rotate_left
  · intro wS hSw
    have c := ceA_2 hSw; go_simp; (try with_reducible rfl)
  (try simp only [Act.put])
  (try simp only [List.setIfInBounds_toArray])
  (try simp only [List.set_cons_succ])
  (try simp only [List.set_cons_zero])
  refine wpAnyH_take (i := 8) (oi := ⟨_, _, _, _, _, _⟩) (v := ?_) rfl (by kernel_rfl) (by kernel_rfl) (by kernel_rfl) (fun _ _ _ h => h) (Or.inl ⟨by rfl, ?_⟩) (by assumption) ?_
  rotate_left
  · intro wS hSw
    go_simp; (try with_reducible rfl)
  (try simp only [Act.put])
  (try simp only [List.setIfInBounds_toArray])
  (try simp only [List.set_cons_succ])
  (try simp only [List.set_cons_zero])
  refine wpAnyH_take (i := 9) (oi := ⟨_, _, _, _, _, _⟩) (v := ?_) rfl (by kernel_rfl) (by kernel_rfl) (by kernel_rfl) (fun _ _ _ h => h) (Or.inl ⟨by rfl, ?_⟩) (by assumption) ?_
  rotate_left
  · intro wS hSw
    go_simp; (try with_reducible rfl)
  (try simp only [Act.put])
  (try simp only [List.setIfInBounds_toArray])
  (try simp only [List.set_cons_succ])
  (try simp only [List.set_cons_zero])
  refine wpAnyH_take (i := 10) (oi := ⟨_, _, _, _, _, _⟩) (v := ?_) rfl (by kernel_rfl) (by kernel_rfl) (by kernel_rfl) (fun _ _ _ h => h) (Or.inl ⟨by rfl, ?_⟩) (by assumption) ?_
  rotate_left
  · intro wS hSw
    go_simp; (try with_reducible rfl)
  (try simp only [Act.put])
  (try simp only [List.setIfInBounds_toArray])
  (try simp only [List.set_cons_succ])
  (try simp only [List.set_cons_zero])
  refine wpAnyH_take (i := 11) (oi := ⟨_, _, _, _, _, _⟩) (v := ?_) rfl (by kernel_rfl) (by kernel_rfl) (by kernel_rfl) (fun _ _ _ h => h) (Or.inl ⟨by rfl, ?_⟩) (by assumption) ?_
  rotate_left
  · intro wS hSw
    go_simp; (try with_reducible rfl)
  (try simp only [Act.put])
  (try simp only [List.setIfInBounds_toArray])
  (try simp only [List.set_cons_succ])
  (try simp only [List.set_cons_zero])
  refine wpAnyH_take (i := 12) (oi := ⟨_, _, _, _, _, _⟩) (v := ?_) rfl (by kernel_rfl) (by kernel_rfl) (by kernel_rfl) (fun _ _ _ h => h) (Or.inl ⟨by rfl, ?_⟩) (by assumption) ?_
  rotate_left
  · intro wS hSw
    go_simp; (try with_reducible rfl)
  (try simp only [Act.put])
  (try simp only [List.setIfInBounds_toArray])
  (try simp only [List.set_cons_succ])
  (try simp only [List.set_cons_zero])
  refine wpAnyH_ready (rs := [13]) (by kernel_rfl) (by simp) ?_
  refine AllReadyH.cons (o := ⟨_, _, _, _, _, _⟩) rfl (fun K' hK' => ?_) AllReadyH.nil
  refine (if_pos (by rfl)).mpr ?_
  go_simp
  refine (seal1 ⟨rep, reg, pla, ver, inc⟩ a c body _ hsd HM.out hl).mono ?_
  rintro e w1 ⟨⟨gs, rfl, hgs, hsb⟩, hb1⟩
  rw [HFR.out] at hsb
  have hq1 := tr_bl hb1 hqd
  have hd1 := hdd.below hb1
  have hk1 := hkd.trans (Kt.of hb1 (Nat.le_trans hb hkd.bl.size))
  refine hK'.out _ _ hq1 (fun _ => ?_)
  clear hK' hb1 hS0 hqd hsd hdd hkd hbd hgs
  (try simp only [Act.put])
  (try simp only [List.setIfInBounds_toArray])
  (try simp only [List.set_cons_succ])
  (try simp only [List.set_cons_zero])
  refine wpAnyH_take (i := 14) (oi := ⟨_, _, _, _, _, _⟩) (v := ?_) rfl (by kernel_rfl) (by kernel_rfl) (by kernel_rfl) (fun _ _ _ h => h) (Or.inl ⟨by rfl, ?_⟩) (by assumption) ?_
  rotate_left
  · intro wS hSw
    go_simp; (try with_reducible rfl)
  (try simp only [Act.put])
  (try simp only [List.setIfInBounds_toArray])
  (try simp only [List.set_cons_succ])
  (try simp only [List.set_cons_zero])
  refine wpAnyH_take (i := 15) (oi := ⟨_, _, _, _, _, _⟩) (v := ?_) rfl (by kernel_rfl) (by kernel_rfl) (by kernel_rfl) (fun _ _ _ h => h) (Or.inl ⟨by rfl, ?_⟩) (by assumption) ?_
  rotate_left
  · intro wS hSw
    go_simp; (try with_reducible rfl)
  (try simp only [Act.put])
  (try simp only [List.setIfInBounds_toArray])
  (try simp only [List.set_cons_succ])
  (try simp only [List.set_cons_zero])
  refine wpAnyH_take (i := 16) (oi := ⟨_, _, _, _, _, _⟩) (v := ?_) rfl (by kernel_rfl) (by kernel_rfl) (by kernel_rfl) (fun _ _ _ h => h) (Or.inl ⟨by rfl, ?_⟩) (by assumption) ?_
  rotate_left
  · intro wS hSw
    go_simp; (try with_reducible rfl)
  (try simp only [Act.put])
  (try simp only [List.setIfInBounds_toArray])
  (try simp only [List.set_cons_succ])
  (try simp only [List.set_cons_zero])
  refine wpAnyH_take (i := 17) (oi := ⟨_, _, _, _, _, _⟩) (v := ?_) rfl (by kernel_rfl) (by kernel_rfl) (by kernel_rfl) (fun _ _ _ h => h) (Or.inl ⟨by rfl, ?_⟩) (by assumption) ?_
  rotate_left
  · intro wS hSw
    go_simp; (try with_reducible rfl)
  (try simp only [Act.put])
  (try simp only [List.setIfInBounds_toArray])
  (try simp only [List.set_cons_succ])
  (try simp only [List.set_cons_zero])
  refine wpAnyH_take (i := 18) (oi := ⟨_, _, _, _, _, _⟩) (v := ?_) rfl (by kernel_rfl) (by kernel_rfl) (by kernel_rfl) (fun _ _ _ h => h) (Or.inl ⟨by rfl, ?_⟩) (by assumption) ?_
  rotate_left
  · intro wS hSw
    go_simp; (try with_reducible rfl)
  (try simp only [Act.put])
  (try simp only [List.setIfInBounds_toArray])
  (try simp only [List.set_cons_succ])
  (try simp only [List.set_cons_zero])
  refine wpAnyH_done (by kernel_rfl) ?_ _
  refine HK.out _ _ ?_
  clear HK
  refine wp_seq_k (fun K hK => ?_)
  have HK := Lib.hid hK
  clear hK
  go_wp2
  refine HK.out _ _ ?_
  clear HK
  refine wp_seq_k (fun K hK => ?_)
  have HK2 := Lib.hid hK
  clear hK
  refine wp_seq_k (fun K hK => ?_)
  have HK := Lib.hid hK
  clear hK
  go_wp2_with fail
  have hbd := (Below.refl w1.heap.size w1).drew
  have hb1 := Nat.le_trans hb hk1.bl.size
  have hq2 := tr_bl hbd hq1
  have hd2 := hd1.below hbd
  have hs2 := tr_bl hbd hsb
  have hk2 := hk1.trans (Kt.of hbd hb1)
  have hb2 := Nat.le_trans hb hk2.bl.size
  clear hq1 hd1 hsb hk1 hbd hb1
  refine wp_region_held_drew (S := fun w' => w'.heap[q]? = some (.cells (ceA g rep reg s0 t0 v0 s1 t1 v1) 200 (0, 0))) (by kernel_rfl) hq2 (fun hS0 => ?_)
  generalize w1.drew = x1 at *
  refine wpAnyH_take (i := 0) (oi := ⟨_, _, _, _, _, _⟩) (v := ?_) rfl (by kernel_rfl) (by kernel_rfl) (by kernel_rfl) (fun _ _ _ h => h) (Or.inl ⟨by rfl, ?_⟩) (by assumption) ?_
  rotate_left
  · intro wS hSw
    go_simp; (try with_reducible rfl)
  (try simp only [Act.put])
  (try simp only [List.setIfInBounds_toArray])
  (try simp only [List.set_cons_succ])
  (try simp only [List.set_cons_zero])
  refine wpAnyH_take (i := 1) (oi := ⟨_, _, _, _, _, _⟩) (v := ?_) rfl (by kernel_rfl) (by kernel_rfl) (by kernel_rfl) (fun _ _ _ h => h) (Or.inl ⟨by rfl, ?_⟩) (by assumption) ?_
  rotate_left
  · intro wS hSw
    go_simp; (try with_reducible rfl)
  (try simp only [Act.put])
  (try simp only [List.setIfInBounds_toArray])
  (try simp only [List.set_cons_succ])
  (try simp only [List.set_cons_zero])
  refine wpAnyH_take (i := 2) (oi := ⟨_, _, _, _, _, _⟩) (v := ?_) rfl (by kernel_rfl) (by kernel_rfl) (by kernel_rfl) (fun _ _ _ h => h) (Or.inl ⟨by rfl, ?_⟩) (by assumption) ?_
  rotate_left
  · intro wS hSw
    go_simp; (try with_reducible rfl)
  (try simp only [Act.put])
  (try simp only [List.setIfInBounds_toArray])
  (try simp only [List.set_cons_succ])
  (try simp only [List.set_cons_zero])
  refine wpAnyH_take (i := 3) (oi := ⟨_, _, _, _, _, _⟩) (v := ?_) rfl (by kernel_rfl) (by kernel_rfl) (by kernel_rfl) (fun _ _ _ h => h) (Or.inl ⟨by rfl, ?_⟩) (by assumption) ?_
  rotate_left
  · intro wS hSw
    have c := ceA_0 hSw; go_simp; (try with_reducible rfl)
  (try simp only [Act.put])
  (try simp only [List.setIfInBounds_toArray])
  (try simp only [List.set_cons_succ])
  (try simp only [List.set_cons_zero])
  refine wpAnyH_take (i := 4) (oi := ⟨_, _, _, _, _, _⟩) (v := ?_) rfl (by kernel_rfl) (by kernel_rfl) (by kernel_rfl) (fun _ _ _ h => h) (Or.inl ⟨by rfl, ?_⟩) (by assumption) ?_
  rotate_left
  · intro wS hSw
    go_simp; (try with_reducible rfl)
  (try simp only [Act.put])
  (try simp only [List.setIfInBounds_toArray])
  (try simp only [List.set_cons_succ])
  (try simp only [List.set_cons_zero])
  refine wpAnyH_take (i := 5) (oi := ⟨_, _, _, _, _, _⟩) (v := ?_) rfl (by kernel_rfl) (by kernel_rfl) (by kernel_rfl) (fun _ _ _ h => h) (Or.inl ⟨by rfl, ?_⟩) (by assumption) ?_
  rotate_left
  · intro wS hSw
    go_simp; (try with_reducible rfl)
  (try simp only [Act.put])
  (try simp only [List.setIfInBounds_toArray])
  (try simp only [List.set_cons_succ])
  (try simp only [List.set_cons_zero])
  refine wpAnyH_take (i := 6) (oi := ⟨_, _, _, _, _, _⟩) (v := ?_) rfl (by kernel_rfl) (by kernel_rfl) (by kernel_rfl) (fun _ _ _ h => h) (Or.inl ⟨by rfl, ?_⟩) (by assumption) ?_
  rotate_left
  · intro wS hSw
    go_simp; (try with_reducible rfl)
  (try simp only [Act.put])
  (try simp only [List.setIfInBounds_toArray])
  (try simp only [List.set_cons_succ])
  (try simp only [List.set_cons_zero])
  refine wpAnyH_take (i := 7) (oi := ⟨_, _, _, _, _, _⟩) (v := ?_) rfl (by kernel_rfl) (by kernel_rfl) (by kernel_rfl) (fun _ _ _ h => h) (Or.inl ⟨by rfl, ?_⟩) (by assumption) ?_
  rotate_left
  · intro wS hSw
    have c := ceA_2 hSw; go_simp; (try with_reducible rfl)
  (try simp only [Act.put])
  (try simp only [List.setIfInBounds_toArray])
  (try simp only [List.set_cons_succ])
  (try simp only [List.set_cons_zero])
  refine wpAnyH_take (i := 8) (oi := ⟨_, _, _, _, _, _⟩) (v := ?_) rfl (by kernel_rfl) (by kernel_rfl) (by kernel_rfl) (fun _ _ _ h => h) (Or.inl ⟨by rfl, ?_⟩) (by assumption) ?_
  rotate_left
  · intro wS hSw
    go_simp; (try with_reducible rfl)
  (try simp only [Act.put])
  (try simp only [List.setIfInBounds_toArray])
  (try simp only [List.set_cons_succ])
  (try simp only [List.set_cons_zero])
  refine wpAnyH_take (i := 10) (oi := ⟨_, _, _, _, _, _⟩) (v := ?_) rfl (by kernel_rfl) (by kernel_rfl) (by kernel_rfl) (fun _ _ _ h => h) (Or.inl ⟨by rfl, ?_⟩) (by assumption) ?_
  rotate_left
  · intro wS hSw
    go_simp; (try with_reducible rfl)
  (try simp only [Act.put])
  (try simp only [List.setIfInBounds_toArray])
  (try simp only [List.set_cons_succ])
  (try simp only [List.set_cons_zero])
  refine wpAnyH_ready (rs := [9]) (by kernel_rfl) (by simp) ?_
  refine AllReadyH.cons (o := ⟨_, _, _, _, _, _⟩) rfl (fun K' hK' => ?_) AllReadyH.nil
  refine (if_pos (by rfl)).mpr ?_
  go_simp
  refine (first_any reg pla _).mono ?_
  rintro e w2 ⟨rfl, hb3⟩
  have hq3 := tr_bl hb3 hq2
  have hd3 := hd2.below hb3
  have hs3 := tr_bl hb3 hs2
  have hk3 := hk2.trans (Kt.of hb3 hb2)
  have hb4 := Nat.le_trans hb hk3.bl.size
  refine hK'.out _ _ hq3 (fun _ => ?_)
  clear hK' hb3 hS0 hq2 hd2 hs2 hk2 hb2
  (try simp only [Act.put])
  (try simp only [List.setIfInBounds_toArray])
  (try simp only [List.set_cons_succ])
  (try simp only [List.set_cons_zero])
  refine wpAnyH_ready (rs := [11]) (by kernel_rfl) (by simp) ?_
  refine AllReadyH.cons (o := ⟨_, _, _, _, _, _⟩) rfl (fun K' hK' => ?_) AllReadyH.nil
  refine (if_pos (by rfl)).mpr ?_
  go_simp
  have hwr := write_any hd3 hb4 (firstN reg pla) (some ⟨gs, 0, none⟩) 64 fr (fun w' hk => ⟨row_pre (ys := []) (by rw [List.append_nil]; exact hk.ty _ _ _ hs3 (by decide) (by decide) (by decide)), by rw [HLN.out]; omega, by unfold maxLen; omega, fun e => by cases e⟩) hw
  rw [HLN.out, HD1.out] at hwr
  refine hwr.mono ?_
  rintro e w3 ⟨rfl, ⟨wv4, hd4⟩, hk4⟩
  have hq4 := hk4.ty _ _ _ hq3 (by decide) (by decide) (by decide)
  have hk5 := hk3.trans hk4
  have hb5 := Nat.le_trans hb hk5.bl.size
  refine hK'.out _ _ hq4 (fun _ => ?_)
  clear hK' hwr hq3 hd3 hs3 hk3 hb4 hk4
  refine wpAnyH_take (i := 12) (oi := ⟨_, _, _, _, _, _⟩) (v := ?_) rfl (by kernel_rfl) (by kernel_rfl) (by kernel_rfl) (fun _ _ _ h => h) (Or.inl ⟨by rfl, ?_⟩) (by assumption) ?_
  rotate_left
  · intro wS hSw
    go_simp; (try with_reducible rfl)
  (try simp only [Act.put])
  (try simp only [List.setIfInBounds_toArray])
  (try simp only [List.set_cons_succ])
  (try simp only [List.set_cons_zero])
  refine wpAnyH_done (by kernel_rfl) ?_ _
  refine HK.out _ _ ?_
  clear HK
  simp only at hd4 ⊢
  by_cases h1 : r1 = 0
  case pos =>
    subst h1
    rw [if_neg (by simp)]
    go_wp2
    refine HK2.out _ _ ?_
    clear HK2
    have c0 := ceA_0 hq4
    go_wp2_with (go_at_call 144; refine (flush_any hd4 hb5).mono ?_; rintro e w5 ⟨rfl, hd6, hk6⟩)
    go_ret
    exact ⟨rfl, hd6, hk5.trans hk6⟩
  case neg =>
    rw [if_pos h1]
    have e1 : (r1 != 0) = true := by rw [bne_iff_ne]; exact h1
    go_wp2
    go_ret
    exact ⟨rfl, ⟨_, hd4⟩, hk5⟩
end
end Go.Proofs.YthfolocjkpiljaaGreatDoor

namespace Go.Proofs.YthfolocjkpiljaaGreatDoor
open Go.RowKit

theorem ce_s0 (g : Nat) (rep reg : Int) (s0 : Nat) (t0 : Tg) (v0 : Value) (s1 : Nat) (t1 : Tg) (v1 : Value) (s : Nat) : 3 + 1 ≤ (ceA g rep reg s0 t0 v0 s1 t1 v1).size ∧ (Value.int .u8 (s : Int)).cells.size = 1 ∧ (∀ u ∈ (Value.int .u8 (s : Int)).cells.toList, u.oneCell' = true) ∧ ((ceA g rep reg s0 t0 v0 s1 t1 v1).toList.take 3 ++ (Value.int .u8 (s : Int)).cells.toList ++ (ceA g rep reg s0 t0 v0 s1 t1 v1).toList.drop (3 + 1)).toArray = ceA g rep reg s t0 v0 s1 t1 v1 :=
  ⟨by show _ ≤ 17; omega, rfl, by simp [Value.cells, Value.oneCell'], rfl⟩
theorem ce_t0 (g : Nat) (rep reg : Int) (s0 : Nat) (t0 : Tg) (v0 : Value) (s1 : Nat) (t1 : Tg) (v1 : Value) (t : Tg) : 4 + 5 ≤ (ceA g rep reg s0 t0 v0 s1 t1 v1).size ∧ (tgV t).cells.size = 5 ∧ (∀ u ∈ (tgV t).cells.toList, u.oneCell' = true) ∧ ((ceA g rep reg s0 t0 v0 s1 t1 v1).toList.take 4 ++ (tgV t).cells.toList ++ (ceA g rep reg s0 t0 v0 s1 t1 v1).toList.drop (4 + 5)).toArray = ceA g rep reg s0 t v0 s1 t1 v1 :=
  ⟨by show _ ≤ 17; omega, rfl, by simp [Value.cells, Value.oneCell'], rfl⟩
theorem ce_v0 (g : Nat) (rep reg : Int) (s0 : Nat) (t0 : Tg) (v0 : Value) (s1 : Nat) (t1 : Tg) (v1 : Value) (a : Option Addr) (n c : Nat) : 9 + 1 ≤ (ceA g rep reg s0 t0 v0 s1 t1 v1).size ∧ (Value.slice a n c).cells.size = 1 ∧ (∀ u ∈ (Value.slice a n c).cells.toList, u.oneCell' = true) ∧ ((ceA g rep reg s0 t0 v0 s1 t1 v1).toList.take 9 ++ (Value.slice a n c).cells.toList ++ (ceA g rep reg s0 t0 v0 s1 t1 v1).toList.drop (9 + 1)).toArray = ceA g rep reg s0 t0 (.slice a n c) s1 t1 v1 :=
  ⟨by show _ ≤ 17; omega, rfl, by simp [Value.cells, Value.oneCell'], rfl⟩
theorem ce_s1 (g : Nat) (rep reg : Int) (s0 : Nat) (t0 : Tg) (v0 : Value) (s1 : Nat) (t1 : Tg) (v1 : Value) (s : Nat) : 10 + 1 ≤ (ceA g rep reg s0 t0 v0 s1 t1 v1).size ∧ (Value.int .u8 (s : Int)).cells.size = 1 ∧ (∀ u ∈ (Value.int .u8 (s : Int)).cells.toList, u.oneCell' = true) ∧ ((ceA g rep reg s0 t0 v0 s1 t1 v1).toList.take 10 ++ (Value.int .u8 (s : Int)).cells.toList ++ (ceA g rep reg s0 t0 v0 s1 t1 v1).toList.drop (10 + 1)).toArray = ceA g rep reg s0 t0 v0 s t1 v1 :=
  ⟨by show _ ≤ 17; omega, rfl, by simp [Value.cells, Value.oneCell'], rfl⟩
theorem ce_t1 (g : Nat) (rep reg : Int) (s0 : Nat) (t0 : Tg) (v0 : Value) (s1 : Nat) (t1 : Tg) (v1 : Value) (t : Tg) : 11 + 5 ≤ (ceA g rep reg s0 t0 v0 s1 t1 v1).size ∧ (tgV t).cells.size = 5 ∧ (∀ u ∈ (tgV t).cells.toList, u.oneCell' = true) ∧ ((ceA g rep reg s0 t0 v0 s1 t1 v1).toList.take 11 ++ (tgV t).cells.toList ++ (ceA g rep reg s0 t0 v0 s1 t1 v1).toList.drop (11 + 5)).toArray = ceA g rep reg s0 t0 v0 s1 t v1 :=
  ⟨by show _ ≤ 17; omega, rfl, by simp [Value.cells, Value.oneCell'], rfl⟩
theorem ce_v1 (g : Nat) (rep reg : Int) (s0 : Nat) (t0 : Tg) (v0 : Value) (s1 : Nat) (t1 : Tg) (v1 : Value) (a : Option Addr) (n c : Nat) : 16 + 1 ≤ (ceA g rep reg s0 t0 v0 s1 t1 v1).size ∧ (Value.slice a n c).cells.size = 1 ∧ (∀ u ∈ (Value.slice a n c).cells.toList, u.oneCell' = true) ∧ ((ceA g rep reg s0 t0 v0 s1 t1 v1).toList.take 16 ++ (Value.slice a n c).cells.toList ++ (ceA g rep reg s0 t0 v0 s1 t1 v1).toList.drop (16 + 1)).toArray = ceA g rep reg s0 t0 v0 s1 t1 (.slice a n c) :=
  ⟨by show _ ≤ 17; omega, rfl, by simp [Value.cells, Value.oneCell'], rfl⟩
def ceZ (g : Nat) (rep reg : Int) : Array Value := ceA g rep reg 0 zeroTg (.slice none 0 0) 0 zeroTg (.slice none 0 0)
theorem build_ce (g : Nat) (rep reg : Int) (w : World) : (Instr.build 200 #[(0, .pointer (some ⟨g, 0, none⟩)), (1, .int .i64 rep), (2, .int .i64 reg)]).run Tryz.prog w = .ok (.agg (ceZ g rep reg)) w := by kernel_rfl
theorem lastW_mem : ∀ {l : List (List UInt8 × Nat)} {s : Nat} {b : List UInt8}, lastW l s = some b → ∃ x ∈ l, x.1 = b
  | [], _, _, h => by cases h
  | (c, k) :: l, s, b, h => by
    unfold lastW at h
    cases hl : lastW l s with
    | some x =>
      rw [hl] at h
      simp only [Option.some.injEq] at h
      subst h
      obtain ⟨y, hy, e⟩ := lastW_mem hl
      exact ⟨y, List.mem_cons_of_mem _ hy, e⟩
    | none =>
      rw [hl] at h
      simp only at h
      split at h
      · injection h with h
        exact ⟨(c, k), List.mem_cons_self, h⟩
      · cases h
theorem read_len {B g gp : Nat} {wv : Value} {d : Dk} {w : World} (h : DiskB B g gp wv d w) (s : Int) : ((readD d s).2 = 0 → (readD d s).1.length = 64) ∧ ((readD d s).2 ≠ 0 → (readD d s).1 = []) := by
  unfold readD
  by_cases h0 : liveD d s = 0
  · rw [if_neg (by simpa using h0)]
    cases hl : lastW d.waits s.toNat with
    | some b =>
      obtain ⟨x, hx, e⟩ := lastW_mem hl
      simp only
      exact ⟨fun _ => by rw [← e]; exact (h.wk x hx).1, fun hh => absurd rfl hh⟩
    | none =>
      simp only
      cases hp : d.pl[s.toNat]? with
      | none => exact ⟨(fun hh => by cases hh), fun _ => rfl⟩
      | some p =>
        simp only
        by_cases hlo : p.lost = true
        · rw [if_pos hlo]
          exact ⟨(fun hh => by cases hh), fun _ => rfl⟩
        · rw [if_neg hlo]
          exact ⟨fun _ => (h.ok p (List.mem_of_getElem? hp)).1, fun hh => absurd rfl hh⟩
  · rw [if_pos (by simpa using h0)]
    exact ⟨fun hh => absurd hh h0, fun _ => rfl⟩
/-- A read, as one slice. -/
theorem read_slb {B g gp : Nat} {wv : Value} {d : Dk} {w : World} (h : DiskB B g gp wv d w) (s : Int) : Calls Tryz.prog 197 #[.pointer (some ⟨g, 0, none⟩), .int .i64 s] w fun e w' => (∃ a c, e = .returned (.tuple #[.slice a (readD d s).1.length c, .int .i64 (readD d s).2]) ∧ SlB w' a c (readD d s).1) ∧ Below w.heap.size w w' := by
  obtain ⟨h1, h2⟩ := read_len h s
  refine (read_any h s).mono ?_
  rintro e w' ⟨hr, hb⟩
  refine ⟨?_, hb⟩
  unfold ReadRes at hr
  by_cases h0 : (readD d s).2 = 0
  · rw [if_pos h0] at hr
    obtain ⟨a, c, rfl, ho⟩ := hr
    rw [h1 h0, h0]
    obtain ⟨_, _, e, hs⟩ := SlB.of_owns (l := (readD d s).1) (by rw [h1 h0]; exact ho)
    rw [h1 h0] at e
    cases e
    exact ⟨a, c, rfl, hs⟩
  · rw [if_neg h0] at hr
    rw [h2 h0]
    exact ⟨none, 0, hr, ⟨.inl rfl, Nat.le_refl _, by simp, fun _ => rfl⟩⟩
end Go.Proofs.YthfolocjkpiljaaGreatDoor

namespace Go.Proofs.YthfolocjkpiljaaGreatDoor
open Go.RowKit

/-- What open hands back. -/
def OpenRes (base g : Nat) (d : Dk) (rep reg : Int) (e : Ending) (w' : World) : Prop :=
  if openC d rep reg = 0 then ∃ q a0 k0 a1 k1, e = .returned (.tuple #[.pointer (some ⟨q, 0, none⟩), .int .i64 0]) ∧ base ≤ q ∧
    w'.heap[q]? = some (.cells (ceA g rep reg (copyC d rep reg 0).st (copyC d rep reg 0).tg (.slice a0 (copyC d rep reg 0).body.length k0) (copyC d rep reg 1).st (copyC d rep reg 1).tg (.slice a1 (copyC d rep reg 1).body.length k1)) 200 (0, 0)) ∧
    OwnB w' base a0 k0 (copyC d rep reg 0).body ∧ OwnB w' base a1 k1 (copyC d rep reg 1).body
  else e = .returned (.tuple #[.pointer none, .int .i64 (openC d rep reg)])
theorem OpenRes.err {base g : Nat} {d : Dk} {rep reg x : Int} {w' : World} (h : openC d rep reg = x) (hx : x ≠ 0) : OpenRes base g d rep reg (.returned (.tuple #[.pointer none, .int .i64 x])) w' := by
  unfold OpenRes
  rw [h, if_neg hx]
def CpIn (w' : World) (base q g : Nat) (rep reg : Int) (c0 c1 : Cp) : Nat → Prop
  | 0 => w'.heap[q]? = some (.cells (ceZ g rep reg) 200 (0, 0))
  | 1 => ∃ a0 k0, w'.heap[q]? = some (.cells (ceA g rep reg c0.st c0.tg (.slice a0 c0.body.length k0) 0 zeroTg (.slice none 0 0)) 200 (0, 0)) ∧ OwnB w' base a0 k0 c0.body
  | _ => ∃ a0 k0 a1 k1, w'.heap[q]? = some (.cells (ceA g rep reg c0.st c0.tg (.slice a0 c0.body.length k0) c1.st c1.tg (.slice a1 c1.body.length k1)) 200 (0, 0)) ∧ OwnB w' base a0 k0 c0.body ∧ OwnB w' base a1 k1 c1.body
section
variable {B g gp : Nat} {wv : Value} {d : Dk} {w : World}
set_option maxRecDepth 100000 in
set_option maxHeartbeats 1000000 in
theorem copen_err (h : DiskB B g gp wv d w) (rep reg : Int) (ho : openC d rep reg ≠ 0) : Calls Tryz.prog 105 #[.pointer (some ⟨g, 0, none⟩), .int .i64 rep, .int .i64 reg] w fun e w' => OpenRes w.heap.size g d rep reg e w' ∧ Below w.heap.size w w' := by
  have h0 : ((d.pl.length : Int) == 0) = false := by have := h.n0; rw [beq_eq_false_iff_ne]; omega
  have hn : ¬ d.pl.length = 0 := by have := h.n0; omega
  unfold openC at ho
  rw [if_neg hn] at ho
  by_cases hc : d.pl.length < 156 ∨ (reg ≠ 1 ∧ reg ≠ 2) ∨ rep < 0 ∨ 7 ≤ rep
  case pos =>
    have HO := Lib.hid (show openC d rep reg = 2 by unfold openC; rw [if_neg hn, if_pos hc])
    have HU := Lib.hid (rfl : upD d = upD d)
    clear ho hn
    by_cases k1 : d.pl.length < 156
    case pos =>
      have e1 : (d.pl.length : Int) < 156 := by omega
      go_enter Tryz.func105, Tryz.ntmps105
      go_wp2_with (first
        | (go_at_call 93; refine (dsize ‹_›).mono ?_; rintro e w1 ⟨rfl, rfl⟩)
        | (go_at_call 127; refine (all_any _).mono ?_; rintro e w1 ⟨rfl, hb1⟩; have h1 := h.below hb1)
        | (go_at_call 129; refine (up_any h1).mono ?_; rintro e w2 ⟨rfl, rfl⟩; rw [HU.out]))
      go_ret2
      exact ⟨OpenRes.err HO.out (by decide), hb1⟩
    case neg =>
      have e1 : ¬ (d.pl.length : Int) < 156 := by omega
      by_cases k2 : reg ≠ 1 ∧ reg ≠ 2
      case pos =>
        have e2 : (reg != 1) = true := by rw [bne_iff_ne]; exact k2.1
        have e3 : (reg != 2) = true := by rw [bne_iff_ne]; exact k2.2
        clear k2 hc
        go_enter Tryz.func105, Tryz.ntmps105
        go_wp2_with (first
          | (go_at_call 93; refine (dsize ‹_›).mono ?_; rintro e w1 ⟨rfl, rfl⟩)
          | (go_at_call 127; refine (all_any _).mono ?_; rintro e w1 ⟨rfl, hb1⟩; have h1 := h.below hb1)
          | (go_at_call 129; refine (up_any h1).mono ?_; rintro e w2 ⟨rfl, rfl⟩; rw [HU.out]))
        go_ret2
        exact ⟨OpenRes.err HO.out (by decide), hb1⟩
      case neg =>
        have hc' : rep < 0 ∨ 7 ≤ rep := by
          rcases hc with h | h | h
          · exact absurd h k1
          · exact absurd h k2
          · exact h
        have hr : reg = 1 ∨ reg = 2 := by omega
        clear k2 hc
        rcases hr with rfl | rfl
        · rcases hc' with k3 | k3
          · skip
            go_enter Tryz.func105, Tryz.ntmps105
            go_wp2_with (first
              | (go_at_call 93; refine (dsize ‹_›).mono ?_; rintro e w1 ⟨rfl, rfl⟩)
              | (go_at_call 127; refine (all_any _).mono ?_; rintro e w1 ⟨rfl, hb1⟩; have h1 := h.below hb1)
              | (go_at_call 129; refine (up_any h1).mono ?_; rintro e w2 ⟨rfl, rfl⟩; rw [HU.out]))
            go_ret2
            exact ⟨OpenRes.err HO.out (by decide), hb1⟩
          · have k4 : ¬ rep < 0 := by omega
            go_enter Tryz.func105, Tryz.ntmps105
            go_wp2_with (first
              | (go_at_call 93; refine (dsize ‹_›).mono ?_; rintro e w1 ⟨rfl, rfl⟩)
              | (go_at_call 127; refine (all_any _).mono ?_; rintro e w1 ⟨rfl, hb1⟩; have h1 := h.below hb1)
              | (go_at_call 129; refine (up_any h1).mono ?_; rintro e w2 ⟨rfl, rfl⟩; rw [HU.out]))
            go_ret2
            exact ⟨OpenRes.err HO.out (by decide), hb1⟩
        · rcases hc' with k3 | k3
          · skip
            go_enter Tryz.func105, Tryz.ntmps105
            go_wp2_with (first
              | (go_at_call 93; refine (dsize ‹_›).mono ?_; rintro e w1 ⟨rfl, rfl⟩)
              | (go_at_call 127; refine (all_any _).mono ?_; rintro e w1 ⟨rfl, hb1⟩; have h1 := h.below hb1)
              | (go_at_call 129; refine (up_any h1).mono ?_; rintro e w2 ⟨rfl, rfl⟩; rw [HU.out]))
            go_ret2
            exact ⟨OpenRes.err HO.out (by decide), hb1⟩
          · have k4 : ¬ rep < 0 := by omega
            go_enter Tryz.func105, Tryz.ntmps105
            go_wp2_with (first
              | (go_at_call 93; refine (dsize ‹_›).mono ?_; rintro e w1 ⟨rfl, rfl⟩)
              | (go_at_call 127; refine (all_any _).mono ?_; rintro e w1 ⟨rfl, hb1⟩; have h1 := h.below hb1)
              | (go_at_call 129; refine (up_any h1).mono ?_; rintro e w2 ⟨rfl, rfl⟩; rw [HU.out]))
            go_ret2
            exact ⟨OpenRes.err HO.out (by decide), hb1⟩
  case neg =>
    rw [if_neg hc] at ho
    have hu : upD d = false := by
      cases hu : upD d
      · rfl
      · rw [hu] at ho
        simp at ho
    have HO := Lib.hid (show openC d rep reg = 5 by unfold openC; rw [if_neg hn, if_neg hc, if_pos hu])
    have HU := Lib.hid hu
    have e1 : ¬ (d.pl.length : Int) < 156 := by omega
    have k3 : 0 ≤ rep := by omega
    have k4 : rep < 7 := by omega
    have hr : reg = 1 ∨ reg = 2 := by omega
    clear ho hn hc hu
    rcases hr with rfl | rfl
    · skip
      go_enter Tryz.func105, Tryz.ntmps105
      go_wp2_with (first
        | (go_at_call 93; refine (dsize ‹_›).mono ?_; rintro e w1 ⟨rfl, rfl⟩)
        | (go_at_call 127; refine (all_any _).mono ?_; rintro e w1 ⟨rfl, hb1⟩; have h1 := h.below hb1)
        | (go_at_call 129; refine (up_any h1).mono ?_; rintro e w2 ⟨rfl, rfl⟩; rw [HU.out]))
      go_ret2
      exact ⟨OpenRes.err HO.out (by decide), hb1⟩
    · skip
      go_enter Tryz.func105, Tryz.ntmps105
      go_wp2_with (first
        | (go_at_call 93; refine (dsize ‹_›).mono ?_; rintro e w1 ⟨rfl, rfl⟩)
        | (go_at_call 127; refine (all_any _).mono ?_; rintro e w1 ⟨rfl, hb1⟩; have h1 := h.below hb1)
        | (go_at_call 129; refine (up_any h1).mono ?_; rintro e w2 ⟨rfl, rfl⟩; rw [HU.out]))
      go_ret2
      exact ⟨OpenRes.err HO.out (by decide), hb1⟩
end
end Go.Proofs.YthfolocjkpiljaaGreatDoor

namespace Go.Proofs.YthfolocjkpiljaaGreatDoor
open Go.RowKit

section
variable {B g gp : Nat} {wv : Value} {d : Dk} {w : World}
set_option maxRecDepth 100000 in
set_option maxHeartbeats 2000000 in
theorem copen_ok (h : DiskB B g gp wv d w) (rep reg : Int) (ho : openC d rep reg = 0) : Calls Tryz.prog 105 #[.pointer (some ⟨g, 0, none⟩), .int .i64 rep, .int .i64 reg] w fun e w' => OpenRes w.heap.size g d rep reg e w' ∧ Below w.heap.size w w' := by
  have h0 : ((d.pl.length : Int) == 0) = false := by have := h.n0; rw [beq_eq_false_iff_ne]; omega
  have HO := Lib.hid ho
  unfold openC at ho
  rw [if_neg (by have := h.n0; omega)] at ho
  obtain ⟨e1, hr, k3, k4, hu⟩ : 156 ≤ d.pl.length ∧ (reg = 1 ∨ reg = 2) ∧ 0 ≤ rep ∧ rep < 7 ∧ upD d = true := by
    split at ho
    · cases ho
    · split at ho
      · cases ho
      · rename_i h1 h2
        refine ⟨by omega, by omega, by omega, by omega, by simpa using h2⟩
  have e2 : ¬ (d.pl.length : Int) < 156 := by omega
  have r1 : ((reg != 1) = true ∧ (reg != 2) = false) ∨ (reg != 1) = false := by
    rcases hr with rfl | rfl
    · exact .inr rfl
    · exact .inl ⟨rfl, rfl⟩
  have HU := Lib.hid hu
  have HR := Lib.hid hr
  clear ho hu hr
  go_enter Tryz.func105, Tryz.ntmps105
  refine wp_seq_k (fun K hK => ?_)
  have HK := Lib.hid hK
  clear hK
  go_wp2
  refine HK.out _ _ ?_
  clear HK
  refine wp_seq_k (fun K hK => ?_)
  go_cut [0] (fun v w' => v = .pointer (some ⟨g, 0, none⟩) ∧ Below w.heap.size w w')
  case first =>
    rcases r1 with ⟨r1, r2⟩ | r1
    all_goals
      go_wp2_with (first
        | (go_at_call 93; refine (dsize ‹_›).mono ?_; rintro e w1 ⟨rfl, rfl⟩)
        | (go_at_call 127; refine (all_any _).mono ?_; rintro e w1 ⟨rfl, hb1⟩; have h1 := h.below hb1)
        | (go_at_call 129; refine (up_any h1).mono ?_; rintro e w2 ⟨rfl, rfl⟩; rw [HU.out]))
      go_meet
      exact ⟨rfl, hb1⟩
  obtain ⟨rfl, hbc⟩ := hcut
  refine hK _ _ ?_
  clear hK
  refine wp_seq_k (fun K hK => ?_)
  have HK := Lib.hid hK
  clear hK
  go_wp2
  refine HK.out _ _ ?_
  clear HK
  change Code.wp _ _ _ _ (wc.alloc (Obj.cells (ceZ g rep reg) 200))
  have hbox := heap_alloc_new wc (Obj.cells (ceZ g rep reg) 200)
  have hbr := hbc.alloc hbc.size (Obj.cells (ceZ g rep reg) 200)
  have hq := hbc.size
  generalize wc.alloc (Obj.cells (ceZ g rep reg) 200) = wd at *
  generalize wc.heap.size = q at *
  clear h0 e2 r1 hbc
  refine wp_seq_k (fun K hK => ?_)
  have HK := Lib.hid hK
  clear hK
  go_wp2_with fail
  go_loopw [46] (fun i wr => ∃ j : Nat, j ≤ 2 ∧ i = .int .i64 (j : Nat) ∧ CpIn wr w.heap.size q g rep reg (copyC d rep reg 0) (copyC d rep reg 1) j ∧ Below w.heap.size w wr) (fun i _ => 2 - (intOf i).toNat)
  case atStart => exact ⟨0, by omega, rfl, hbox, hbr⟩
  case round =>
    clear hbox hbr
    obtain ⟨j, hj, rfl, hin, hbr⟩ := hrel
    have h2 : j = 0 ∨ j = 1 ∨ j = 2 := by omega
    rcases h2 with rfl | rfl | rfl
    · have hbox : wr.heap[q]? = some (.cells (ceZ g rep reg) 200 (0, 0)) := hin
      clear hin
      have hdr := h.below hbr
      obtain ⟨bs, re, hbs⟩ : ∃ bs re, readD d (firstN reg 0) = (bs, re) := ⟨_, _, rfl⟩
      obtain ⟨st, tg, body, hmi⟩ : ∃ st tg body, mineF bs rep reg 0 = (st, tg, body) := ⟨_, _, _, rfl⟩
      have hcp : copyC d rep reg 0 = ⟨st, tg, body⟩ := by unfold copyC; rw [hbs]; simp only; rw [hmi]
      have hbl : bs.length ≤ 1000 := by
        have := read_len hdr (firstN reg 0)
        rw [hbs] at this
        simp only at this
        by_cases h0 : re = 0
        · rw [this.1 h0]; omega
        · rw [this.2 h0]; simp
      have HBS := Lib.hid hbs
      have HMI := Lib.hid hmi
      have HCP := Lib.hid hcp
      clear hbs hmi hcp
      refine wp_seq_k (fun K hK => ?_)
      have HK := Lib.hid hK
      clear hK
      go_wp2
      refine HK.out _ _ ?_
      clear HK
      refine wp_seq_k (fun K hK => ?_)
      have HK := Lib.hid hK
      clear hK
      go_wp2
      refine HK.out _ _ ?_
      clear HK
      refine wp_seq_k (fun K hK => ?_)
      have HK9 := Lib.hid hK
      clear hK
      go_wp2_with (first
        | (go_at_call 89; refine (first_any reg 0 _).mono ?_; rintro e w1 ⟨rfl, hb1⟩; have hd1 := hdr.below hb1; have A1 := tr_bl hb1 hbox)
        | (go_at_call 197; have hrd := read_slb hd1 (firstN reg 0); rw [HBS.out] at hrd; refine hrd.mono ?_; rintro e w2 ⟨⟨a2, c2, rfl, hs2⟩, hb2⟩; clear hrd))
      have A2 := tr_bl hb2 A1
      have hb12 := hb1.trans (hb2.mono hb1.size)
      have hb3 := hbr.trans (hb12.mono hbr.size)
      clear A1 hb1 hb2 hd1 hdr
      have hbd := (Below.refl w2.heap.size w2).drew
      have A3 := tr_bl hbd A2
      have hs3 := hs2.below hbd
      have hb4 := hb3.trans (hbd.mono hb3.size)
      refine wp_region_held_drew (S := fun _ => True) (by kernel_rfl) trivial (fun hS0 => ?_)
      clear A2 hs2 hb3
      generalize w2.drew = x0 at *
      refine wpAnyH_take (i := 0) (oi := ⟨_, _, _, _, _, _⟩) (v := ?_) rfl (by kernel_rfl) (by kernel_rfl) (by kernel_rfl) (fun _ _ _ h => h) (Or.inl ⟨by rfl, ?_⟩) (by assumption) ?_
      rotate_left
      · intro wS hSw
        go_simp; (try with_reducible rfl)
      (try simp only [Act.put])
      (try simp only [List.setIfInBounds_toArray])
      (try simp only [List.set_cons_succ])
      (try simp only [List.set_cons_zero])
      refine wpAnyH_take (i := 1) (oi := ⟨_, _, _, _, _, _⟩) (v := ?_) rfl (by kernel_rfl) (by kernel_rfl) (by kernel_rfl) (fun _ _ _ h => h) (Or.inl ⟨by rfl, ?_⟩) (by assumption) ?_
      rotate_left
      · intro wS hSw
        go_simp; (try with_reducible rfl)
      (try simp only [Act.put])
      (try simp only [List.setIfInBounds_toArray])
      (try simp only [List.set_cons_succ])
      (try simp only [List.set_cons_zero])
      refine wpAnyH_take (i := 2) (oi := ⟨_, _, _, _, _, _⟩) (v := ?_) rfl (by kernel_rfl) (by kernel_rfl) (by kernel_rfl) (fun _ _ _ h => h) (Or.inl ⟨by rfl, ?_⟩) (by assumption) ?_
      rotate_left
      · intro wS hSw
        go_simp; (try with_reducible rfl)
      (try simp only [Act.put])
      (try simp only [List.setIfInBounds_toArray])
      (try simp only [List.set_cons_succ])
      (try simp only [List.set_cons_zero])
      refine wpAnyH_take (i := 3) (oi := ⟨_, _, _, _, _, _⟩) (v := ?_) rfl (by kernel_rfl) (by kernel_rfl) (by kernel_rfl) (fun _ _ _ h => h) (Or.inl ⟨by rfl, ?_⟩) (by assumption) ?_
      rotate_left
      · intro wS hSw
        go_simp; (try with_reducible rfl)
      (try simp only [Act.put])
      (try simp only [List.setIfInBounds_toArray])
      (try simp only [List.set_cons_succ])
      (try simp only [List.set_cons_zero])
      refine wpAnyH_take (i := 4) (oi := ⟨_, _, _, _, _, _⟩) (v := ?_) rfl (by kernel_rfl) (by kernel_rfl) (by kernel_rfl) (fun _ _ _ h => h) (Or.inl ⟨by rfl, ?_⟩) (by assumption) ?_
      rotate_left
      · intro wS hSw
        go_simp; (try with_reducible rfl)
      (try simp only [Act.put])
      (try simp only [List.setIfInBounds_toArray])
      (try simp only [List.set_cons_succ])
      (try simp only [List.set_cons_zero])
      refine wpAnyH_take (i := 5) (oi := ⟨_, _, _, _, _, _⟩) (v := ?_) rfl (by kernel_rfl) (by kernel_rfl) (by kernel_rfl) (fun _ _ _ h => h) (Or.inl ⟨by rfl, ?_⟩) (by assumption) ?_
      rotate_left
      · intro wS hSw
        go_simp; (try with_reducible rfl)
      (try simp only [Act.put])
      (try simp only [List.setIfInBounds_toArray])
      (try simp only [List.set_cons_succ])
      (try simp only [List.set_cons_zero])
      refine wpAnyH_take (i := 6) (oi := ⟨_, _, _, _, _, _⟩) (v := ?_) rfl (by kernel_rfl) (by kernel_rfl) (by kernel_rfl) (fun _ _ _ h => h) (Or.inl ⟨by rfl, ?_⟩) (by assumption) ?_
      rotate_left
      · intro wS hSw
        go_simp; (try with_reducible rfl)
      (try simp only [Act.put])
      (try simp only [List.setIfInBounds_toArray])
      (try simp only [List.set_cons_succ])
      (try simp only [List.set_cons_zero])
      refine wpAnyH_take (i := 7) (oi := ⟨_, _, _, _, _, _⟩) (v := ?_) rfl (by kernel_rfl) (by kernel_rfl) (by kernel_rfl) (fun _ _ _ h => h) (Or.inl ⟨by rfl, ?_⟩) (by assumption) ?_
      rotate_left
      · intro wS hSw
        go_simp; (try with_reducible rfl)
      (try simp only [Act.put])
      (try simp only [List.setIfInBounds_toArray])
      (try simp only [List.set_cons_succ])
      (try simp only [List.set_cons_zero])
      refine wpAnyH_take (i := 8) (oi := ⟨_, _, _, _, _, _⟩) (v := ?_) rfl (by kernel_rfl) (by kernel_rfl) (by kernel_rfl) (fun _ _ _ h => h) (Or.inl ⟨by rfl, ?_⟩) (by assumption) ?_
      rotate_left
      · intro wS hSw
        go_simp; (try with_reducible rfl)
      (try simp only [Act.put])
      (try simp only [List.setIfInBounds_toArray])
      (try simp only [List.set_cons_succ])
      (try simp only [List.set_cons_zero])
      refine wpAnyH_take (i := 9) (oi := ⟨_, _, _, _, _, _⟩) (v := ?_) rfl (by kernel_rfl) (by kernel_rfl) (by kernel_rfl) (fun _ _ _ h => h) (Or.inl ⟨by rfl, ?_⟩) (by assumption) ?_
      rotate_left
      · intro wS hSw
        go_simp; (try with_reducible rfl)
      (try simp only [Act.put])
      (try simp only [List.setIfInBounds_toArray])
      (try simp only [List.set_cons_succ])
      (try simp only [List.set_cons_zero])
      refine wpAnyH_take (i := 15) (oi := ⟨_, _, _, _, _, _⟩) (v := ?_) rfl (by kernel_rfl) (by kernel_rfl) (by kernel_rfl) (fun _ _ _ h => h) (Or.inl ⟨by rfl, ?_⟩) (by assumption) ?_
      rotate_left
      · intro wS hSw
        go_simp; (try with_reducible rfl)
      (try simp only [Act.put])
      (try simp only [List.setIfInBounds_toArray])
      (try simp only [List.set_cons_succ])
      (try simp only [List.set_cons_zero])
      refine wpAnyH_take (i := 16) (oi := ⟨_, _, _, _, _, _⟩) (v := ?_) rfl (by kernel_rfl) (by kernel_rfl) (by kernel_rfl) (fun _ _ _ h => h) (Or.inl ⟨by rfl, ?_⟩) (by assumption) ?_
      rotate_left
      · intro wS hSw
        go_simp; (try with_reducible rfl)
      (try simp only [Act.put])
      (try simp only [List.setIfInBounds_toArray])
      (try simp only [List.set_cons_succ])
      (try simp only [List.set_cons_zero])
      refine wpAnyH_take (i := 20) (oi := ⟨_, _, _, _, _, _⟩) (v := ?_) rfl (by kernel_rfl) (by kernel_rfl) (by kernel_rfl) (fun _ _ _ h => h) (Or.inl ⟨by rfl, ?_⟩) (by assumption) ?_
      rotate_left
      · intro wS hSw
        go_simp; (try with_reducible rfl)
      (try simp only [Act.put])
      (try simp only [List.setIfInBounds_toArray])
      (try simp only [List.set_cons_succ])
      (try simp only [List.set_cons_zero])
      refine wpAnyH_take (i := 21) (oi := ⟨_, _, _, _, _, _⟩) (v := ?_) rfl (by kernel_rfl) (by kernel_rfl) (by kernel_rfl) (fun _ _ _ h => h) (Or.inl ⟨by rfl, ?_⟩) (by assumption) ?_
      rotate_left
      · intro wS hSw
        go_simp; (try with_reducible rfl)
      (try simp only [Act.put])
      (try simp only [List.setIfInBounds_toArray])
      (try simp only [List.set_cons_succ])
      (try simp only [List.set_cons_zero])
      refine wpAnyH_take (i := 25) (oi := ⟨_, _, _, _, _, _⟩) (v := ?_) rfl (by kernel_rfl) (by kernel_rfl) (by kernel_rfl) (fun _ _ _ h => h) (Or.inl ⟨by rfl, ?_⟩) (by assumption) ?_
      rotate_left
      · intro wS hSw
        go_simp; (try with_reducible rfl)
      (try simp only [Act.put])
      (try simp only [List.setIfInBounds_toArray])
      (try simp only [List.set_cons_succ])
      (try simp only [List.set_cons_zero])
      refine wpAnyH_take (i := 26) (oi := ⟨_, _, _, _, _, _⟩) (v := ?_) rfl (by kernel_rfl) (by kernel_rfl) (by kernel_rfl) (fun _ _ _ h => h) (Or.inl ⟨by rfl, ?_⟩) (by assumption) ?_
      rotate_left
      · intro wS hSw
        go_simp; (try with_reducible rfl)
      (try simp only [Act.put])
      (try simp only [List.setIfInBounds_toArray])
      (try simp only [List.set_cons_succ])
      (try simp only [List.set_cons_zero])
      refine wpAnyH_ready (rs := [10]) (by kernel_rfl) (by simp) ?_
      refine AllReadyH.cons (o := ⟨_, _, _, _, _, _⟩) rfl (fun K' hK' => ?_) AllReadyH.nil
      refine (if_pos (by rfl)).mpr ?_
      go_simp
      refine (mine_any a2 c2 bs rep reg 0 _ hs3 hbl).mono ?_
      rintro e w3 ⟨⟨a4, c4, rfl, ho4⟩, hb5⟩
      rw [HMI.out] at ho4 ⊢
      simp only at ho4 ⊢
      have A4 := tr_bl hb5 A3
      have hb6 := hb4.trans (hb5.mono hb4.size)
      have ho5 := ho4.mono hb4.size
      have ox := OwnB.none w3 w.heap.size
      refine hK'.out _ _ trivial (fun _ => ?_)
      clear hK' A3 hs3 hb4 hb5 ho4 hbd
      (try simp only [Act.put])
      (try simp only [List.setIfInBounds_toArray])
      (try simp only [List.set_cons_succ])
      (try simp only [List.set_cons_zero])
      refine wpAnyH_take (i := 11) (oi := ⟨_, _, _, _, _, _⟩) (v := ?_) rfl (by kernel_rfl) (by kernel_rfl) (by kernel_rfl) (fun _ _ _ h => h) (Or.inl ⟨by rfl, ?_⟩) (by assumption) ?_
      rotate_left
      · intro wS hSw
        go_simp; (try with_reducible rfl)
      (try simp only [Act.put])
      (try simp only [List.setIfInBounds_toArray])
      (try simp only [List.set_cons_succ])
      (try simp only [List.set_cons_zero])
      refine wpAnyH_take (i := 12) (oi := ⟨_, _, _, _, _, _⟩) (v := ?_) rfl (by kernel_rfl) (by kernel_rfl) (by kernel_rfl) (fun _ _ _ h => h) (Or.inl ⟨by rfl, ?_⟩) (by assumption) ?_
      rotate_left
      · intro wS hSw
        go_simp; (try with_reducible rfl)
      (try simp only [Act.put])
      (try simp only [List.setIfInBounds_toArray])
      (try simp only [List.set_cons_succ])
      (try simp only [List.set_cons_zero])
      refine wpAnyH_take (i := 13) (oi := ⟨_, _, _, _, _, _⟩) (v := ?_) rfl (by kernel_rfl) (by kernel_rfl) (by kernel_rfl) (fun _ _ _ h => h) (Or.inl ⟨by rfl, ?_⟩) (by assumption) ?_
      rotate_left
      · intro wS hSw
        go_simp; (try with_reducible rfl)
      (try simp only [Act.put])
      (try simp only [List.setIfInBounds_toArray])
      (try simp only [List.set_cons_succ])
      (try simp only [List.set_cons_zero])
      refine wpAnyH_take (i := 14) (oi := ⟨_, _, _, _, _, _⟩) (v := ?_) rfl (by kernel_rfl) (by kernel_rfl) (by kernel_rfl) (fun _ _ _ h => h) (Or.inl ⟨by rfl, ?_⟩) (by assumption) ?_
      rotate_left
      · intro wS hSw
        go_simp; (try with_reducible rfl)
      (try simp only [Act.put])
      (try simp only [List.setIfInBounds_toArray])
      (try simp only [List.set_cons_succ])
      (try simp only [List.set_cons_zero])
      refine wpAnyH_take (i := 17) (oi := ⟨_, _, _, _, _, _⟩) (v := ?_) rfl (by kernel_rfl) (by kernel_rfl) (by kernel_rfl) (fun _ _ _ h => h) (Or.inl ⟨by rfl, ?_⟩) (by assumption) ?_
      rotate_left
      · intro wS hSw
        go_simp; (try with_reducible rfl)
      (try simp only [Act.put])
      (try simp only [List.setIfInBounds_toArray])
      (try simp only [List.set_cons_succ])
      (try simp only [List.set_cons_zero])
      refine wpAnyH_take (i := 18) (oi := ⟨_, _, _, _, _, _⟩) (v := ?_) rfl (by kernel_rfl) (by kernel_rfl) (by kernel_rfl) (fun _ _ _ h => h) (Or.inl ⟨by rfl, ?_⟩) (by assumption) ?_
      rotate_left
      · intro wS hSw
        go_simp; (try with_reducible rfl)
      (try simp only [Act.put])
      (try simp only [List.setIfInBounds_toArray])
      (try simp only [List.set_cons_succ])
      (try simp only [List.set_cons_zero])
      refine wpAnyH_ready (rs := [19]) (by kernel_rfl) (by simp) ?_
      refine AllReadyH.cons (o := ⟨_, _, _, _, _, _⟩) rfl (fun K' hK' => ?_) AllReadyH.nil
      refine (if_pos (by rfl)).mpr ?_
      refine wp_stB 5 _ _ ?_
      refine ⟨_, _, _, ⟨_, _, _, Tryz.sizeOf5, rfl, A4, ce_s0 _ _ _ _ _ _ _ _ _ st⟩, ?_⟩
      intro w5 A5 g5
      have ho6 := ho5.st g5 A4 (by decide)
      have oy := ox.st g5 A4 (by decide)
      have hb7 := bl_st hb6 g5 hb6.size hq
      refine hK'.out _ _ trivial (fun _ => ?_)
      clear hK' A4 g5 ho5 ox hb6
      (try simp only [Act.put])
      (try simp only [List.setIfInBounds_toArray])
      (try simp only [List.set_cons_succ])
      (try simp only [List.set_cons_zero])
      refine wpAnyH_take (i := 22) (oi := ⟨_, _, _, _, _, _⟩) (v := ?_) rfl (by kernel_rfl) (by kernel_rfl) (by kernel_rfl) (fun _ _ _ h => h) (Or.inl ⟨by rfl, ?_⟩) (by assumption) ?_
      rotate_left
      · intro wS hSw
        go_simp; (try with_reducible rfl)
      (try simp only [Act.put])
      (try simp only [List.setIfInBounds_toArray])
      (try simp only [List.set_cons_succ])
      (try simp only [List.set_cons_zero])
      refine wpAnyH_take (i := 23) (oi := ⟨_, _, _, _, _, _⟩) (v := ?_) rfl (by kernel_rfl) (by kernel_rfl) (by kernel_rfl) (fun _ _ _ h => h) (Or.inl ⟨by rfl, ?_⟩) (by assumption) ?_
      rotate_left
      · intro wS hSw
        go_simp; (try with_reducible rfl)
      (try simp only [Act.put])
      (try simp only [List.setIfInBounds_toArray])
      (try simp only [List.set_cons_succ])
      (try simp only [List.set_cons_zero])
      refine wpAnyH_ready (rs := [24]) (by kernel_rfl) (by simp) ?_
      refine AllReadyH.cons (o := ⟨_, _, _, _, _, _⟩) rfl (fun K' hK' => ?_) AllReadyH.nil
      refine (if_pos (by rfl)).mpr ?_
      refine wp_stB 33 _ _ ?_
      refine ⟨_, _, _, ⟨_, _, _, Tryz.sizeOf33, rfl, A5, ce_t0 _ _ _ _ _ _ _ _ _ tg⟩, ?_⟩
      intro w6 A6 g6
      have ho7 := ho6.st g6 A5 (by decide)
      have oz := oy.st g6 A5 (by decide)
      have hb8 := bl_st hb7 g6 hb7.size hq
      refine hK'.out _ _ trivial (fun _ => ?_)
      clear hK' A5 g6 ho6 oy hb7
      (try simp only [Act.put])
      (try simp only [List.setIfInBounds_toArray])
      (try simp only [List.set_cons_succ])
      (try simp only [List.set_cons_zero])
      refine wpAnyH_take (i := 27) (oi := ⟨_, _, _, _, _, _⟩) (v := ?_) rfl (by kernel_rfl) (by kernel_rfl) (by kernel_rfl) (fun _ _ _ h => h) (Or.inl ⟨by rfl, ?_⟩) (by assumption) ?_
      rotate_left
      · intro wS hSw
        go_simp; (try with_reducible rfl)
      (try simp only [Act.put])
      (try simp only [List.setIfInBounds_toArray])
      (try simp only [List.set_cons_succ])
      (try simp only [List.set_cons_zero])
      refine wpAnyH_take (i := 28) (oi := ⟨_, _, _, _, _, _⟩) (v := ?_) rfl (by kernel_rfl) (by kernel_rfl) (by kernel_rfl) (fun _ _ _ h => h) (Or.inl ⟨by rfl, ?_⟩) (by assumption) ?_
      rotate_left
      · intro wS hSw
        go_simp; (try with_reducible rfl)
      (try simp only [Act.put])
      (try simp only [List.setIfInBounds_toArray])
      (try simp only [List.set_cons_succ])
      (try simp only [List.set_cons_zero])
      refine wpAnyH_ready (rs := [29]) (by kernel_rfl) (by simp) ?_
      refine AllReadyH.cons (o := ⟨_, _, _, _, _, _⟩) rfl (fun K' hK' => ?_) AllReadyH.nil
      refine (if_pos (by rfl)).mpr ?_
      refine wp_stB 34 _ _ ?_
      refine ⟨_, _, _, ⟨_, _, _, Tryz.sizeOf34, rfl, A6, ce_v0 _ _ _ _ _ _ _ _ _ a4 body.length c4⟩, ?_⟩
      intro w7 A7 g7
      have ho8 := ho7.st g7 A6 (by decide)
      have ow := oz.st g7 A6 (by decide)
      have hb9 := bl_st hb8 g7 hb8.size hq
      refine hK'.out _ _ trivial (fun _ => ?_)
      clear hK' A6 g7 ho7 oz hb8
      refine wpAnyH_done (by kernel_rfl) ?_ _
      go_wp2
      refine HK9.out _ _ ?_
      clear HK9
      go_wp2
      go_roundw
      case rel => exact ⟨0 + 1, by omega, by rfl, ⟨a4, c4, by rw [HCP.out]; exact A7, by rw [HCP.out]; exact ho8⟩, hb9⟩
      case measure => simp [intOf]
    · obtain ⟨a0, k0, hbox, hob⟩ : ∃ a0 k0, wr.heap[q]? = some (.cells (ceA g rep reg (copyC d rep reg 0).st (copyC d rep reg 0).tg (.slice a0 (copyC d rep reg 0).body.length k0) 0 zeroTg (.slice none 0 0)) 200 (0, 0)) ∧ OwnB wr w.heap.size a0 k0 (copyC d rep reg 0).body := hin
      generalize copyC d rep reg 0 = cc at *
      have hdr := h.below hbr
      obtain ⟨bs, re, hbs⟩ : ∃ bs re, readD d (firstN reg 1) = (bs, re) := ⟨_, _, rfl⟩
      obtain ⟨st, tg, body, hmi⟩ : ∃ st tg body, mineF bs rep reg 1 = (st, tg, body) := ⟨_, _, _, rfl⟩
      have hcp : copyC d rep reg 1 = ⟨st, tg, body⟩ := by unfold copyC; rw [hbs]; simp only; rw [hmi]
      have hbl : bs.length ≤ 1000 := by
        have := read_len hdr (firstN reg 1)
        rw [hbs] at this
        simp only at this
        by_cases h0 : re = 0
        · rw [this.1 h0]; omega
        · rw [this.2 h0]; simp
      have HBS := Lib.hid hbs
      have HMI := Lib.hid hmi
      have HCP := Lib.hid hcp
      clear hbs hmi hcp
      refine wp_seq_k (fun K hK => ?_)
      have HK := Lib.hid hK
      clear hK
      go_wp2
      refine HK.out _ _ ?_
      clear HK
      refine wp_seq_k (fun K hK => ?_)
      have HK := Lib.hid hK
      clear hK
      go_wp2
      refine HK.out _ _ ?_
      clear HK
      refine wp_seq_k (fun K hK => ?_)
      have HK9 := Lib.hid hK
      clear hK
      go_wp2_with (first
        | (go_at_call 89; refine (first_any reg 1 _).mono ?_; rintro e w1 ⟨rfl, hb1⟩; have hd1 := hdr.below hb1; have A1 := tr_bl hb1 hbox)
        | (go_at_call 197; have hrd := read_slb hd1 (firstN reg 1); rw [HBS.out] at hrd; refine hrd.mono ?_; rintro e w2 ⟨⟨a2, c2, rfl, hs2⟩, hb2⟩; clear hrd))
      have A2 := tr_bl hb2 A1
      have hb12 := hb1.trans (hb2.mono hb1.size)
      have hb3 := hbr.trans (hb12.mono hbr.size)
      clear A1 hb1 hb2 hd1 hdr
      have hbd := (Below.refl w2.heap.size w2).drew
      have A3 := tr_bl hbd A2
      have hs3 := hs2.below hbd
      have hb4 := hb3.trans (hbd.mono hb3.size)
      refine wp_region_held_drew (S := fun _ => True) (by kernel_rfl) trivial (fun hS0 => ?_)
      clear A2 hs2 hb3
      generalize w2.drew = x0 at *
      refine wpAnyH_take (i := 0) (oi := ⟨_, _, _, _, _, _⟩) (v := ?_) rfl (by kernel_rfl) (by kernel_rfl) (by kernel_rfl) (fun _ _ _ h => h) (Or.inl ⟨by rfl, ?_⟩) (by assumption) ?_
      rotate_left
      · intro wS hSw
        go_simp; (try with_reducible rfl)
      (try simp only [Act.put])
      (try simp only [List.setIfInBounds_toArray])
      (try simp only [List.set_cons_succ])
      (try simp only [List.set_cons_zero])
      refine wpAnyH_take (i := 1) (oi := ⟨_, _, _, _, _, _⟩) (v := ?_) rfl (by kernel_rfl) (by kernel_rfl) (by kernel_rfl) (fun _ _ _ h => h) (Or.inl ⟨by rfl, ?_⟩) (by assumption) ?_
      rotate_left
      · intro wS hSw
        go_simp; (try with_reducible rfl)
      (try simp only [Act.put])
      (try simp only [List.setIfInBounds_toArray])
      (try simp only [List.set_cons_succ])
      (try simp only [List.set_cons_zero])
      refine wpAnyH_take (i := 2) (oi := ⟨_, _, _, _, _, _⟩) (v := ?_) rfl (by kernel_rfl) (by kernel_rfl) (by kernel_rfl) (fun _ _ _ h => h) (Or.inl ⟨by rfl, ?_⟩) (by assumption) ?_
      rotate_left
      · intro wS hSw
        go_simp; (try with_reducible rfl)
      (try simp only [Act.put])
      (try simp only [List.setIfInBounds_toArray])
      (try simp only [List.set_cons_succ])
      (try simp only [List.set_cons_zero])
      refine wpAnyH_take (i := 3) (oi := ⟨_, _, _, _, _, _⟩) (v := ?_) rfl (by kernel_rfl) (by kernel_rfl) (by kernel_rfl) (fun _ _ _ h => h) (Or.inl ⟨by rfl, ?_⟩) (by assumption) ?_
      rotate_left
      · intro wS hSw
        go_simp; (try with_reducible rfl)
      (try simp only [Act.put])
      (try simp only [List.setIfInBounds_toArray])
      (try simp only [List.set_cons_succ])
      (try simp only [List.set_cons_zero])
      refine wpAnyH_take (i := 4) (oi := ⟨_, _, _, _, _, _⟩) (v := ?_) rfl (by kernel_rfl) (by kernel_rfl) (by kernel_rfl) (fun _ _ _ h => h) (Or.inl ⟨by rfl, ?_⟩) (by assumption) ?_
      rotate_left
      · intro wS hSw
        go_simp; (try with_reducible rfl)
      (try simp only [Act.put])
      (try simp only [List.setIfInBounds_toArray])
      (try simp only [List.set_cons_succ])
      (try simp only [List.set_cons_zero])
      refine wpAnyH_take (i := 5) (oi := ⟨_, _, _, _, _, _⟩) (v := ?_) rfl (by kernel_rfl) (by kernel_rfl) (by kernel_rfl) (fun _ _ _ h => h) (Or.inl ⟨by rfl, ?_⟩) (by assumption) ?_
      rotate_left
      · intro wS hSw
        go_simp; (try with_reducible rfl)
      (try simp only [Act.put])
      (try simp only [List.setIfInBounds_toArray])
      (try simp only [List.set_cons_succ])
      (try simp only [List.set_cons_zero])
      refine wpAnyH_take (i := 6) (oi := ⟨_, _, _, _, _, _⟩) (v := ?_) rfl (by kernel_rfl) (by kernel_rfl) (by kernel_rfl) (fun _ _ _ h => h) (Or.inl ⟨by rfl, ?_⟩) (by assumption) ?_
      rotate_left
      · intro wS hSw
        go_simp; (try with_reducible rfl)
      (try simp only [Act.put])
      (try simp only [List.setIfInBounds_toArray])
      (try simp only [List.set_cons_succ])
      (try simp only [List.set_cons_zero])
      refine wpAnyH_take (i := 7) (oi := ⟨_, _, _, _, _, _⟩) (v := ?_) rfl (by kernel_rfl) (by kernel_rfl) (by kernel_rfl) (fun _ _ _ h => h) (Or.inl ⟨by rfl, ?_⟩) (by assumption) ?_
      rotate_left
      · intro wS hSw
        go_simp; (try with_reducible rfl)
      (try simp only [Act.put])
      (try simp only [List.setIfInBounds_toArray])
      (try simp only [List.set_cons_succ])
      (try simp only [List.set_cons_zero])
      refine wpAnyH_take (i := 8) (oi := ⟨_, _, _, _, _, _⟩) (v := ?_) rfl (by kernel_rfl) (by kernel_rfl) (by kernel_rfl) (fun _ _ _ h => h) (Or.inl ⟨by rfl, ?_⟩) (by assumption) ?_
      rotate_left
      · intro wS hSw
        go_simp; (try with_reducible rfl)
      (try simp only [Act.put])
      (try simp only [List.setIfInBounds_toArray])
      (try simp only [List.set_cons_succ])
      (try simp only [List.set_cons_zero])
      refine wpAnyH_take (i := 9) (oi := ⟨_, _, _, _, _, _⟩) (v := ?_) rfl (by kernel_rfl) (by kernel_rfl) (by kernel_rfl) (fun _ _ _ h => h) (Or.inl ⟨by rfl, ?_⟩) (by assumption) ?_
      rotate_left
      · intro wS hSw
        go_simp; (try with_reducible rfl)
      (try simp only [Act.put])
      (try simp only [List.setIfInBounds_toArray])
      (try simp only [List.set_cons_succ])
      (try simp only [List.set_cons_zero])
      refine wpAnyH_take (i := 15) (oi := ⟨_, _, _, _, _, _⟩) (v := ?_) rfl (by kernel_rfl) (by kernel_rfl) (by kernel_rfl) (fun _ _ _ h => h) (Or.inl ⟨by rfl, ?_⟩) (by assumption) ?_
      rotate_left
      · intro wS hSw
        go_simp; (try with_reducible rfl)
      (try simp only [Act.put])
      (try simp only [List.setIfInBounds_toArray])
      (try simp only [List.set_cons_succ])
      (try simp only [List.set_cons_zero])
      refine wpAnyH_take (i := 16) (oi := ⟨_, _, _, _, _, _⟩) (v := ?_) rfl (by kernel_rfl) (by kernel_rfl) (by kernel_rfl) (fun _ _ _ h => h) (Or.inl ⟨by rfl, ?_⟩) (by assumption) ?_
      rotate_left
      · intro wS hSw
        go_simp; (try with_reducible rfl)
      (try simp only [Act.put])
      (try simp only [List.setIfInBounds_toArray])
      (try simp only [List.set_cons_succ])
      (try simp only [List.set_cons_zero])
      refine wpAnyH_take (i := 20) (oi := ⟨_, _, _, _, _, _⟩) (v := ?_) rfl (by kernel_rfl) (by kernel_rfl) (by kernel_rfl) (fun _ _ _ h => h) (Or.inl ⟨by rfl, ?_⟩) (by assumption) ?_
      rotate_left
      · intro wS hSw
        go_simp; (try with_reducible rfl)
      (try simp only [Act.put])
      (try simp only [List.setIfInBounds_toArray])
      (try simp only [List.set_cons_succ])
      (try simp only [List.set_cons_zero])
      refine wpAnyH_take (i := 21) (oi := ⟨_, _, _, _, _, _⟩) (v := ?_) rfl (by kernel_rfl) (by kernel_rfl) (by kernel_rfl) (fun _ _ _ h => h) (Or.inl ⟨by rfl, ?_⟩) (by assumption) ?_
      rotate_left
      · intro wS hSw
        go_simp; (try with_reducible rfl)
      (try simp only [Act.put])
      (try simp only [List.setIfInBounds_toArray])
      (try simp only [List.set_cons_succ])
      (try simp only [List.set_cons_zero])
      refine wpAnyH_take (i := 25) (oi := ⟨_, _, _, _, _, _⟩) (v := ?_) rfl (by kernel_rfl) (by kernel_rfl) (by kernel_rfl) (fun _ _ _ h => h) (Or.inl ⟨by rfl, ?_⟩) (by assumption) ?_
      rotate_left
      · intro wS hSw
        go_simp; (try with_reducible rfl)
      (try simp only [Act.put])
      (try simp only [List.setIfInBounds_toArray])
      (try simp only [List.set_cons_succ])
      (try simp only [List.set_cons_zero])
      refine wpAnyH_take (i := 26) (oi := ⟨_, _, _, _, _, _⟩) (v := ?_) rfl (by kernel_rfl) (by kernel_rfl) (by kernel_rfl) (fun _ _ _ h => h) (Or.inl ⟨by rfl, ?_⟩) (by assumption) ?_
      rotate_left
      · intro wS hSw
        go_simp; (try with_reducible rfl)
      (try simp only [Act.put])
      (try simp only [List.setIfInBounds_toArray])
      (try simp only [List.set_cons_succ])
      (try simp only [List.set_cons_zero])
      refine wpAnyH_ready (rs := [10]) (by kernel_rfl) (by simp) ?_
      refine AllReadyH.cons (o := ⟨_, _, _, _, _, _⟩) rfl (fun K' hK' => ?_) AllReadyH.nil
      refine (if_pos (by rfl)).mpr ?_
      go_simp
      refine (mine_any a2 c2 bs rep reg 1 _ hs3 hbl).mono ?_
      rintro e w3 ⟨⟨a4, c4, rfl, ho4⟩, hb5⟩
      rw [HMI.out] at ho4 ⊢
      simp only at ho4 ⊢
      have A4 := tr_bl hb5 A3
      have hb6 := hb4.trans (hb5.mono hb4.size)
      have ho5 := ho4.mono hb4.size
      have ox := ((hob.below hb12).below hbd).below hb5
      refine hK'.out _ _ trivial (fun _ => ?_)
      clear hK' A3 hs3 hb4 hb5 ho4 hbd
      (try simp only [Act.put])
      (try simp only [List.setIfInBounds_toArray])
      (try simp only [List.set_cons_succ])
      (try simp only [List.set_cons_zero])
      refine wpAnyH_take (i := 11) (oi := ⟨_, _, _, _, _, _⟩) (v := ?_) rfl (by kernel_rfl) (by kernel_rfl) (by kernel_rfl) (fun _ _ _ h => h) (Or.inl ⟨by rfl, ?_⟩) (by assumption) ?_
      rotate_left
      · intro wS hSw
        go_simp; (try with_reducible rfl)
      (try simp only [Act.put])
      (try simp only [List.setIfInBounds_toArray])
      (try simp only [List.set_cons_succ])
      (try simp only [List.set_cons_zero])
      refine wpAnyH_take (i := 12) (oi := ⟨_, _, _, _, _, _⟩) (v := ?_) rfl (by kernel_rfl) (by kernel_rfl) (by kernel_rfl) (fun _ _ _ h => h) (Or.inl ⟨by rfl, ?_⟩) (by assumption) ?_
      rotate_left
      · intro wS hSw
        go_simp; (try with_reducible rfl)
      (try simp only [Act.put])
      (try simp only [List.setIfInBounds_toArray])
      (try simp only [List.set_cons_succ])
      (try simp only [List.set_cons_zero])
      refine wpAnyH_take (i := 13) (oi := ⟨_, _, _, _, _, _⟩) (v := ?_) rfl (by kernel_rfl) (by kernel_rfl) (by kernel_rfl) (fun _ _ _ h => h) (Or.inl ⟨by rfl, ?_⟩) (by assumption) ?_
      rotate_left
      · intro wS hSw
        go_simp; (try with_reducible rfl)
      (try simp only [Act.put])
      (try simp only [List.setIfInBounds_toArray])
      (try simp only [List.set_cons_succ])
      (try simp only [List.set_cons_zero])
      refine wpAnyH_take (i := 14) (oi := ⟨_, _, _, _, _, _⟩) (v := ?_) rfl (by kernel_rfl) (by kernel_rfl) (by kernel_rfl) (fun _ _ _ h => h) (Or.inl ⟨by rfl, ?_⟩) (by assumption) ?_
      rotate_left
      · intro wS hSw
        go_simp; (try with_reducible rfl)
      (try simp only [Act.put])
      (try simp only [List.setIfInBounds_toArray])
      (try simp only [List.set_cons_succ])
      (try simp only [List.set_cons_zero])
      refine wpAnyH_take (i := 17) (oi := ⟨_, _, _, _, _, _⟩) (v := ?_) rfl (by kernel_rfl) (by kernel_rfl) (by kernel_rfl) (fun _ _ _ h => h) (Or.inl ⟨by rfl, ?_⟩) (by assumption) ?_
      rotate_left
      · intro wS hSw
        go_simp; (try with_reducible rfl)
      (try simp only [Act.put])
      (try simp only [List.setIfInBounds_toArray])
      (try simp only [List.set_cons_succ])
      (try simp only [List.set_cons_zero])
      refine wpAnyH_take (i := 18) (oi := ⟨_, _, _, _, _, _⟩) (v := ?_) rfl (by kernel_rfl) (by kernel_rfl) (by kernel_rfl) (fun _ _ _ h => h) (Or.inl ⟨by rfl, ?_⟩) (by assumption) ?_
      rotate_left
      · intro wS hSw
        go_simp; (try with_reducible rfl)
      (try simp only [Act.put])
      (try simp only [List.setIfInBounds_toArray])
      (try simp only [List.set_cons_succ])
      (try simp only [List.set_cons_zero])
      refine wpAnyH_ready (rs := [19]) (by kernel_rfl) (by simp) ?_
      refine AllReadyH.cons (o := ⟨_, _, _, _, _, _⟩) rfl (fun K' hK' => ?_) AllReadyH.nil
      refine (if_pos (by rfl)).mpr ?_
      refine wp_stB 5 _ _ ?_
      refine ⟨_, _, _, ⟨_, _, _, Tryz.sizeOf5, rfl, A4, ce_s1 _ _ _ _ _ _ _ _ _ st⟩, ?_⟩
      intro w5 A5 g5
      have ho6 := ho5.st g5 A4 (by decide)
      have oy := ox.st g5 A4 (by decide)
      have hb7 := bl_st hb6 g5 hb6.size hq
      refine hK'.out _ _ trivial (fun _ => ?_)
      clear hK' A4 g5 ho5 ox hb6
      (try simp only [Act.put])
      (try simp only [List.setIfInBounds_toArray])
      (try simp only [List.set_cons_succ])
      (try simp only [List.set_cons_zero])
      refine wpAnyH_take (i := 22) (oi := ⟨_, _, _, _, _, _⟩) (v := ?_) rfl (by kernel_rfl) (by kernel_rfl) (by kernel_rfl) (fun _ _ _ h => h) (Or.inl ⟨by rfl, ?_⟩) (by assumption) ?_
      rotate_left
      · intro wS hSw
        go_simp; (try with_reducible rfl)
      (try simp only [Act.put])
      (try simp only [List.setIfInBounds_toArray])
      (try simp only [List.set_cons_succ])
      (try simp only [List.set_cons_zero])
      refine wpAnyH_take (i := 23) (oi := ⟨_, _, _, _, _, _⟩) (v := ?_) rfl (by kernel_rfl) (by kernel_rfl) (by kernel_rfl) (fun _ _ _ h => h) (Or.inl ⟨by rfl, ?_⟩) (by assumption) ?_
      rotate_left
      · intro wS hSw
        go_simp; (try with_reducible rfl)
      (try simp only [Act.put])
      (try simp only [List.setIfInBounds_toArray])
      (try simp only [List.set_cons_succ])
      (try simp only [List.set_cons_zero])
      refine wpAnyH_ready (rs := [24]) (by kernel_rfl) (by simp) ?_
      refine AllReadyH.cons (o := ⟨_, _, _, _, _, _⟩) rfl (fun K' hK' => ?_) AllReadyH.nil
      refine (if_pos (by rfl)).mpr ?_
      refine wp_stB 33 _ _ ?_
      refine ⟨_, _, _, ⟨_, _, _, Tryz.sizeOf33, rfl, A5, ce_t1 _ _ _ _ _ _ _ _ _ tg⟩, ?_⟩
      intro w6 A6 g6
      have ho7 := ho6.st g6 A5 (by decide)
      have oz := oy.st g6 A5 (by decide)
      have hb8 := bl_st hb7 g6 hb7.size hq
      refine hK'.out _ _ trivial (fun _ => ?_)
      clear hK' A5 g6 ho6 oy hb7
      (try simp only [Act.put])
      (try simp only [List.setIfInBounds_toArray])
      (try simp only [List.set_cons_succ])
      (try simp only [List.set_cons_zero])
      refine wpAnyH_take (i := 27) (oi := ⟨_, _, _, _, _, _⟩) (v := ?_) rfl (by kernel_rfl) (by kernel_rfl) (by kernel_rfl) (fun _ _ _ h => h) (Or.inl ⟨by rfl, ?_⟩) (by assumption) ?_
      rotate_left
      · intro wS hSw
        go_simp; (try with_reducible rfl)
      (try simp only [Act.put])
      (try simp only [List.setIfInBounds_toArray])
      (try simp only [List.set_cons_succ])
      (try simp only [List.set_cons_zero])
      refine wpAnyH_take (i := 28) (oi := ⟨_, _, _, _, _, _⟩) (v := ?_) rfl (by kernel_rfl) (by kernel_rfl) (by kernel_rfl) (fun _ _ _ h => h) (Or.inl ⟨by rfl, ?_⟩) (by assumption) ?_
      rotate_left
      · intro wS hSw
        go_simp; (try with_reducible rfl)
      (try simp only [Act.put])
      (try simp only [List.setIfInBounds_toArray])
      (try simp only [List.set_cons_succ])
      (try simp only [List.set_cons_zero])
      refine wpAnyH_ready (rs := [29]) (by kernel_rfl) (by simp) ?_
      refine AllReadyH.cons (o := ⟨_, _, _, _, _, _⟩) rfl (fun K' hK' => ?_) AllReadyH.nil
      refine (if_pos (by rfl)).mpr ?_
      refine wp_stB 34 _ _ ?_
      refine ⟨_, _, _, ⟨_, _, _, Tryz.sizeOf34, rfl, A6, ce_v1 _ _ _ _ _ _ _ _ _ a4 body.length c4⟩, ?_⟩
      intro w7 A7 g7
      have ho8 := ho7.st g7 A6 (by decide)
      have ow := oz.st g7 A6 (by decide)
      have hb9 := bl_st hb8 g7 hb8.size hq
      refine hK'.out _ _ trivial (fun _ => ?_)
      clear hK' A6 g7 ho7 oz hb8
      refine wpAnyH_done (by kernel_rfl) ?_ _
      go_wp2
      refine HK9.out _ _ ?_
      clear HK9
      go_wp2
      go_roundw
      case rel => exact ⟨1 + 1, by omega, by rfl, ⟨a0, k0, a4, c4, by rw [HCP.out]; exact A7, ow, by rw [HCP.out]; exact ho8⟩, hb9⟩
      case measure => simp [intOf]
    · obtain ⟨a0, k0, a1, k1, hbox, ho0, ho1⟩ : CpIn wr w.heap.size q g rep reg (copyC d rep reg 0) (copyC d rep reg 1) 2 := hin
      go_wp2
      refine HK.out _ _ ?_
      clear HK
      go_wp2
      go_ret2
      refine ⟨?_, hbr⟩
      unfold OpenRes
      rw [if_pos HO.out]
      exact ⟨q, a0, k0, a1, k1, rfl, hq, hbox, ho0, ho1⟩
end
end Go.Proofs.YthfolocjkpiljaaGreatDoor

namespace Go.Proofs.YthfolocjkpiljaaGreatDoor
open Go.RowKit

theorem open_tag (l : List UInt8) : (openF l).2.1 = zeroTg ∧ (openF l).1 ≠ 1 ∧ (openF l).2.2 = [] ∨ (openF l).1 = 1 ∧ mayTg (openF l).2.1 = true ∧ (openF l).2.2.length ≤ roomN l.length := by
  unfold openF
  split
  · exact .inl ⟨rfl, by decide, rfl⟩
  · split
    · exact .inl ⟨rfl, by decide, rfl⟩
    · split
      · rename_i h
        exact .inr ⟨rfl, h.1, by rw [List.length_take]; omega⟩
      · exact .inl ⟨rfl, by decide, rfl⟩
theorem mine_tag (l : List UInt8) (rep reg pla : Int) : (mineF l rep reg pla).2.1 = zeroTg ∧ (mineF l rep reg pla).1 ≠ 1 ∧ (mineF l rep reg pla).2.2 = [] ∨ (mineF l rep reg pla).1 = 1 ∧ mayTg (mineF l rep reg pla).2.1 = true ∧ (mineF l rep reg pla).2.2.length ≤ roomN l.length := by
  unfold mineF
  split
  · exact .inl ⟨rfl, by decide, rfl⟩
  · exact open_tag l
section
variable {B g gp : Nat} {wv : Value} {d : Dk} {w : World}
theorem copy_tag (h : DiskB B g gp wv d w) (rep reg i : Int) : (copyC d rep reg i).tg = zeroTg ∧ (copyC d rep reg i).st ≠ 1 ∧ (copyC d rep reg i).body = [] ∨ (copyC d rep reg i).st = 1 ∧ mayTg (copyC d rep reg i).tg = true ∧ (copyC d rep reg i).body.length ≤ 43 := by
  rcases mine_tag (readD d (firstN reg i)).1 rep reg i with hh | ⟨h1, h2, h3⟩
  · exact .inl hh
  · refine .inr ⟨h1, h2, Nat.le_trans h3 ?_⟩
    have := read_len h (firstN reg i)
    by_cases h0 : (readD d (firstN reg i)).2 = 0
    · rw [this.1 h0]; decide
    · rw [this.2 h0]; decide
theorem copy_idx (h : DiskB B g gp wv d w) (rep reg i : Int) : 0 ≤ (copyC d rep reg i).tg.idx ∧ (copyC d rep reg i).tg.idx ≤ 1099511627776 := by
  rcases copy_tag h rep reg i with ⟨h1, _⟩ | ⟨_, h1, _⟩
  · rw [h1]; decide
  · obtain ⟨_, _, _, _, a, b, _⟩ := mayTg_parts h1
    exact ⟨a, b⟩
theorem copen_any (h : DiskB B g gp wv d w) (rep reg : Int) : Calls Tryz.prog 105 #[.pointer (some ⟨g, 0, none⟩), .int .i64 rep, .int .i64 reg] w fun e w' => OpenRes w.heap.size g d rep reg e w' ∧ Below w.heap.size w w' := by
  by_cases ho : openC d rep reg = 0
  · exact copen_ok h rep reg ho
  · exact copen_err h rep reg ho
theorem copen_bad (h : DiskB B g gp wv d w) (rep reg : Int) (ho : openC d rep reg ≠ 0) : Calls Tryz.prog 105 #[.pointer (some ⟨g, 0, none⟩), .int .i64 rep, .int .i64 reg] w fun e w' => e = .returned (.tuple #[.pointer none, .int .i64 (openC d rep reg)]) ∧ Below w.heap.size w w' := by
  refine (copen_err h rep reg ho).mono ?_
  rintro e w' ⟨hr, hb⟩
  unfold OpenRes at hr
  rw [if_neg ho] at hr
  exact ⟨hr, hb⟩
theorem copen_good (h : DiskB B g gp wv d w) (rep reg : Int) (ho : openC d rep reg = 0) : Calls Tryz.prog 105 #[.pointer (some ⟨g, 0, none⟩), .int .i64 rep, .int .i64 reg] w fun e w' => (∃ q a0 k0 a1 k1, e = .returned (.tuple #[.pointer (some ⟨q, 0, none⟩), .int .i64 0]) ∧ w.heap.size ≤ q ∧
    w'.heap[q]? = some (.cells (ceA g rep reg (copyC d rep reg 0).st (copyC d rep reg 0).tg (.slice a0 (copyC d rep reg 0).body.length k0) (copyC d rep reg 1).st (copyC d rep reg 1).tg (.slice a1 (copyC d rep reg 1).body.length k1)) 200 (0, 0)) ∧
    OwnB w' w.heap.size a0 k0 (copyC d rep reg 0).body ∧ OwnB w' w.heap.size a1 k1 (copyC d rep reg 1).body) ∧ Below w.heap.size w w' := by
  refine (copen_ok h rep reg ho).mono ?_
  rintro e w' ⟨hr, hb⟩
  unfold OpenRes at hr
  rw [if_pos ho] at hr
  exact ⟨hr, hb⟩
/-- What Load hands back. -/
def LoadRes (base : Nat) (r : Int × List UInt8 × Int) (e : Ending) (w' : World) : Prop := ∃ a c, e = .returned (.tuple #[.int .i64 r.1, .slice a r.2.1.length c, .int .i64 r.2.2]) ∧ OwnB w' base a c r.2.1
set_option maxRecDepth 100000 in
set_option maxHeartbeats 1000000 in
theorem cload_any (h : DiskB B g gp wv d w) (rep reg : Int) : Calls Tryz.prog 33 #[.pointer (some ⟨g, 0, none⟩), .int .i64 rep, .int .i64 reg] w fun e w' => LoadRes w.heap.size (loadC d rep reg) e w' ∧ Below w.heap.size w w' := by
  unfold loadC
  by_cases ho : openC d rep reg = 0
  case neg =>
    rw [if_pos ho]
    have hop := copen_bad h rep reg ho
    generalize openC d rep reg = x at *
    have e1 : (x != 0) = true := by rw [bne_iff_ne]; exact ho
    clear ho
    go_enter Tryz.func33, Tryz.ntmps33
    go_wp2_with (go_at_call 105; refine hop.mono ?_; rintro e w1 ⟨rfl, hb1⟩)
    go_ret3
    exact ⟨⟨none, 0, rfl, OwnB.none _ _⟩, hb1⟩
  case pos =>
    rw [if_neg (by simpa using ho)]
    have hop := copen_good h rep reg ho
    unfold pickC
    generalize copyC d rep reg 0 = c0 at *
    generalize copyC d rep reg 1 = c1 at *
    have hlt := loaded_lt c0 c1
    have hlo := fun q a0 n0 k0 a1 n1 k1 w => loaded_any q g rep reg c0 c1 a0 a1 n0 k0 n1 k1 w
    obtain ⟨i, ok, er, hld⟩ : ∃ i ok er, loadedC c0 c1 = (i, ok, er) := ⟨_, _, _, rfl⟩
    rw [hld] at hlt
    simp only [hld] at hlo ⊢
    simp only at hlt
    clear hld ho
    cases ok
    case false =>
      rw [if_pos rfl]
      go_enter Tryz.func33, Tryz.ntmps33
      go_wp2_with (first
        | (go_at_call 105; refine hop.mono ?_; rintro e w1 ⟨⟨q, a0, k0, a1, k1, rfl, hq, Q1, o0, o1⟩, hb1⟩)
        | (go_at_call 107; refine (hlo q a0 _ k0 a1 _ k1 _ Q1).mono ?_; rintro e w2 ⟨rfl, hb2⟩; have hb3 := hb1.trans (hb2.mono hb1.size)))
      go_ret3
      exact ⟨⟨none, 0, rfl, OwnB.none _ _⟩, hb3⟩
    case true =>
      rw [if_neg (by simp)]
      go_enter Tryz.func33, Tryz.ntmps33
      refine wp_seq_k (fun K hK => ?_)
      have HK := Lib.hid hK
      clear hK
      go_wp2
      refine HK.out _ _ ?_
      clear HK
      refine wp_seq_k (fun K hK => ?_)
      have HK := Lib.hid hK
      clear hK
      go_wp2_with (go_at_call 105; refine hop.mono ?_; rintro e w1 ⟨⟨q, a0, k0, a1, k1, rfl, hq, Q1, o0, o1⟩, hb1⟩)
      refine HK.out _ _ ?_
      clear HK
      refine wp_seq_k (fun K hK => ?_)
      have HK := Lib.hid hK
      clear hK
      go_wp2
      refine HK.out _ _ ?_
      clear HK
      refine wp_seq_k (fun K hK => ?_)
      have HK := Lib.hid hK
      clear hK
      go_wp2_with (go_at_call 107; refine (hlo q a0 _ k0 a1 _ k1 _ Q1).mono ?_; rintro e w2 ⟨rfl, hb2⟩; have hb3 := hb1.trans (hb2.mono hb1.size); have Q2 := tr_bl hb2 Q1; have p0 := o0.below hb2; have p1 := o1.below hb2)
      refine HK.out _ _ ?_
      clear HK
      refine wp_seq_k (fun K hK => ?_)
      have HK := Lib.hid hK
      clear hK
      go_wp2
      refine HK.out _ _ ?_
      clear HK
      clear Q1 o0 o1 hb1 hb2 hlo hop
      rcases (show i = 0 ∨ i = 1 by omega) with rfl | rfl
      · rw [if_neg (by omega)]
        refine wp_seq_k (fun K hK => ?_)
        have HK := Lib.hid hK
        clear hK
        go_wp2_with fail
        have hbd := (Below.refl w2.heap.size w2).drew
        have Q3 := tr_bl hbd Q2
        have o3 := p0.below hbd
        have hb4 := hb3.trans (hbd.mono hb3.size)
        refine wp_region_held_drew (S := fun w' => w'.heap[q]? = some (.cells (ceA g rep reg c0.st c0.tg (.slice a0 c0.body.length k0) c1.st c1.tg (.slice a1 c1.body.length k1)) 200 (0, 0))) (by kernel_rfl) Q3 (fun hS0 => ?_)
        clear hbd Q2 hb3
        generalize w2.drew = x0 at *
        refine wpAnyH_take (i := 0) (oi := ⟨_, _, _, _, _, _⟩) (v := ?_) rfl (by kernel_rfl) (by kernel_rfl) (by kernel_rfl) (fun _ _ _ h => h) (Or.inl ⟨by rfl, ?_⟩) (by assumption) ?_
        rotate_left
        · intro wS hSw
          go_simp; (try with_reducible rfl)
        (try simp only [Act.put])
        (try simp only [List.setIfInBounds_toArray])
        (try simp only [List.set_cons_succ])
        (try simp only [List.set_cons_zero])
        refine wpAnyH_take (i := 1) (oi := ⟨_, _, _, _, _, _⟩) (v := ?_) rfl (by kernel_rfl) (by kernel_rfl) (by kernel_rfl) (fun _ _ _ h => h) (Or.inl ⟨by rfl, ?_⟩) (by assumption) ?_
        rotate_left
        · intro wS hSw
          go_simp; (try with_reducible rfl)
        (try simp only [Act.put])
        (try simp only [List.setIfInBounds_toArray])
        (try simp only [List.set_cons_succ])
        (try simp only [List.set_cons_zero])
        refine wpAnyH_take (i := 2) (oi := ⟨_, _, _, _, _, _⟩) (v := ?_) rfl (by kernel_rfl) (by kernel_rfl) (by kernel_rfl) (fun _ _ _ h => h) (Or.inl ⟨by rfl, ?_⟩) (by assumption) ?_
        rotate_left
        · intro wS hSw
          go_simp; (try with_reducible rfl)
        (try simp only [Act.put])
        (try simp only [List.setIfInBounds_toArray])
        (try simp only [List.set_cons_succ])
        (try simp only [List.set_cons_zero])
        refine wpAnyH_take (i := 3) (oi := ⟨_, _, _, _, _, _⟩) (v := ?_) rfl (by kernel_rfl) (by kernel_rfl) (by kernel_rfl) (fun _ _ _ h => h) (Or.inl ⟨by rfl, ?_⟩) (by assumption) ?_
        rotate_left
        · intro wS hSw
          go_simp; (try with_reducible rfl)
        (try simp only [Act.put])
        (try simp only [List.setIfInBounds_toArray])
        (try simp only [List.set_cons_succ])
        (try simp only [List.set_cons_zero])
        refine wpAnyH_take (i := 4) (oi := ⟨_, _, _, _, _, _⟩) (v := ?_) rfl (by kernel_rfl) (by kernel_rfl) (by kernel_rfl) (fun _ _ _ h => h) (Or.inl ⟨by rfl, ?_⟩) (by assumption) ?_
        rotate_left
        · intro wS hSw
          go_simp; (try with_reducible rfl)
        (try simp only [Act.put])
        (try simp only [List.setIfInBounds_toArray])
        (try simp only [List.set_cons_succ])
        (try simp only [List.set_cons_zero])
        refine wpAnyH_take (i := 5) (oi := ⟨_, _, _, _, _, _⟩) (v := ?_) rfl (by kernel_rfl) (by kernel_rfl) (by kernel_rfl) (fun _ _ _ h => h) (Or.inl ⟨by rfl, ?_⟩) (by assumption) ?_
        rotate_left
        · intro wS hSw
          go_simp; (try with_reducible rfl)
        (try simp only [Act.put])
        (try simp only [List.setIfInBounds_toArray])
        (try simp only [List.set_cons_succ])
        (try simp only [List.set_cons_zero])
        refine wpAnyH_take (i := 6) (oi := ⟨_, _, _, _, _, _⟩) (v := ?_) rfl (by kernel_rfl) (by kernel_rfl) (by kernel_rfl) (fun _ _ _ h => h) (Or.inl ⟨by rfl, ?_⟩) (by assumption) ?_
        rotate_left
        · intro wS hSw
          go_simp; (try with_reducible rfl)
        (try simp only [Act.put])
        (try simp only [List.setIfInBounds_toArray])
        (try simp only [List.set_cons_succ])
        (try simp only [List.set_cons_zero])
        refine wpAnyH_take (i := 7) (oi := ⟨_, _, _, _, _, _⟩) (v := ?_) rfl (by kernel_rfl) (by kernel_rfl) (by kernel_rfl) (fun _ _ _ h => h) (Or.inl ⟨by rfl, ?_⟩) (by assumption) ?_
        rotate_left
        · intro wS hSw
          have c := ceA_7 hSw; go_simp; (try with_reducible rfl)
        (try simp only [Act.put])
        (try simp only [List.setIfInBounds_toArray])
        (try simp only [List.set_cons_succ])
        (try simp only [List.set_cons_zero])
        refine wpAnyH_take (i := 8) (oi := ⟨_, _, _, _, _, _⟩) (v := ?_) rfl (by kernel_rfl) (by kernel_rfl) (by kernel_rfl) (fun _ _ _ h => h) (Or.inl ⟨by rfl, ?_⟩) (by assumption) ?_
        rotate_left
        · intro wS hSw
          go_simp; (try with_reducible rfl)
        (try simp only [Act.put])
        (try simp only [List.setIfInBounds_toArray])
        (try simp only [List.set_cons_succ])
        (try simp only [List.set_cons_zero])
        refine wpAnyH_take (i := 9) (oi := ⟨_, _, _, _, _, _⟩) (v := ?_) rfl (by kernel_rfl) (by kernel_rfl) (by kernel_rfl) (fun _ _ _ h => h) (Or.inl ⟨by rfl, ?_⟩) (by assumption) ?_
        rotate_left
        · intro wS hSw
          go_simp; (try with_reducible rfl)
        (try simp only [Act.put])
        (try simp only [List.setIfInBounds_toArray])
        (try simp only [List.set_cons_succ])
        (try simp only [List.set_cons_zero])
        refine wpAnyH_take (i := 10) (oi := ⟨_, _, _, _, _, _⟩) (v := ?_) rfl (by kernel_rfl) (by kernel_rfl) (by kernel_rfl) (fun _ _ _ h => h) (Or.inl ⟨by rfl, ?_⟩) (by assumption) ?_
        rotate_left
        · intro wS hSw
          go_simp; (try with_reducible rfl)
        (try simp only [Act.put])
        (try simp only [List.setIfInBounds_toArray])
        (try simp only [List.set_cons_succ])
        (try simp only [List.set_cons_zero])
        refine wpAnyH_take (i := 11) (oi := ⟨_, _, _, _, _, _⟩) (v := ?_) rfl (by kernel_rfl) (by kernel_rfl) (by kernel_rfl) (fun _ _ _ h => h) (Or.inl ⟨by rfl, ?_⟩) (by assumption) ?_
        rotate_left
        · intro wS hSw
          go_simp; (try with_reducible rfl)
        (try simp only [Act.put])
        (try simp only [List.setIfInBounds_toArray])
        (try simp only [List.set_cons_succ])
        (try simp only [List.set_cons_zero])
        refine wpAnyH_take (i := 12) (oi := ⟨_, _, _, _, _, _⟩) (v := ?_) rfl (by kernel_rfl) (by kernel_rfl) (by kernel_rfl) (fun _ _ _ h => h) (Or.inl ⟨by rfl, ?_⟩) (by assumption) ?_
        rotate_left
        · intro wS hSw
          go_simp; (try with_reducible rfl)
        (try simp only [Act.put])
        (try simp only [List.setIfInBounds_toArray])
        (try simp only [List.set_cons_succ])
        (try simp only [List.set_cons_zero])
        refine wpAnyH_take (i := 13) (oi := ⟨_, _, _, _, _, _⟩) (v := ?_) rfl (by kernel_rfl) (by kernel_rfl) (by kernel_rfl) (fun _ _ _ h => h) (Or.inl ⟨by rfl, ?_⟩) (by assumption) ?_
        rotate_left
        · intro wS hSw
          go_simp; (try with_reducible rfl)
        (try simp only [Act.put])
        (try simp only [List.setIfInBounds_toArray])
        (try simp only [List.set_cons_succ])
        (try simp only [List.set_cons_zero])
        refine wpAnyH_take (i := 14) (oi := ⟨_, _, _, _, _, _⟩) (v := ?_) rfl (by kernel_rfl) (by kernel_rfl) (by kernel_rfl) (fun _ _ _ h => h) (Or.inl ⟨by rfl, ?_⟩) (by assumption) ?_
        rotate_left
        · intro wS hSw
          have c := ceA_9 hSw; go_simp; (try with_reducible rfl)
        (try simp only [Act.put])
        (try simp only [List.setIfInBounds_toArray])
        (try simp only [List.set_cons_succ])
        (try simp only [List.set_cons_zero])
        refine wpAnyH_take (i := 15) (oi := ⟨_, _, _, _, _, _⟩) (v := ?_) rfl (by kernel_rfl) (by kernel_rfl) (by kernel_rfl) (fun _ _ _ h => h) (Or.inl ⟨by rfl, ?_⟩) (by assumption) ?_
        rotate_left
        · intro wS hSw
          go_simp; (try with_reducible rfl)
        (try simp only [Act.put])
        (try simp only [List.setIfInBounds_toArray])
        (try simp only [List.set_cons_succ])
        (try simp only [List.set_cons_zero])
        refine wpAnyH_take (i := 16) (oi := ⟨_, _, _, _, _, _⟩) (v := ?_) rfl (by kernel_rfl) (by kernel_rfl) (by kernel_rfl) (fun _ _ _ h => h) (Or.inl ⟨by rfl, ?_⟩) (by assumption) ?_
        rotate_left
        · intro wS hSw
          go_simp; (try with_reducible rfl)
        (try simp only [Act.put])
        (try simp only [List.setIfInBounds_toArray])
        (try simp only [List.set_cons_succ])
        (try simp only [List.set_cons_zero])
        refine wpAnyH_take (i := 17) (oi := ⟨_, _, _, _, _, _⟩) (v := ?_) rfl (by kernel_rfl) (by kernel_rfl) (by kernel_rfl) (fun _ _ _ h => h) (Or.inl ⟨by rfl, ?_⟩) (by assumption) ?_
        rotate_left
        · intro wS hSw
          go_simp; (try with_reducible rfl)
        (try simp only [Act.put])
        (try simp only [List.setIfInBounds_toArray])
        (try simp only [List.set_cons_succ])
        (try simp only [List.set_cons_zero])
        refine wpAnyH_done (by kernel_rfl) ?_ _
        refine HK.out _ _ ?_
        clear HK
        go_wp2
        go_ret3
        exact ⟨⟨_, _, rfl, o3⟩, hb4⟩
      · rw [if_pos rfl]
        refine wp_seq_k (fun K hK => ?_)
        have HK := Lib.hid hK
        clear hK
        go_wp2_with fail
        have hbd := (Below.refl w2.heap.size w2).drew
        have Q3 := tr_bl hbd Q2
        have o3 := p1.below hbd
        have hb4 := hb3.trans (hbd.mono hb3.size)
        refine wp_region_held_drew (S := fun w' => w'.heap[q]? = some (.cells (ceA g rep reg c0.st c0.tg (.slice a0 c0.body.length k0) c1.st c1.tg (.slice a1 c1.body.length k1)) 200 (0, 0))) (by kernel_rfl) Q3 (fun hS0 => ?_)
        clear hbd Q2 hb3
        generalize w2.drew = x0 at *
        refine wpAnyH_take (i := 0) (oi := ⟨_, _, _, _, _, _⟩) (v := ?_) rfl (by kernel_rfl) (by kernel_rfl) (by kernel_rfl) (fun _ _ _ h => h) (Or.inl ⟨by rfl, ?_⟩) (by assumption) ?_
        rotate_left
        · intro wS hSw
          go_simp; (try with_reducible rfl)
        (try simp only [Act.put])
        (try simp only [List.setIfInBounds_toArray])
        (try simp only [List.set_cons_succ])
        (try simp only [List.set_cons_zero])
        refine wpAnyH_take (i := 1) (oi := ⟨_, _, _, _, _, _⟩) (v := ?_) rfl (by kernel_rfl) (by kernel_rfl) (by kernel_rfl) (fun _ _ _ h => h) (Or.inl ⟨by rfl, ?_⟩) (by assumption) ?_
        rotate_left
        · intro wS hSw
          go_simp; (try with_reducible rfl)
        (try simp only [Act.put])
        (try simp only [List.setIfInBounds_toArray])
        (try simp only [List.set_cons_succ])
        (try simp only [List.set_cons_zero])
        refine wpAnyH_take (i := 2) (oi := ⟨_, _, _, _, _, _⟩) (v := ?_) rfl (by kernel_rfl) (by kernel_rfl) (by kernel_rfl) (fun _ _ _ h => h) (Or.inl ⟨by rfl, ?_⟩) (by assumption) ?_
        rotate_left
        · intro wS hSw
          go_simp; (try with_reducible rfl)
        (try simp only [Act.put])
        (try simp only [List.setIfInBounds_toArray])
        (try simp only [List.set_cons_succ])
        (try simp only [List.set_cons_zero])
        refine wpAnyH_take (i := 3) (oi := ⟨_, _, _, _, _, _⟩) (v := ?_) rfl (by kernel_rfl) (by kernel_rfl) (by kernel_rfl) (fun _ _ _ h => h) (Or.inl ⟨by rfl, ?_⟩) (by assumption) ?_
        rotate_left
        · intro wS hSw
          go_simp; (try with_reducible rfl)
        (try simp only [Act.put])
        (try simp only [List.setIfInBounds_toArray])
        (try simp only [List.set_cons_succ])
        (try simp only [List.set_cons_zero])
        refine wpAnyH_take (i := 4) (oi := ⟨_, _, _, _, _, _⟩) (v := ?_) rfl (by kernel_rfl) (by kernel_rfl) (by kernel_rfl) (fun _ _ _ h => h) (Or.inl ⟨by rfl, ?_⟩) (by assumption) ?_
        rotate_left
        · intro wS hSw
          go_simp; (try with_reducible rfl)
        (try simp only [Act.put])
        (try simp only [List.setIfInBounds_toArray])
        (try simp only [List.set_cons_succ])
        (try simp only [List.set_cons_zero])
        refine wpAnyH_take (i := 5) (oi := ⟨_, _, _, _, _, _⟩) (v := ?_) rfl (by kernel_rfl) (by kernel_rfl) (by kernel_rfl) (fun _ _ _ h => h) (Or.inl ⟨by rfl, ?_⟩) (by assumption) ?_
        rotate_left
        · intro wS hSw
          go_simp; (try with_reducible rfl)
        (try simp only [Act.put])
        (try simp only [List.setIfInBounds_toArray])
        (try simp only [List.set_cons_succ])
        (try simp only [List.set_cons_zero])
        refine wpAnyH_take (i := 6) (oi := ⟨_, _, _, _, _, _⟩) (v := ?_) rfl (by kernel_rfl) (by kernel_rfl) (by kernel_rfl) (fun _ _ _ h => h) (Or.inl ⟨by rfl, ?_⟩) (by assumption) ?_
        rotate_left
        · intro wS hSw
          go_simp; (try with_reducible rfl)
        (try simp only [Act.put])
        (try simp only [List.setIfInBounds_toArray])
        (try simp only [List.set_cons_succ])
        (try simp only [List.set_cons_zero])
        refine wpAnyH_take (i := 7) (oi := ⟨_, _, _, _, _, _⟩) (v := ?_) rfl (by kernel_rfl) (by kernel_rfl) (by kernel_rfl) (fun _ _ _ h => h) (Or.inl ⟨by rfl, ?_⟩) (by assumption) ?_
        rotate_left
        · intro wS hSw
          have c := ceA_14 hSw; go_simp; (try with_reducible rfl)
        (try simp only [Act.put])
        (try simp only [List.setIfInBounds_toArray])
        (try simp only [List.set_cons_succ])
        (try simp only [List.set_cons_zero])
        refine wpAnyH_take (i := 8) (oi := ⟨_, _, _, _, _, _⟩) (v := ?_) rfl (by kernel_rfl) (by kernel_rfl) (by kernel_rfl) (fun _ _ _ h => h) (Or.inl ⟨by rfl, ?_⟩) (by assumption) ?_
        rotate_left
        · intro wS hSw
          go_simp; (try with_reducible rfl)
        (try simp only [Act.put])
        (try simp only [List.setIfInBounds_toArray])
        (try simp only [List.set_cons_succ])
        (try simp only [List.set_cons_zero])
        refine wpAnyH_take (i := 9) (oi := ⟨_, _, _, _, _, _⟩) (v := ?_) rfl (by kernel_rfl) (by kernel_rfl) (by kernel_rfl) (fun _ _ _ h => h) (Or.inl ⟨by rfl, ?_⟩) (by assumption) ?_
        rotate_left
        · intro wS hSw
          go_simp; (try with_reducible rfl)
        (try simp only [Act.put])
        (try simp only [List.setIfInBounds_toArray])
        (try simp only [List.set_cons_succ])
        (try simp only [List.set_cons_zero])
        refine wpAnyH_take (i := 10) (oi := ⟨_, _, _, _, _, _⟩) (v := ?_) rfl (by kernel_rfl) (by kernel_rfl) (by kernel_rfl) (fun _ _ _ h => h) (Or.inl ⟨by rfl, ?_⟩) (by assumption) ?_
        rotate_left
        · intro wS hSw
          go_simp; (try with_reducible rfl)
        (try simp only [Act.put])
        (try simp only [List.setIfInBounds_toArray])
        (try simp only [List.set_cons_succ])
        (try simp only [List.set_cons_zero])
        refine wpAnyH_take (i := 11) (oi := ⟨_, _, _, _, _, _⟩) (v := ?_) rfl (by kernel_rfl) (by kernel_rfl) (by kernel_rfl) (fun _ _ _ h => h) (Or.inl ⟨by rfl, ?_⟩) (by assumption) ?_
        rotate_left
        · intro wS hSw
          go_simp; (try with_reducible rfl)
        (try simp only [Act.put])
        (try simp only [List.setIfInBounds_toArray])
        (try simp only [List.set_cons_succ])
        (try simp only [List.set_cons_zero])
        refine wpAnyH_take (i := 12) (oi := ⟨_, _, _, _, _, _⟩) (v := ?_) rfl (by kernel_rfl) (by kernel_rfl) (by kernel_rfl) (fun _ _ _ h => h) (Or.inl ⟨by rfl, ?_⟩) (by assumption) ?_
        rotate_left
        · intro wS hSw
          go_simp; (try with_reducible rfl)
        (try simp only [Act.put])
        (try simp only [List.setIfInBounds_toArray])
        (try simp only [List.set_cons_succ])
        (try simp only [List.set_cons_zero])
        refine wpAnyH_take (i := 13) (oi := ⟨_, _, _, _, _, _⟩) (v := ?_) rfl (by kernel_rfl) (by kernel_rfl) (by kernel_rfl) (fun _ _ _ h => h) (Or.inl ⟨by rfl, ?_⟩) (by assumption) ?_
        rotate_left
        · intro wS hSw
          go_simp; (try with_reducible rfl)
        (try simp only [Act.put])
        (try simp only [List.setIfInBounds_toArray])
        (try simp only [List.set_cons_succ])
        (try simp only [List.set_cons_zero])
        refine wpAnyH_take (i := 14) (oi := ⟨_, _, _, _, _, _⟩) (v := ?_) rfl (by kernel_rfl) (by kernel_rfl) (by kernel_rfl) (fun _ _ _ h => h) (Or.inl ⟨by rfl, ?_⟩) (by assumption) ?_
        rotate_left
        · intro wS hSw
          have c := ceA_16 hSw; go_simp; (try with_reducible rfl)
        (try simp only [Act.put])
        (try simp only [List.setIfInBounds_toArray])
        (try simp only [List.set_cons_succ])
        (try simp only [List.set_cons_zero])
        refine wpAnyH_take (i := 15) (oi := ⟨_, _, _, _, _, _⟩) (v := ?_) rfl (by kernel_rfl) (by kernel_rfl) (by kernel_rfl) (fun _ _ _ h => h) (Or.inl ⟨by rfl, ?_⟩) (by assumption) ?_
        rotate_left
        · intro wS hSw
          go_simp; (try with_reducible rfl)
        (try simp only [Act.put])
        (try simp only [List.setIfInBounds_toArray])
        (try simp only [List.set_cons_succ])
        (try simp only [List.set_cons_zero])
        refine wpAnyH_take (i := 16) (oi := ⟨_, _, _, _, _, _⟩) (v := ?_) rfl (by kernel_rfl) (by kernel_rfl) (by kernel_rfl) (fun _ _ _ h => h) (Or.inl ⟨by rfl, ?_⟩) (by assumption) ?_
        rotate_left
        · intro wS hSw
          go_simp; (try with_reducible rfl)
        (try simp only [Act.put])
        (try simp only [List.setIfInBounds_toArray])
        (try simp only [List.set_cons_succ])
        (try simp only [List.set_cons_zero])
        refine wpAnyH_take (i := 17) (oi := ⟨_, _, _, _, _, _⟩) (v := ?_) rfl (by kernel_rfl) (by kernel_rfl) (by kernel_rfl) (fun _ _ _ h => h) (Or.inl ⟨by rfl, ?_⟩) (by assumption) ?_
        rotate_left
        · intro wS hSw
          go_simp; (try with_reducible rfl)
        (try simp only [Act.put])
        (try simp only [List.setIfInBounds_toArray])
        (try simp only [List.set_cons_succ])
        (try simp only [List.set_cons_zero])
        refine wpAnyH_done (by kernel_rfl) ?_ _
        refine HK.out _ _ ?_
        clear HK
        go_wp2
        go_ret3
        exact ⟨⟨_, _, rfl, o3⟩, hb4⟩
end
end Go.Proofs.YthfolocjkpiljaaGreatDoor

namespace Go.Proofs.YthfolocjkpiljaaGreatDoor
open Go.RowKit

section
variable {B g gp : Nat} {wv : Value} {d : Dk} {w : World}
theorem copen_w (h : DiskB B g gp wv d w) (rep reg : Int) : Calls Tryz.prog 105 #[.pointer (some ⟨g, 0, none⟩), .int .i64 rep, .int .i64 reg] w fun e w' => (∃ p, e = .returned (.tuple #[.pointer p, .int .i64 (openC d rep reg)])) ∧ Below w.heap.size w w' := by
  by_cases ho : openC d rep reg = 0
  · refine (copen_good h rep reg ho).mono ?_
    rintro e w' ⟨⟨q, _, _, _, _, rfl, _⟩, hb⟩
    exact ⟨⟨_, by rw [ho]⟩, hb⟩
  · refine (copen_bad h rep reg ho).mono ?_
    rintro e w' ⟨rfl, hb⟩
    exact ⟨⟨_, rfl⟩, hb⟩
theorem loaded_ok {c0 c1 : Cp} {i : Nat} {ok : Bool} {er : Int} (h : loadedC c0 c1 = (i, ok, er)) : i < 2 ∧ (ok = false → i = 0) ∧ (ok = true → er = 0) := by
  have hlt := loaded_lt c0 c1
  rw [h] at hlt
  refine ⟨hlt, ?_, ?_⟩
  all_goals
    rintro rfl
    unfold loadedC at h
    split at h
    · cases h <;> rfl
    · split at h
      · cases h <;> rfl
      · split at h <;> cases h <;> rfl
theorem flush_waits {d : Dk} (h : (flushD d).2 = 0) : (flushD d).1.waits = [] := by
  unfold flushD at h ⊢
  by_cases h0 : live0 d = 0
  · rw [if_neg (by simpa using h0)] at h ⊢
    by_cases h1 : (spendD d).2 = 0
    · rw [if_neg (by simpa using h1)]
    · rw [if_pos h1] at h
      exact absurd h h1
  · rw [if_pos h0] at h
    exact absurd h h0
theorem put_waits {d : Dk} {t : Tg} {body : List UInt8} (h : (putC d t body).2 = 0) : (putC d t body).1.waits = [] := by
  unfold putC at h ⊢
  by_cases h0 : (writeD d (firstN t.reg t.pla) (sealF t body 64)).2 = 0
  · rw [if_neg (by simpa using h0)] at h ⊢
    exact flush_waits h
  · rw [if_pos h0] at h
    exact absurd h h0
set_option maxRecDepth 100000 in
set_option maxHeartbeats 1000000 in
theorem cstore_err (h : DiskB B g gp wv d w) (hb : B ≤ w.heap.size) (rep reg inc : Int) (a : Option Addr) (c : Nat) (body : List UInt8) (hl : body.length ≤ 1000) (hx : openC d rep reg ≠ 0 ∨ inc < 1 ∨ 1099511627776 < inc ∨ 43 < body.length) :
    Calls Tryz.prog 29 #[.pointer (some ⟨g, 0, none⟩), .int .i64 rep, .int .i64 reg, .int .i64 inc, .slice a body.length c] w fun e w' => e = .returned (.int .i64 (storeC d rep reg inc body).2) ∧ (∃ wv', DiskB B g gp wv' (storeC d rep reg inc body).1 w') ∧ Kt B w w' := by
  have hop := copen_w h rep reg
  unfold storeC
  simp only
  generalize openC d rep reg = x at *
  by_cases h1 : x ≠ 0 ∧ x ≠ 5
  case pos =>
    rw [if_pos h1]
    have e1 : (x != 0) = true := by rw [bne_iff_ne]; exact h1.1
    have e2 : (x != 5) = true := by rw [bne_iff_ne]; exact h1.2
    clear h1 hx
    go_enter Tryz.func29, Tryz.ntmps29
    go_wp2_with (first
      | (go_at_call 105; refine hop.mono ?_; rintro e w1 ⟨⟨p, rfl⟩, hb1⟩)
      | (go_at_call 106; refine (room_any 1 _).mono ?_; rintro e w2 ⟨rfl, rfl⟩))
    go_ret
    exact ⟨rfl, ⟨_, h.below hb1⟩, Kt.of hb1 hb⟩
  case neg =>
    rw [if_neg h1]
    have hx2 : x = 0 ∨ x = 5 := by omega
    clear h1
    by_cases h2 : inc < 1
    case pos =>
      rw [if_pos (.inl h2)]
      clear hx
      rcases hx2 with rfl | rfl
      · skip
        go_enter Tryz.func29, Tryz.ntmps29
        go_wp2_with (first
          | (go_at_call 105; refine hop.mono ?_; rintro e w1 ⟨⟨p, rfl⟩, hb1⟩)
          | (go_at_call 106; refine (room_any 1 _).mono ?_; rintro e w2 ⟨rfl, rfl⟩))
        go_ret
        exact ⟨rfl, ⟨_, h.below hb1⟩, Kt.of hb1 hb⟩
      · skip
        go_enter Tryz.func29, Tryz.ntmps29
        go_wp2_with (first
          | (go_at_call 105; refine hop.mono ?_; rintro e w1 ⟨⟨p, rfl⟩, hb1⟩)
          | (go_at_call 106; refine (room_any 1 _).mono ?_; rintro e w2 ⟨rfl, rfl⟩))
        go_ret
        exact ⟨rfl, ⟨_, h.below hb1⟩, Kt.of hb1 hb⟩
    case neg =>
      by_cases h3 : 1099511627776 < inc
      case pos =>
        rw [if_pos (.inr h3)]
        clear hx
        rcases hx2 with rfl | rfl
        · skip
          go_enter Tryz.func29, Tryz.ntmps29
          go_wp2_with (first
            | (go_at_call 105; refine hop.mono ?_; rintro e w1 ⟨⟨p, rfl⟩, hb1⟩)
            | (go_at_call 106; refine (room_any 1 _).mono ?_; rintro e w2 ⟨rfl, rfl⟩))
          go_ret
          exact ⟨rfl, ⟨_, h.below hb1⟩, Kt.of hb1 hb⟩
        · skip
          go_enter Tryz.func29, Tryz.ntmps29
          go_wp2_with (first
            | (go_at_call 105; refine hop.mono ?_; rintro e w1 ⟨⟨p, rfl⟩, hb1⟩)
            | (go_at_call 106; refine (room_any 1 _).mono ?_; rintro e w2 ⟨rfl, rfl⟩))
          go_ret
          exact ⟨rfl, ⟨_, h.below hb1⟩, Kt.of hb1 hb⟩
      case neg =>
        rw [if_neg (by omega)]
        by_cases h4 : 43 < body.length
        case pos =>
          rw [if_pos h4]
          have h4i : (43 : Int) < body.length := by omega
          clear hx
          rcases hx2 with rfl | rfl
          · skip
            go_enter Tryz.func29, Tryz.ntmps29
            go_wp2_with (first
              | (go_at_call 105; refine hop.mono ?_; rintro e w1 ⟨⟨p, rfl⟩, hb1⟩)
              | (go_at_call 106; refine (room_any 1 _).mono ?_; rintro e w2 ⟨rfl, rfl⟩))
            go_ret
            exact ⟨rfl, ⟨_, h.below hb1⟩, Kt.of hb1 hb⟩
          · skip
            go_enter Tryz.func29, Tryz.ntmps29
            go_wp2_with (first
              | (go_at_call 105; refine hop.mono ?_; rintro e w1 ⟨⟨p, rfl⟩, hb1⟩)
              | (go_at_call 106; refine (room_any 1 _).mono ?_; rintro e w2 ⟨rfl, rfl⟩))
            go_ret
            exact ⟨rfl, ⟨_, h.below hb1⟩, Kt.of hb1 hb⟩
        case neg =>
          rw [if_neg h4]
          have h4i : ¬ (43 : Int) < body.length := by omega
          rcases hx2 with rfl | rfl
          · exfalso
            omega
          · rw [if_pos (by decide)]
            clear hx
            go_enter Tryz.func29, Tryz.ntmps29
            go_wp2_with (first
              | (go_at_call 105; refine hop.mono ?_; rintro e w1 ⟨⟨p, rfl⟩, hb1⟩)
              | (go_at_call 106; refine (room_any 1 _).mono ?_; rintro e w2 ⟨rfl, rfl⟩))
            go_ret
            exact ⟨rfl, ⟨_, h.below hb1⟩, Kt.of hb1 hb⟩
end
end Go.Proofs.YthfolocjkpiljaaGreatDoor

