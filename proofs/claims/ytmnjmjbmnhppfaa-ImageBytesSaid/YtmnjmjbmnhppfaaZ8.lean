/- Texts that the claim leans on, part 8: I7, I7b, I8, I9, Qui, I9b, I10a, I10, Open, OS. -/
import Derived.Test.YtmnjmjbmnhppfaaZ1
import Derived.Test.YtmnjmjbmnhppfaaZ2
import Derived.Test.YtmnjmjbmnhppfaaZ3
import Derived.Test.YtmnjmjbmnhppfaaZ4
import Derived.Test.YtmnjmjbmnhppfaaZ5
import Derived.Test.YtmnjmjbmnhppfaaZ6
import Derived.Test.YtmnjmjbmnhppfaaZ7
import Derived.Test.YtmnjmjbmnhppfaaRows
import Derived.WalkKit
import Derived.WalkSpells
import Derived.WalkLawsBesides
import Derived.Handy
import Derived.Deep.QuietTactic
import Derived.BigQuiet
import Derived.Deep.DeepCutAuto
import Derived.Lib.Hide
import Derived.RegionTactic
import Derived.ChangeAlike
import Derived.Deep.RegionHeld3
import Derived.Laws.ResultCell
import Derived.Outline
import Derived.Deep.Quiet
import Derived.ChangeKeysEq
import Derived.ChangeSlices
import Derived.Deep.Slices
import Derived.ProofKit
import Derived.Lib.SmallJoins
import Derived.Laws.EntriesVeiled
import Derived.StillTailTactics
import Derived.Laws.Rows
import Derived.Lib.Overlaps
import Derived.Deep.RegionWith
import Derived.OpenShut
import Derived.Laws.Strings
import Derived.Laws.CopyOwn
import Derived.Laws.CopyRow
import Derived.Laws.NewBlocks
import Derived.Deep.RegionLaw
namespace Go.Proofs.Ytmnjmjbmnhppfaa
open Go.RowKit

theorem do_opn (a : Option Addr) (cap : Nat) (l : List Pr) (o : Opn) (w : World) (hs : SlP w a cap l) (hl : l.length ≤ 1000) (lr : List Pr × Rp) (hlr : doP l o = lr) :
    Calls Try.prog 36 #[.slice a l.length cap, .agg #[.int .u8 o.kind, .string o.key, .string o.old, .string o.val]] w fun e w' => (∃ a' cap', e = .returned (.tuple #[.slice a' lr.1.length cap', .agg #[.int .i64 lr.2.err, .bool lr.2.found, .string lr.2.val]]) ∧ SlP w' a' cap' lr.1 ∧ w'.ownsRow w.heap.size 74 2 (.slice a' lr.1.length cap') lr.1.length (prs lr.1)) ∧ Below w.heap.size w w' := by
  refine (do_any a cap l o w hs hl _ hlr).mono ?_
  rintro e w' ⟨⟨v', rfl, ho⟩, hb⟩
  obtain ⟨a', cap', rfl, hs'⟩ := SlP.of_owns ho
  exact ⟨⟨a', cap', rfl, hs', ho⟩, hb⟩
theorem rdo_opn (a : Option Addr) (cap : Nat) (l : List Pr) (o : Opn) (w : World) (hs : SlP w a cap l) (hl : l.length ≤ 1000) (hsm : ∀ p ∈ l, p.1.size ≤ 100000) (lr : List Pr × Rp) (hlr : doP l o = lr) :
    Calls Try.prog 39 #[.slice a l.length cap, .agg #[.int .u8 o.kind, .string o.key, .string o.old, .string o.val]] w fun e w' => (∃ a' cap', e = .returned (.tuple #[.slice a' lr.1.length cap', .agg #[.int .i64 lr.2.err, .bool lr.2.found, .string lr.2.val]]) ∧ SlP w' a' cap' lr.1) ∧ Below w.heap.size w w' := by
  refine (rdo_any a cap l o w hs hl hsm _ hlr).mono ?_
  rintro e w' ⟨h, hb⟩
  exact ⟨h.open, hb⟩
theorem cpy_opn (a : Option Addr) (cap : Nat) (l : List Pr) (w : World) (hs : SlP w a cap l) (hl : l.length ≤ 1000) :
    Calls Try.prog 38 #[.slice a l.length cap] w fun e w' => (∃ a' cap', e = .returned (.slice a' l.length cap') ∧ w'.ownsRow w.heap.size 74 2 (.slice a' l.length cap') l.length (prs l)) ∧ Below w.heap.size w w' := by
  refine (rcopy_any a cap l w hs hl).mono ?_
  rintro e w' ⟨⟨v, rfl, ho⟩, hb⟩
  obtain ⟨a', cap', rfl, hs'⟩ := SlP.of_owns ho
  exact ⟨⟨a', cap', rfl, ho⟩, hb⟩
theorem cln_opn (a : Option Addr) (cap : Nat) (l : List Pr) (w : World) (hs : SlP w a cap l) (hl : l.length ≤ 1000) :
    Calls Try.prog 76 #[.slice a l.length cap] w fun e w' => (∃ a' cap', e = .returned (.slice a' l.length cap') ∧ SlP w' a' cap' l ∧ w'.ownsRow w.heap.size 74 2 (.slice a' l.length cap') l.length (prs l)) ∧ Below w.heap.size w w' := by
  refine (clone_any a cap l w hs hl).mono ?_
  rintro e w' ⟨⟨v, rfl, ho⟩, hb⟩
  obtain ⟨a', cap', rfl, hs'⟩ := SlP.of_owns ho
  exact ⟨⟨a', cap', rfl, hs', ho⟩, hb⟩

theorem imA_all (i : Int) (s : Value) (t : Tb) : 0 + 18 ≤ (imA i s t).size ∧ (imA i s t).extract 0 (0 + 18) = imA i s t := arr_all rfl
theorem imA_tb (i : Int) (s : Value) (t : Tb) : 2 + 16 ≤ (imA i s t).size ∧ (imA i s t).extract 2 (2 + 16) = tbA t := ⟨Nat.le_refl _, rfl⟩
theorem imA_row (i : Int) (s : Value) (t : Tb) {c : Nat} (h : c < 4) : 2 + c * 4 + 4 ≤ (imA i s t).size ∧ (imA i s t).extract (2 + c * 4) (2 + c * 4 + 4) = rowA (t.at c) := by
  rcases four_cases h with rfl | rfl | rfl | rfl
  all_goals exact ⟨by show _ ≤ 18; omega, rfl⟩
theorem imA_one (i : Int) {s : Value} (hs : s.oneCell' = true) (t : Tb) : ∀ u ∈ (imA i s t).toList, u.oneCell' = true := by
  intro u hu
  have : (imA i s t).toList = [.int .i64 i, s] ++ (tbA t).toList := rfl
  rw [this, List.mem_append] at hu
  rcases hu with hu | hu
  · simp at hu
    rcases hu with rfl | rfl
    · rfl
    · exact hs
  · exact tbA_one t u hu
theorem imA_idx (i j : Int) (s : Value) (t : Tb) : 0 + 1 ≤ (imA i s t).size ∧ (Value.int .i64 j).cells.size = 1 ∧ (∀ u ∈ (Value.int .i64 j).cells.toList, u.oneCell' = true) ∧ ((imA i s t).toList.take 0 ++ (Value.int .i64 j).cells.toList ++ (imA i s t).toList.drop (0 + 1)).toArray = imA j s t :=
  ⟨by show _ ≤ 18; omega, rfl, by simp [Value.cells, Value.oneCell'], rfl⟩
theorem imA_sv (i : Int) (s : Value) (x : Option Addr) (n c : Nat) (t : Tb) : 1 + 1 ≤ (imA i s t).size ∧ (Value.slice x n c).cells.size = 1 ∧ (∀ u ∈ (Value.slice x n c).cells.toList, u.oneCell' = true) ∧ ((imA i s t).toList.take 1 ++ (Value.slice x n c).cells.toList ++ (imA i s t).toList.drop (1 + 1)).toArray = imA i (.slice x n c) t :=
  ⟨by show _ ≤ 18; omega, rfl, by simp [Value.cells, Value.oneCell'], rfl⟩
theorem imA_put (i : Int) (s : Value) (t : Tb) (r : Rw) {c : Nat} (h : c < 4) : 2 + c * 4 + 4 ≤ (imA i s t).size ∧ (Value.agg (rowA r)).cells.size = 4 ∧ (∀ u ∈ (Value.agg (rowA r)).cells.toList, u.oneCell' = true) ∧ ((imA i s t).toList.take (2 + c * 4) ++ (Value.agg (rowA r)).cells.toList ++ (imA i s t).toList.drop (2 + c * 4 + 4)).toArray = imA i s (t.put c r) := by
  rcases four_cases h with rfl | rfl | rfl | rfl
  all_goals exact ⟨by show _ ≤ 18; omega, rfl, rowA_one r, by simp [imA, rowA, Tb.put, Value.cells]⟩
theorem imA_tbput (i : Int) (s : Value) (t u : Tb) : 2 + 16 ≤ (imA i s t).size ∧ (Value.agg (tbA u)).cells.size = 16 ∧ (∀ x ∈ (Value.agg (tbA u)).cells.toList, x.oneCell' = true) ∧ ((imA i s t).toList.take 2 ++ (Value.agg (tbA u)).cells.toList ++ (imA i s t).toList.drop (2 + 16)).toArray = imA i s u := ⟨Nat.le_refl _, rfl, tbA_one u, rfl⟩
theorem imA_over (i : Int) (x : Option Addr) (n c : Nat) (t : Tb) (i' : Int) (s' : Value) (t' : Tb) : 0 + 18 ≤ (imA i' s' t').size ∧ (Value.agg (imA i (.slice x n c) t)).cells.size = 18 ∧ (∀ u ∈ (Value.agg (imA i (.slice x n c) t)).cells.toList, u.oneCell' = true) ∧ ((imA i' s' t').toList.take 0 ++ (Value.agg (imA i (.slice x n c) t)).cells.toList ++ (imA i' s' t').toList.drop (0 + 18)).toArray = imA i (.slice x n c) t := ⟨Nat.le_refl _, rfl, imA_one i rfl t, rfl⟩
theorem imA_new (i : Int) (x : Option Addr) (n c : Nat) (t : Tb) : (Value.agg (imA i (.slice x n c) t)).cells = imA i (.slice x n c) t ∧ (imA i (.slice x n c) t).size = 18 ∧ ∀ u ∈ (imA i (.slice x n c) t).toList, u.oneCell' = true := ⟨rfl, rfl, imA_one i rfl t⟩
theorem imA_c0 {w : World} {g : Nat} {i : Int} {s : Value} {t : Tb} {T : TypeId} (h : w.heap[g]? = some (.cells (imA i s t) T (0, 0))) : w.cell? ⟨g, 0, none⟩ = some (.int .i64 i) := blk_cell h 0 _ rfl
theorem imA_c1 {w : World} {g : Nat} {i : Int} {s : Value} {t : Tb} {T : TypeId} (h : w.heap[g]? = some (.cells (imA i s t) T (0, 0))) : w.cell? ⟨g, 1, none⟩ = some s := blk_cell h 1 _ rfl
theorem enA_all (e : En) : 0 + 7 ≤ (enA e).size ∧ (enA e).extract 0 (0 + 7) = enA e := ⟨Nat.le_refl _, rfl⟩
theorem enA_op (e : En) : 3 + 4 ≤ (enA e).size ∧ (enA e).extract 3 (3 + 4) = #[.int .u8 e.op.kind, .string e.op.key, .string e.op.old, .string e.op.val] := ⟨Nat.le_refl _, rfl⟩
theorem enA_c {w : World} {g : Nat} {e : En} {T : TypeId} (h : w.heap[g]? = some (.cells (enA e) T (0, 0))) : w.cell? ⟨g, 0, none⟩ = some (.int .u8 e.kind) ∧ w.cell? ⟨g, 1, none⟩ = some (.int .i64 e.cli) ∧ w.cell? ⟨g, 2, none⟩ = some (.int .i64 e.seq) :=
  ⟨blk_cell h 0 _ rfl, blk_cell h 1 _ rfl, blk_cell h 2 _ rfl⟩

theorem step_b {w x y : World} (h : Below w.heap.size w x) (hb : Below x.heap.size x y) : Below w.heap.size w y := h.trans (hb.mono h.size)

set_option maxRecDepth 100000 in
set_option maxHeartbeats 4000000 in
theorem rcopyI_any (idx : Int) (a : Option Addr) (cap : Nat) (l : List Pr) (t : Tb) (w : World) (hs : SlP w a cap l) (hl : l.length ≤ 1000) :
    Calls Try.prog 46 #[.agg (imA idx (.slice a l.length cap) t)] w fun e w' => (∃ a' cap', e = .returned (.agg (imA idx (.slice a' l.length cap') t)) ∧ w'.ownsRow w.heap.size 74 2 (.slice a' l.length cap') l.length (prs l)) ∧ Below w.heap.size w w' := by
  have hb0 : Below w.heap.size w ((w.alloc (Obj.cells (imA idx (.slice a l.length cap) t) 49)).alloc (Obj.cells (imA 0 (.slice none 0 0) zeroT) 49)) := ((Below.refl _ _).alloc (Nat.le_refl _) _).alloc (by simp) _
  have B1 := tr_al (Obj.cells (imA 0 (.slice none 0 0) zeroT) 49) (heap_alloc_new w (Obj.cells (imA idx (.slice a l.length cap) t) 49))
  have B2 := heap_alloc2_new w (Obj.cells (imA idx (.slice a l.length cap) t) 49) (Obj.cells (imA 0 (.slice none 0 0) zeroT) 49)
  have hs0 := hs.below hb0
  go_enter Try.func46, Try.ntmps46
  refine wp_seq_k (fun K hK => ?_)
  have HK := Lib.hid hK
  clear hK
  go_wp2
  refine HK.out _ _ ?_
  clear HK
  change Code.wp _ _ _ _ ((w.alloc (Obj.cells (imA idx (.slice a l.length cap) t) 49)).alloc (Obj.cells (imA 0 (.slice none 0 0) zeroT) 49))
  generalize (w.alloc (Obj.cells (imA idx (.slice a l.length cap) t) 49)).alloc (Obj.cells (imA 0 (.slice none 0 0) zeroT) 49) = w0 at *
  have hl1 := lt_blk B1
  have hl2 := lt_blk B2
  have HSL := Lib.hid hs0
  clear hs0
  refine wp_seq_k (fun K hK => ?_)
  have HK := Lib.hid hK
  clear hK
  go_wp2_with fail
  refine wp_region_held_drew (S := fun w' => w'.heap[w.heap.size]? = some (.cells (imA idx (.slice a l.length cap) t) 49 (0, 0))) (by kernel_rfl) B1 (fun hS0 => ?_)
  refine wpAnyH_take (i := 0) (oi := ⟨_, _, _, _, _, _⟩) (v := ?_) rfl (by kernel_rfl) (by kernel_rfl) (by kernel_rfl) (fun _ _ _ h => h) (Or.inl ⟨by rfl, ?_⟩) (by assumption) ?_
  rotate_left
  · intro wS hSw
    go_simp; (try with_reducible rfl)
  (try simp only [Act.put])
  (try simp only [List.setIfInBounds_toArray])
  (try simp only [List.set_cons_succ])
  (try simp only [List.set_cons_zero])
  refine wpAnyH_take (i := 1) (oi := ⟨_, _, _, _, _, _⟩) (v := ?_) rfl (by kernel_rfl) (by kernel_rfl) (by kernel_rfl) (fun _ _ _ h => h) (Or.inl ⟨by rfl, ?_⟩) (by assumption) ?_
  rotate_left
  · intro wS hSw
    have c := imA_c0 hSw; go_simp; (try with_reducible rfl)
  (try simp only [Act.put])
  (try simp only [List.setIfInBounds_toArray])
  (try simp only [List.set_cons_succ])
  (try simp only [List.set_cons_zero])
  refine wpAnyH_take (i := 2) (oi := ⟨_, _, _, _, _, _⟩) (v := ?_) rfl (by kernel_rfl) (by kernel_rfl) (by kernel_rfl) (fun _ _ _ h => h) (Or.inl ⟨by rfl, ?_⟩) (by assumption) ?_
  rotate_left
  · intro wS hSw
    go_simp; (try with_reducible rfl)
  (try simp only [Act.put])
  (try simp only [List.setIfInBounds_toArray])
  (try simp only [List.set_cons_succ])
  (try simp only [List.set_cons_zero])
  refine wpAnyH_take (i := 3) (oi := ⟨_, _, _, _, _, _⟩) (v := ?_) rfl (by kernel_rfl) (by kernel_rfl) (by kernel_rfl) (fun _ _ _ h => h) (Or.inl ⟨by rfl, ?_⟩) (by assumption) ?_
  rotate_left
  · intro wS hSw
    have c := imA_c1 hSw; go_simp; (try with_reducible rfl)
  (try simp only [Act.put])
  (try simp only [List.setIfInBounds_toArray])
  (try simp only [List.set_cons_succ])
  (try simp only [List.set_cons_zero])
  refine wpAnyH_take (i := 5) (oi := ⟨_, _, _, _, _, _⟩) (v := ?_) rfl (by kernel_rfl) (by kernel_rfl) (by kernel_rfl) (fun _ _ _ h => h) (Or.inl ⟨by rfl, ?_⟩) (by assumption) ?_
  rotate_left
  · intro wS hSw
    go_simp; (try with_reducible rfl)
  (try simp only [Act.put])
  (try simp only [List.setIfInBounds_toArray])
  (try simp only [List.set_cons_succ])
  (try simp only [List.set_cons_zero])
  refine wpAnyH_take (i := 6) (oi := ⟨_, _, _, _, _, _⟩) (v := .agg (tbA t)) rfl (by kernel_rfl) (by kernel_rfl) (by kernel_rfl) (fun _ _ _ h => h) (Or.inl ⟨by rfl, fun wS hSw => ?_⟩) (by assumption) ?_
  · exact exec_ldB 47 _ ⟨_, _, _, _, _, Try.isAgg47, Try.sizeOf47, rfl, hSw, imA_tb _ _ _⟩
  (try simp only [Act.put])
  (try simp only [List.setIfInBounds_toArray])
  (try simp only [List.set_cons_succ])
  (try simp only [List.set_cons_zero])
  refine wpAnyH_ready (rs := [4]) (by kernel_rfl) (by simp) ?_
  refine AllReadyH.cons (o := ⟨_, _, _, _, _, _⟩) rfl (fun K' hK' => ?_) AllReadyH.nil
  refine (if_pos (by rfl)).mpr ?_
  go_simp
  refine (cpy_opn _ _ _ _ (HSL.out.below (Below.refl _ _).drew) hl).mono ?_
  rintro e w4 ⟨⟨a', cap', rfl, hs4⟩, hb4⟩
  have B14 := tr_bl hb4 hS0
  have B24 := tr_bl hb4 (show w0.drew.heap[w.heap.size + 1]? = _ from B2)
  have hbw4 : Below w.heap.size w w4 := (hb0.drew).trans (hb4.mono (hb0.drew).size)
  refine hK'.out _ _ B14 (fun _ => ?_)
  refine wpAnyH_take (i := 7) (oi := ⟨_, _, _, _, _, _⟩) (v := .agg (imA idx (.slice a' l.length cap') t)) rfl (by kernel_rfl) (by kernel_rfl) (by kernel_rfl) (fun _ _ _ h => h) (Or.inl ⟨by rfl, fun wS hSw => ?_⟩) (by assumption) ?_
  · unfold tbA; go_simp; rfl
  (try simp only [Act.put])
  (try simp only [List.setIfInBounds_toArray])
  (try simp only [List.set_cons_succ])
  (try simp only [List.set_cons_zero])
  refine wpAnyH_ready (rs := [8]) (by kernel_rfl) (by simp) ?_
  refine AllReadyH.cons (o := ⟨_, _, _, _, _, _⟩) rfl (fun K' hK' => ?_) AllReadyH.nil
  refine (if_pos (by rfl)).mpr ?_
  refine wp_stB 49 _ _ ?_
  refine ⟨_, _, _, ⟨_, _, _, Try.sizeOf49, rfl, B24, imA_over _ _ _ _ _ _ _ _⟩, ?_⟩
  intro w5 B5 g5
  have ho5 := owns_st hs4 g5 hl2
  refine hK'.out _ _ (tr_st g5 B14 (by omega)) (fun _ => ?_)
  refine wpAnyH_done (by kernel_rfl) ?_ _
  refine HK.out _ _ ?_
  clear HK
  go_wp2
  refine bodyPost_ret (results_c1 rfl rfl (run_loadVar_all Try.isAgg49 Try.sizeOf49 B5 rfl)) rfl ⟨⟨_, _, rfl, owns_mono ho5 hb0.size⟩, bl_st hbw4 g5 hbw4.size (by omega)⟩
end Go.Proofs.Ytmnjmjbmnhppfaa

namespace Go.Proofs.Ytmnjmjbmnhppfaa
open Go.RowKit

def rpA (r : Rp) : Array Value := #[.int .i64 r.err, .bool r.found, .string r.val]
theorem rpA_one (r : Rp) : ∀ u ∈ (rpA r).toList, u.oneCell' = true := by
  intro u hu
  simp [rpA] at hu
  rcases hu with rfl | rfl | rfl <;> rfl
theorem rpA_all (r : Rp) : 0 + 3 ≤ (rpA r).size ∧ (rpA r).extract 0 (0 + 3) = rpA r := arr_all rfl
theorem rpA_over (r s : Rp) : 0 + 3 ≤ (rpA s).size ∧ (Value.agg (rpA r)).cells.size = 3 ∧ (∀ u ∈ (Value.agg (rpA r)).cells.toList, u.oneCell' = true) ∧ ((rpA s).toList.take 0 ++ (Value.agg (rpA r)).cells.toList ++ (rpA s).toList.drop (0 + 3)).toArray = rpA r := ⟨Nat.le_refl _, rfl, rpA_one r, rfl⟩
theorem rpA_row {r : Rw} : 1 + 3 ≤ (rowA r).size ∧ (rowA r).extract 1 (1 + 3) = rpA r.rep := ⟨Nat.le_refl _, rfl⟩

def badAp (m : Im) (index : Int) (e : En) : Bool := !mayI m || !mayE e || m.idx == 1099511627776 || index != m.idx + 1
theorem badAp_yes {m : Im} {index : Int} {e : En} (h : badAp m index e = true) : applyP m index e = (zeroI, zeroR, 2) := by
  unfold applyP
  rw [if_pos]
  unfold badAp at h
  simp only [Bool.or_eq_true, Bool.not_eq_true', beq_iff_eq, bne_iff_ne] at h
  rcases h with ((h | h) | h) | h
  · exact .inl h
  · exact .inr (.inl h)
  · exact .inr (.inr (.inl h))
  · exact .inr (.inr (.inr h))
theorem badAp_no {m : Im} {index : Int} {e : En} (h : badAp m index e = false) : mayI m = true ∧ mayE e = true ∧ m.idx ≠ 1099511627776 ∧ index = m.idx + 1 := by
  unfold badAp at h
  simp only [Bool.or_eq_false_iff, Bool.not_eq_false', beq_eq_false_iff_ne, bne_eq_false_iff_eq] at h
  exact ⟨h.1.1.1, h.1.1.2, h.1.2, h.2⟩
theorem applyP_go {m : Im} {index : Int} {e : En} (h : badAp m index e = false) : applyP m index e = if e.kind = 1 then ({ m with idx := index }, zeroR, 0)
  else
    let last := m.tb.at e.cli
    if e.seq < last.seq then ({ m with idx := index }, ⟨220, false, ⟨#[]⟩⟩, 0)
    else if e.seq = last.seq then ({ m with idx := index }, last.rep, 0)
    else
      let d := doP m.st e.op
      (⟨index, d.1, m.tb.put e.cli ⟨e.seq, d.2⟩⟩, d.2, 0) := by
  obtain ⟨h1, h2, h3, h4⟩ := badAp_no h
  conv => lhs; unfold applyP
  rw [if_neg]
  rintro (h | h | h | h)
  · rw [h1] at h; cases h
  · rw [h2] at h; cases h
  · exact h3 h
  · exact h h4
theorem applyP_noop {m : Im} {index : Int} {e : En} (h : badAp m index e = false) (hk : e.kind = 1) : applyP m index e = (⟨index, m.st, m.tb⟩, zeroR, 0) := by rw [applyP_go h, if_pos hk]
theorem applyP_old {m : Im} {index : Int} {e : En} (h : badAp m index e = false) (hk : e.kind ≠ 1) (hs : e.seq < (m.tb.at e.cli).seq) : applyP m index e = (⟨index, m.st, m.tb⟩, ⟨220, false, ⟨#[]⟩⟩, 0) := by
  rw [applyP_go h, if_neg hk]
  simp only [hs, if_true]
theorem applyP_same {m : Im} {index : Int} {e : En} (h : badAp m index e = false) (hk : e.kind ≠ 1) (hs : e.seq = (m.tb.at e.cli).seq) : applyP m index e = (⟨index, m.st, m.tb⟩, (m.tb.at e.cli).rep, 0) := by
  rw [applyP_go h, if_neg hk]
  have : ¬ e.seq < (m.tb.at e.cli).seq := by omega
  simp only [this, if_false]
  rw [if_pos hs]
theorem applyP_fresh {m : Im} {index : Int} {e : En} (h : badAp m index e = false) (hk : e.kind ≠ 1) (hs : (m.tb.at e.cli).seq < e.seq) : applyP m index e = (⟨index, (doP m.st e.op).1, m.tb.put e.cli ⟨e.seq, (doP m.st e.op).2⟩⟩, (doP m.st e.op).2, 0) := by
  rw [applyP_go h, if_neg hk]
  have h1 : ¬ e.seq < (m.tb.at e.cli).seq := by omega
  have h2 : ¬ e.seq = (m.tb.at e.cli).seq := by omega
  simp only [h1, if_false]
  rw [if_neg h2]
theorem mayI_parts {m : Im} (h : mayI m = true) : 0 ≤ m.idx ∧ m.idx ≤ 1099511627776 ∧ mayS m.st = true ∧ mayT m.tb = true := by
  unfold mayI at h
  simp only [Bool.and_eq_true, decide_eq_true_eq] at h
  exact ⟨h.1.1.1, h.1.1.2, h.1.2, h.2⟩
theorem mayE_parts {e : En} (h : mayE e = true) (hk : e.kind ≠ 1) : e.kind = 2 ∧ 0 ≤ e.cli ∧ e.cli < 4 ∧ 1 ≤ e.seq ∧ e.seq ≤ 1099511627776 ∧ mayO e.op = true := by
  unfold mayE at h
  rw [if_neg hk] at h
  simp only [Bool.and_eq_true, decide_eq_true_eq, beq_iff_eq] at h
  exact ⟨h.1.1.1.1.1.1, h.1.1.1.1.1.2, h.1.1.1.1.2, h.1.1.1.2, h.1.1.2, h.1.2⟩
end Go.Proofs.Ytmnjmjbmnhppfaa

namespace Go.Proofs.Ytmnjmjbmnhppfaa
open Go.RowKit

theorem rpA_new (r : Rp) : (Value.agg (rpA r)).cells = rpA r ∧ (rpA r).size = 3 ∧ ∀ u ∈ (rpA r).toList, u.oneCell' = true := ⟨rfl, rfl, rpA_one r⟩

theorem SlP.of_own1 {w : World} {base cap : Nat} {e : TypeId} {a : Option Addr} {l : List Pr} (h : w.ownsRow base e 2 (.slice a l.length cap) l.length (prs l)) : SlP w a cap l := by
  obtain ⟨a', cap', hv, hs⟩ := SlP.of_owns h
  injection hv with h1 _ h2
  subst h1 h2
  exact hs

def ApRes (base : Nat) (r : Im × Rp × Int) (en : Ending) (w' : World) : Prop :=
  ∃ a' cap', en = .returned (.tuple #[.agg (imA r.1.idx (.slice a' r.1.st.length cap') r.1.tb), .agg (rpA r.2.1), .int .i64 r.2.2]) ∧ w'.ownsRow base 74 2 (.slice a' r.1.st.length cap') r.1.st.length (prs r.1.st)

/-- What stands ahead of Apply's last statement. -/
def ApMid (w : World) (N g : Nat) (r : Im × Rp × Int) (wx : World) : Prop :=
  ∃ a' cap', wx.heap[N]? = some (.cells (imA r.1.idx (.slice a' r.1.st.length cap') r.1.tb) 49 (0, 0)) ∧ wx.heap[g]? = some (.cells (rpA r.2.1) 43 (0, 0)) ∧ r.2.2 = 0 ∧
    wx.heap[N + 2]? = some (.cells (imA 0 (.slice none 0 0) zeroT) 49 (0, 0)) ∧ wx.heap[N + 3]? = some (.cells (rpA zeroR) 43 (0, 0)) ∧ wx.ownsRow (N + 4) 74 2 (.slice a' r.1.st.length cap') r.1.st.length (prs r.1.st) ∧ Below N w wx

theorem askR_parts (t : Tb) (c s : Int) : ∃ (f : Bool) (r : Rp) (er : Int), askR t c s = .tuple #[.bool f, .agg (rpA r), .int .i64 er] ∧
    ((f = true ∧ er = 0 ∧ (t.at c).seq < s) ∨ (f = false ∧ er = 220 ∧ s < (t.at c).seq) ∨ (f = false ∧ er = 0 ∧ r = (t.at c).rep ∧ s = (t.at c).seq)) := by
  unfold askR
  by_cases h1 : (t.at c).seq < s
  · exact ⟨true, zeroR, 0, by rw [if_pos h1]; rfl, .inl ⟨rfl, rfl, h1⟩⟩
  · by_cases h2 : s < (t.at c).seq
    · exact ⟨false, zeroR, 220, by rw [if_neg h1, if_pos h2]; rfl, .inr (.inl ⟨rfl, rfl, h2⟩)⟩
    · exact ⟨false, (t.at c).rep, 0, by rw [if_neg h1, if_neg h2]; rfl, .inr (.inr ⟨rfl, rfl, rfl, by omega⟩)⟩

set_option maxRecDepth 100000 in
set_option maxHeartbeats 4000000 in
theorem apply_any (m : Im) (a : Option Addr) (cap : Nat) (index : Int) (e : En) (w : World) (hs : SlP w a cap m.st) (hl : m.st.length ≤ 1000) :
    Calls Try.prog 48 #[.agg (imA m.idx (.slice a m.st.length cap) m.tb), .int .i64 index, .agg (enA e)] w fun en w' => ApRes w.heap.size (applyP m index e) en w' ∧ Below w.heap.size w w' := by
  obtain ⟨N, hN⟩ : ∃ N, w.heap.size = N := ⟨_, rfl⟩
  have hb0 : Below w.heap.size w ((((w.alloc (Obj.cells (imA m.idx (.slice a m.st.length cap) m.tb) 49)).alloc (Obj.cells (enA e) 80)).alloc (Obj.cells (imA 0 (.slice none 0 0) zeroT) 49)).alloc (Obj.cells (rpA zeroR) 43)) := ((((Below.refl _ _).alloc (Nat.le_refl _) _).alloc (by simp) _).alloc (by simp; omega) _).alloc (by simp; omega) _
  have B3 := tr_al (Obj.cells (rpA zeroR) 43) (tr_al (Obj.cells (imA 0 (.slice none 0 0) zeroT) 49) (tr_al (Obj.cells (enA e) 80) (heap_alloc_new w (Obj.cells (imA m.idx (.slice a m.st.length cap) m.tb) 49))))
  have B5 := tr_al (Obj.cells (rpA zeroR) 43) (tr_al (Obj.cells (imA 0 (.slice none 0 0) zeroT) 49) (heap_alloc2_new w (Obj.cells (imA m.idx (.slice a m.st.length cap) m.tb) 49) (Obj.cells (enA e) 80)))
  have B6 := tr_al (Obj.cells (rpA zeroR) 43) (heap_alloc2_new (w.alloc (Obj.cells (imA m.idx (.slice a m.st.length cap) m.tb) 49)) (Obj.cells (enA e) 80) (Obj.cells (imA 0 (.slice none 0 0) zeroT) 49))
  have B7 := heap_alloc2_new ((w.alloc (Obj.cells (imA m.idx (.slice a m.st.length cap) m.tb) 49)).alloc (Obj.cells (enA e) 80)) (Obj.cells (imA 0 (.slice none 0 0) zeroT) 49) (Obj.cells (rpA zeroR) 43)
  have hs0 := hs.below hb0
  have hsz0 : ((((w.alloc (Obj.cells (imA m.idx (.slice a m.st.length cap) m.tb) 49)).alloc (Obj.cells (enA e) 80)).alloc (Obj.cells (imA 0 (.slice none 0 0) zeroT) 49)).alloc (Obj.cells (rpA zeroR) 43)).heap.size = w.heap.size + 4 := by simp
  simp only [World.size_alloc] at B3 B5 B6 B7
  go_enter Try.func48, Try.ntmps48
  refine wp_seq_k (fun K hK => ?_)
  have HK := Lib.hid hK
  clear hK
  go_wp2
  refine HK.out _ _ ?_
  clear HK
  change Code.wp _ _ _ _ ((((w.alloc (Obj.cells (imA m.idx (.slice a m.st.length cap) m.tb) 49)).alloc (Obj.cells (enA e) 80)).alloc (Obj.cells (imA 0 (.slice none 0 0) zeroT) 49)).alloc (Obj.cells (rpA zeroR) 43))
  generalize (((w.alloc (Obj.cells (imA m.idx (.slice a m.st.length cap) m.tb) 49)).alloc (Obj.cells (enA e) 80)).alloc (Obj.cells (imA 0 (.slice none 0 0) zeroT) 49)).alloc (Obj.cells (rpA zeroR) 43) = w0 at *
  simp only [hN] at *
  have HSZ0 := Lib.hid hsz0
  have hsz0 : N + 4 ≤ w0.heap.size := by have := HSZ0.out; omega
  have HN := Lib.hid hN
  have HS := Lib.hid hs0
  clear hN hs0
  refine wp_seq_k (fun K0 hK0 => ?_)
  have HK0 := Lib.hid hK0
  clear hK0
  refine wp_seq_k (fun K hK => ?_)
  go_cut [31] (fun z wx => z = .bool (badAp m index e) ∧ Below w0.heap.size w0 wx)
  case first =>
    have c0 := imA_c0 B3
    cases hmi : mayI m
    · have HMI := Lib.hid hmi
      have hz : badAp m index e = true := by unfold badAp; rw [hmi]; rfl
      have HZ := Lib.hid hz
      clear hmi hz
      go_wp2_with (first
        | ((with_reducible refine wpList_ldB 49 _ ?_); refine ⟨rfl, _, ⟨_, _, _, _, _, Try.isAgg49, Try.sizeOf49, rfl, ‹_›, imA_all _ _ _⟩, ?_⟩)
        | (go_at_call 49; refine (imay_any _ _ _ _ _ _ HS.out.row hl _ HMI.out).mono ?_; rintro en w1 ⟨rfl, hb1⟩))
      go_meet
      exact ⟨bool_eq HZ.out.symm, hb1⟩
    · have HMI := Lib.hid hmi
      obtain ⟨hi0, hi1, _, _⟩ := mayI_parts hmi
      cases hme : mayE e
      · have HME := Lib.hid hme
        have hz : badAp m index e = true := by unfold badAp; rw [hmi, hme]; rfl
        have HZ := Lib.hid hz
        clear hmi hz hme
        go_wp2_with (first
          | ((with_reducible refine wpList_ldB 49 _ ?_); refine ⟨rfl, _, ⟨_, _, _, _, _, Try.isAgg49, Try.sizeOf49, rfl, ‹_›, imA_all _ _ _⟩, ?_⟩)
          | ((with_reducible refine wpList_ldB 80 _ ?_); refine ⟨rfl, _, ⟨_, _, _, _, _, Try.isAgg80, Try.sizeOf80, rfl, ‹_›, enA_all _⟩, ?_⟩)
          | (go_at_call 49; refine (imay_any _ _ _ _ _ _ HS.out.row hl _ HMI.out).mono ?_; rintro en w1 ⟨rfl, hb1⟩; have B5 := tr_bl hb1 B5)
          | (go_at_call 83; refine (emay_any _ _ _ HME.out).mono ?_; rintro en w2 ⟨rfl, hb2⟩))
        go_meet
        exact ⟨bool_eq HZ.out.symm, step_b hb1 hb2⟩
      · have HME := Lib.hid hme
        have hz : badAp m index e = (m.idx == 1099511627776 || index != m.idx + 1) := by unfold badAp; rw [hmi, hme]; rfl
        have HZ := Lib.hid hz
        clear hmi hz hme
        have hcs : m.idx = 1099511627776 ∨ ((m.idx == 1099511627776) = false ∧ (index != m.idx + 1) = true) ∨ ((m.idx == 1099511627776) = false ∧ (index != m.idx + 1) = false) := by
          rw [beq_eq_false_iff_ne, bne_iff_ne, bne_eq_false_iff_eq]
          omega
        have HCS := Lib.hid hcs
        clear hcs
        rcases HCS.out with h | ⟨h, h2⟩ | ⟨h, h2⟩
        · have hb : (m.idx == 1099511627776) = true := by rw [h]; rfl
          clear h
          go_wp2_with (first
            | ((with_reducible refine wpList_ldB 49 _ ?_); refine ⟨rfl, _, ⟨_, _, _, _, _, Try.isAgg49, Try.sizeOf49, rfl, ‹_›, imA_all _ _ _⟩, ?_⟩)
            | ((with_reducible refine wpList_ldB 80 _ ?_); refine ⟨rfl, _, ⟨_, _, _, _, _, Try.isAgg80, Try.sizeOf80, rfl, ‹_›, enA_all _⟩, ?_⟩)
            | (go_at_call 49; refine (imay_any _ _ _ _ _ _ HS.out.row hl _ HMI.out).mono ?_; rintro en w1 ⟨rfl, hb1⟩; have B5 := tr_bl hb1 B5)
            | (go_at_call 83; refine (emay_any _ _ _ HME.out).mono ?_; rintro en w2 ⟨rfl, hb2⟩; have c0 := imA_c0 (tr_bl hb2 (tr_bl hb1 B3))))
          go_meet
          exact ⟨bool_eq (by rw [HZ.out, hb]; rfl), step_b hb1 hb2⟩
        · have hlt : m.idx < 1099511627776 := by rw [beq_eq_false_iff_ne] at h; omega
          go_wp2_with (first
            | ((with_reducible refine wpList_ldB 49 _ ?_); refine ⟨rfl, _, ⟨_, _, _, _, _, Try.isAgg49, Try.sizeOf49, rfl, ‹_›, imA_all _ _ _⟩, ?_⟩)
            | ((with_reducible refine wpList_ldB 80 _ ?_); refine ⟨rfl, _, ⟨_, _, _, _, _, Try.isAgg80, Try.sizeOf80, rfl, ‹_›, enA_all _⟩, ?_⟩)
            | (go_at_call 49; refine (imay_any _ _ _ _ _ _ HS.out.row hl _ HMI.out).mono ?_; rintro en w1 ⟨rfl, hb1⟩; have B5 := tr_bl hb1 B5)
            | (go_at_call 83; refine (emay_any _ _ _ HME.out).mono ?_; rintro en w2 ⟨rfl, hb2⟩; have c0 := imA_c0 (tr_bl hb2 (tr_bl hb1 B3))))
          go_meet
          exact ⟨bool_eq (by rw [HZ.out, h2]; simp), step_b hb1 hb2⟩
        · have hlt : m.idx < 1099511627776 := by rw [beq_eq_false_iff_ne] at h; omega
          go_wp2_with (first
            | ((with_reducible refine wpList_ldB 49 _ ?_); refine ⟨rfl, _, ⟨_, _, _, _, _, Try.isAgg49, Try.sizeOf49, rfl, ‹_›, imA_all _ _ _⟩, ?_⟩)
            | ((with_reducible refine wpList_ldB 80 _ ?_); refine ⟨rfl, _, ⟨_, _, _, _, _, Try.isAgg80, Try.sizeOf80, rfl, ‹_›, enA_all _⟩, ?_⟩)
            | (go_at_call 49; refine (imay_any _ _ _ _ _ _ HS.out.row hl _ HMI.out).mono ?_; rintro en w1 ⟨rfl, hb1⟩; have B5 := tr_bl hb1 B5)
            | (go_at_call 83; refine (emay_any _ _ _ HME.out).mono ?_; rintro en w2 ⟨rfl, hb2⟩; have c0 := imA_c0 (tr_bl hb2 (tr_bl hb1 B3))))
          go_meet
          exact ⟨bool_eq (by rw [HZ.out, h, h2]; rfl), step_b hb1 hb2⟩
  obtain ⟨rfl, hbc⟩ := hcut
  refine hK _ _ ?_; clear hK
  have B3 := tr_bl hbc B3
  have B5 := tr_bl hbc B5
  have B6 := tr_bl hbc B6
  have B7 := tr_bl hbc B7
  have HS := Lib.hid (HS.out.below hbc)
  have hbw := hb0.trans (hbc.mono (by omega))
  have hszc : N + 4 ≤ wc.heap.size := Nat.le_trans hsz0 hbc.size
  cases hbad : badAp m index e
  · obtain ⟨hmi, hme, hne, hix⟩ := badAp_no hbad
    obtain ⟨hi0, hi1, hms, hmt⟩ := mayI_parts hmi
    have HBAD := Lib.hid hbad
    have HMS := Lib.hid hms
    have HMT := Lib.hid hmt
    have HME := Lib.hid hme
    clear hbad hmi hms hmt hme hne hix
    go_wp2
    refine HK0.out _ _ ?_
    clear HK0
    have c1 := imA_c1 B3
    refine wp_seq_k (fun K hK => ?_)
    have HK := Lib.hid hK
    clear hK
    go_wp2_with (first
          | (go_at_call 76; refine (cln_opn _ _ _ _ HS.out hl).mono ?_; rintro en w1 ⟨⟨a1, cap1, rfl, hs1, ho1⟩, hb1⟩; have B3 := tr_bl hb1 B3; have B5 := tr_bl hb1 B5; have B6 := tr_bl hb1 B6; have B7 := tr_bl hb1 B7; clear c1)
          | ((first | (with_reducible refine wpList_stB 3 _ _ ?_) | (with_reducible refine wp_stB 3 _ _ ?_)); refine ⟨_, _, _, ⟨_, _, _, Try.sizeOf3, rfl, ‹_›, imA_idx _ index _ _⟩, ?_⟩; intro w2 M3 g2; have M5 := tr_st g2 B5 (by omega); have M6 := tr_st g2 B6 (by omega); have M7 := tr_st g2 B7 (by omega); have ho2 := owns_st ho1 g2 (by omega))
          | ((first | (with_reducible refine wpList_stB 41 _ _ ?_) | (with_reducible refine wp_stB 41 _ _ ?_)); refine ⟨_, _, _, ⟨_, _, _, Try.sizeOf41, rfl, ‹_›, imA_sv _ _ _ _ _ _⟩, ?_⟩; intro w3 N3 g3; have N5 := tr_st g3 M5 (by omega); have N6 := tr_st g3 M6 (by omega); have N7 := tr_st g3 M7 (by omega); have ho3 := owns_st ho2 g3 (by omega)))
    refine HK.out _ _ ?_
    clear HK
    have hbw1 := hbw.trans (hb1.mono (by omega))
    have hz1 : N + 4 ≤ w1.heap.size := by have := hb1.size; omega
    have hbw2 := bl_st hbw1 g2 (by omega) (by omega)
    have hz2 : N + 4 ≤ w2.heap.size := by have := g2.size; omega
    have hbw3 := bl_st hbw2 g3 (by omega) (by omega)
    have hz3 : N + 4 ≤ w3.heap.size := by have := g3.size; omega
    have ho3 := owns_mono ho3 hszc
    clear B3 B5 B6 B7 M3 M5 M6 M7 ho1 ho2 g2 g3 hbw1 hbw2 hb1 hs1 hbc hb0 hbw
    obtain ⟨e0, e1, e2⟩ := enA_c N5
    by_cases hk : e.kind = 1
    · rw [applyP_noop HBAD.out hk]
      have hkb : (e.kind == 1) = true := by rw [hk]; rfl
      clear hk
      go_wp2_with (first
        | ((with_reducible refine wpList_ldB 49 _ ?_); refine ⟨rfl, _, ⟨_, _, _, _, _, Try.isAgg49, Try.sizeOf49, rfl, ‹_›, imA_all _ _ _⟩, ?_⟩)
        | ((first | (with_reducible refine wpList_stB 49 _ _ ?_) | (with_reducible refine wp_stB 49 _ _ ?_)); refine ⟨_, _, _, ⟨_, _, _, Try.sizeOf49, rfl, ‹_›, imA_over _ _ _ _ _ _ _ _⟩, ?_⟩; intro w4 Q6 g4; have Q7 := tr_st g4 N7 (by omega); have ho4 := owns_st ho3 g4 (by omega))
        | ((first | (with_reducible refine wpList_stB 43 _ _ ?_) | (with_reducible refine wp_stB 43 _ _ ?_)); refine ⟨_, _, _, ⟨_, _, _, Try.sizeOf43, rfl, ‹_›, rpA_over zeroR _⟩, ?_⟩; intro w5 R7 g5; have R6 := tr_st g5 Q6 (by omega); have ho5 := owns_st ho4 g5 (by omega)))
      refine bodyPost_ret (results_c2t1 rfl rfl (run_loadVar_all Try.isAgg49 Try.sizeOf49 R6 rfl) rfl (run_loadVar_all Try.isAgg43 Try.sizeOf43 R7 rfl)) rfl ⟨⟨_, _, rfl, owns_mono ho5 (by have := HN.out; omega)⟩, ?_⟩
      have h4 := bl_st hbw3 g4 (by omega) (by omega)
      exact bl_st h4 g5 (by have := g4.size; omega) (by omega)
    · obtain ⟨hk2, hc0, hc4, hq1, hq2, hmo⟩ := mayE_parts HME.out hk
      have hkb : (e.kind == 1) = false := beq_eq_false_iff_ne.2 hk
      obtain ⟨c, hcl⟩ : ∃ c : Nat, e.cli = c := ⟨e.cli.toNat, by omega⟩
      rw [hcl] at e1 hc0 hc4
      have hc5 : c < 4 := by omega
      obtain ⟨f, r0, er, hask, hcase⟩ := askR_parts m.tb c e.seq
      have HASK := Lib.hid hask
      have HC := Lib.hid hcase
      have HCL := Lib.hid hcl
      have HK1 := Lib.hid hk
      clear hask hcase hcl hk hk2 hmo
      refine wp_seq_k (fun K hK => ?_)
      have HK := Lib.hid hK
      clear hK
      go_wp2
      refine HK.out _ _ ?_
      clear HK
      clear hkb
      refine wp_seq_k (fun K hK => ?_)
      have HK := Lib.hid hK
      clear hK
      go_wp2_with (first
              | ((with_reducible refine wpList_ldB 47 _ ?_); refine ⟨rfl, _, ⟨_, _, _, _, _, Try.isAgg47, Try.sizeOf47, rfl, ‹_›, imA_tb _ _ _⟩, ?_⟩)
              | (go_at_call 84; refine (ask_any _ _ _ _ HMT.out hc0 hc4 hq1 hq2).mono ?_; rintro en w4 ⟨rfl, hb4⟩; rw [HASK.out])
              | ((first | (with_reducible refine wpList_stNew 43 _ _ ?_) | (with_reducible refine wp_stNew 43 _ _ ?_)); refine ⟨_, _, ⟨Try.sizeOf43, rfl, rpA_new r0⟩, rfl, ?_⟩))
      refine HK.out _ _ ?_
      clear HK
      have P3 := tr_al (Obj.cells (rpA r0) 43) (tr_bl hb4 N3)
      have P5 := tr_al (Obj.cells (rpA r0) 43) (tr_bl hb4 N5)
      have P6 := tr_al (Obj.cells (rpA r0) 43) (tr_bl hb4 N6)
      have P7 := tr_al (Obj.cells (rpA r0) 43) (tr_bl hb4 N7)
      have ho4 := owns_bl (owns_bl ho3 hb4) (blw w4 (Obj.cells (rpA r0) 43))
      have P10 := heap_alloc_new w4 (Obj.cells (rpA r0) 43)
      have hz4 : N + 4 ≤ w4.heap.size := by have := hb4.size; omega
      have hbw5 := (hbw3.trans (hb4.mono (by omega))).trans ((blw w4 (Obj.cells (rpA r0) 43)).mono (by omega))
      clear N3 N5 N6 N7 ho3 hb4 hbw3 e0 e1 e2
      generalize w4.alloc (Obj.cells (rpA r0) 43) = w5 at *
      obtain ⟨g10, hg10⟩ : ∃ g, w4.heap.size = g := ⟨_, rfl⟩
      rw [hg10] at P10 hz4
      simp only [hg10]
      clear hg10
      have hz5 := lt_blk P10
      obtain ⟨e0, e1, e2⟩ := enA_c P5
      rw [HCL.out] at e1
      refine wp_seq_k (fun K hK => ?_)
      go_cut [] (fun wx => ApMid w N g10 (applyP m index e) wx)
      case first =>
        rcases HC.out with ⟨rfl, rfl, hq⟩ | ⟨rfl, rfl, hq⟩ | ⟨rfl, rfl, hr, hq⟩
        · have hap := applyP_fresh HBAD.out HK1.out (by rw [HCL.out]; exact hq)
          obtain ⟨lr, hlr⟩ : ∃ lr, doP m.st e.op = lr := ⟨_, rfl⟩
          rw [hlr, HCL.out] at hap
          have HLR := Lib.hid hlr
          have HAP := Lib.hid hap
          clear hlr hap
          have c1 := imA_c1 P3
          have hsp := Lib.hid (SlP.of_owns ho4)
          go_wp2_with (first
            | ((with_reducible refine wpList_ldB 61 _ ?_); refine ⟨rfl, _, ⟨_, _, _, _, _, Try.isAgg61, Try.sizeOf61, rfl, ‹_›, enA_op _⟩, ?_⟩)
            | ((with_reducible refine wpList_ldB 47 _ ?_); refine ⟨rfl, _, ⟨_, _, _, _, _, Try.isAgg47, Try.sizeOf47, rfl, ‹_›, imA_tb _ _ _⟩, ?_⟩)
            | ((with_reducible refine wpList_ldB 43 _ ?_); refine ⟨rfl, _, ⟨_, _, _, _, _, Try.isAgg43, Try.sizeOf43, rfl, ‹_›, rpA_all _⟩, ?_⟩)
            | (go_at_call 36; refine (do_opn _ _ _ e.op _ (SlP.of_own1 ho4) (by omega) _ HLR.out).mono ?_; rintro en w6 ⟨⟨a6, cap6, rfl, hs6, ho6⟩, hb6⟩; have P3 := tr_bl hb6 P3; have P5 := tr_bl hb6 P5; have P6 := tr_bl hb6 P6; have P7 := tr_bl hb6 P7; have P10 := tr_bl hb6 P10; clear c1)
            | ((first | (with_reducible refine wpList_stB 41 _ _ ?_) | (with_reducible refine wp_stB 41 _ _ ?_)); refine ⟨_, _, _, ⟨_, _, _, Try.sizeOf41, rfl, ‹_›, imA_sv _ _ _ _ _ _⟩, ?_⟩; intro w7 Q3 g7; have Q5 := tr_st g7 P5 (by omega); have Q6 := tr_st g7 P6 (by omega); have Q7 := tr_st g7 P7 (by omega); have Q10 := tr_st g7 P10 (by omega); have ho7 := owns_st ho6 g7 (by omega); clear P3 P5 P6 P7 P10)
            | ((first | (with_reducible refine wpList_stB 43 _ _ ?_) | (with_reducible refine wp_stB 43 _ _ ?_)); refine ⟨_, _, _, ⟨_, _, _, Try.sizeOf43, rfl, ‹_›, rpA_over lr.2 _⟩, ?_⟩; intro w8 R10 g8; have R3 := tr_st g8 Q3 (by omega); have R5 := tr_st g8 Q5 (by omega); have R6 := tr_st g8 Q6 (by omega); have R7 := tr_st g8 Q7 (by omega); have ho8 := owns_st ho7 g8 (by omega); clear Q3 Q5 Q6 Q7 Q10; obtain ⟨e0, e1, e2⟩ := enA_c R5; rw [HCL.out] at e1)
            | (go_at_call 85; refine (note_any _ _ _ lr.2.err lr.2.found lr.2.val _ HMT.out hc5 hq1 hq2 hq (HLR.out ▸ doP_bad_no HMS.out)).mono ?_; rintro en w9 ⟨rfl, hb9⟩; have R3 := tr_bl hb9 R3; have R6 := tr_bl hb9 R6; have R7 := tr_bl hb9 R7; have R10 := tr_bl hb9 R10; have ho9 := owns_bl ho8 hb9)
            | ((first | (with_reducible refine wpList_stB 47 _ _ ?_) | (with_reducible refine wp_stB 47 _ _ ?_)); refine ⟨_, _, _, ⟨_, _, _, Try.sizeOf47, rfl, ‹_›, imA_tbput _ _ _ _⟩, ?_⟩; intro w10 S3 g10'; have S6 := tr_st g10' R6 (by omega); have S7 := tr_st g10' R7 (by omega); have S10 := tr_st g10' R10 (by omega); have ho10 := owns_st ho9 g10' (by omega)))
          go_meet
          rw [HAP.out]
          have hz6 : N + 4 ≤ w6.heap.size := by have := hb6.size; omega
          have h6 := hbw5.trans (hb6.mono (by omega))
          have h7 := bl_st h6 g7 (by omega) (by omega)
          have h8 := bl_st h7 g8 (by have := g7.size; omega) (by omega)
          have h9 := h8.trans (hb9.mono (by have := g7.size; have := g8.size; omega))
          exact ⟨_, _, S3, S10, rfl, S6, S7, owns_mono ho10 (by omega), bl_st h9 g10' (by have := g7.size; have := g8.size; have := hb9.size; omega) (by omega)⟩
        · have hap := applyP_old HBAD.out HK1.out (by rw [HCL.out]; exact hq)
          have HAP := Lib.hid hap
          clear hap
          go_wp2_with ((first | (with_reducible refine wpList_stB 43 _ _ ?_) | (with_reducible refine wp_stB 43 _ _ ?_)); refine ⟨_, _, _, ⟨_, _, _, Try.sizeOf43, rfl, ‹_›, rpA_over ⟨220, false, ⟨#[]⟩⟩ _⟩, ?_⟩; intro w6 Q10 g6; have Q3 := tr_st g6 P3 (by omega); have Q6 := tr_st g6 P6 (by omega); have Q7 := tr_st g6 P7 (by omega); have ho6 := owns_ne ho4 g6 P10 (by decide))
          go_meet
          rw [HAP.out]
          exact ⟨_, _, Q3, Q10, rfl, Q6, Q7, ho6, bl_st hbw5 g6 (by omega) (by omega)⟩
        · have hap := applyP_same HBAD.out HK1.out (by rw [HCL.out]; exact hq)
          rw [HCL.out, ← hr] at hap
          have HAP := Lib.hid hap
          clear hap hr
          go_wp2
          go_meet
          rw [HAP.out]
          exact ⟨_, _, P3, P10, rfl, P6, P7, ho4, hbw5⟩
      clear P3 P5 P6 P7 P10 ho4 hbw5 e0 e1 e2
      obtain ⟨a6, cap6, P3, P10, h0, P6, P7, ho6, hbw6⟩ := hcut
      refine hK _ _ ?_; clear hK
      generalize applyP m index e = out at *
      obtain ⟨⟨oi, ost, ot⟩, orp, oer⟩ := out
      simp only at P3 P10 h0 ho6
      subst h0
      refine wp_seq_k (fun K hK => ?_)
      have HK := Lib.hid hK
      clear hK
      go_wp2_with fail
      refine wp_region_held_drew (S := fun w' => w'.heap[N]? = some (.cells (imA oi (.slice a6 ost.length cap6) ot) 49 (0, 0)) ∧ w'.heap[g10]? = some (.cells (rpA orp) 43 (0, 0))) (by kernel_rfl) ⟨P3, P10⟩ (fun hS0 => ?_)
      refine wpAnyH_take (i := 0) (oi := ⟨_, _, _, _, _, _⟩) (v := .agg (imA oi (.slice a6 ost.length cap6) ot)) rfl (by kernel_rfl) (by kernel_rfl) (by kernel_rfl) (fun _ _ _ h => h) (Or.inl ⟨by rfl, fun wS hSw => ?_⟩) (by assumption) ?_
      · exact exec_ldB 49 _ ⟨_, _, _, _, _, Try.isAgg49, Try.sizeOf49, rfl, hSw.1, imA_all _ _ _⟩
      (try simp only [Act.put])
      (try simp only [List.setIfInBounds_toArray])
      (try simp only [List.set_cons_succ])
      (try simp only [List.set_cons_zero])
      refine wpAnyH_take (i := 1) (oi := ⟨_, _, _, _, _, _⟩) (v := .agg (rpA orp)) rfl (by kernel_rfl) (by kernel_rfl) (by kernel_rfl) (fun _ _ _ h => h) (Or.inl ⟨by rfl, fun wS hSw => ?_⟩) (by assumption) ?_
      · exact exec_ldB 43 _ ⟨_, _, _, _, _, Try.isAgg43, Try.sizeOf43, rfl, hSw.2, rpA_all _⟩
      (try simp only [Act.put])
      (try simp only [List.setIfInBounds_toArray])
      (try simp only [List.set_cons_succ])
      (try simp only [List.set_cons_zero])
      refine wpAnyH_ready (rs := [2]) (by kernel_rfl) (by simp) ?_
      refine AllReadyH.cons (o := ⟨_, _, _, _, _, _⟩) rfl (fun K' hK' => ?_) AllReadyH.nil
      refine (if_pos (by rfl)).mpr ?_
      refine wp_stB 49 _ _ ?_
      refine ⟨_, _, _, ⟨_, _, _, Try.sizeOf49, rfl, P6, imA_over _ _ _ _ _ _ _ _⟩, ?_⟩
      intro w7 Q6 g7
      refine hK'.out _ _ ⟨tr_st g7 P3 (by omega), tr_st g7 P10 (by omega)⟩ (fun _ => ?_)
      have Q7 := tr_st g7 P7 (by omega)
      refine wpAnyH_ready (rs := [3]) (by kernel_rfl) (by simp) ?_
      refine AllReadyH.cons (o := ⟨_, _, _, _, _, _⟩) rfl (fun K' hK' => ?_) AllReadyH.nil
      refine (if_pos (by rfl)).mpr ?_
      refine wp_stB 43 _ _ ?_
      refine ⟨_, _, _, ⟨_, _, _, Try.sizeOf43, rfl, Q7, rpA_over _ _⟩, ?_⟩
      intro w8 R7 g8
      have R6 := tr_st g8 Q6 (by omega)
      refine hK'.out _ _ ⟨tr_st g8 (tr_st g7 P3 (by omega)) (by omega), tr_st g8 (tr_st g7 P10 (by omega)) (by omega)⟩ (fun _ => ?_)
      refine wpAnyH_ready (rs := [4]) (by kernel_rfl) (by simp) ?_
      refine AllReadyH.cons (o := ⟨_, _, _, _, _, _⟩) rfl (fun K' hK' => ?_) AllReadyH.nil
      refine (if_pos (by rfl)).mpr ?_
      go_simp
      refine hK'.out _ _ ⟨tr_st g8 (tr_st g7 P3 (by omega)) (by omega), tr_st g8 (tr_st g7 P10 (by omega)) (by omega)⟩ (fun _ => ?_)
      refine wpAnyH_done (by kernel_rfl) ?_ _
      refine HK.out _ _ ?_
      clear HK
      go_wp2
      refine bodyPost_ret (results_c2t1 rfl rfl (run_loadVar_all Try.isAgg49 Try.sizeOf49 R6 rfl) rfl (run_loadVar_all Try.isAgg43 Try.sizeOf43 R7 rfl)) rfl ⟨⟨_, _, rfl, owns_mono (owns_st (owns_st ho6.drew g7 (by omega)) g8 (by omega)) (by have := HN.out; omega)⟩, ?_⟩
      have h7 : Below N w w7 := bl_st hbw6.drew g7 (by have := lt_blk P10; simp; omega) (by omega)
      exact bl_st h7 g8 (by have := lt_blk P10; have := g7.size; simp at this; omega) (by omega)
  · rw [badAp_yes hbad]
    clear hbad
    go_wp2_with (first
      | ((first | (with_reducible refine wpList_stB 49 _ _ ?_) | (with_reducible refine wp_stB 49 _ _ ?_)); refine ⟨_, _, _, ⟨_, _, _, Try.sizeOf49, rfl, ‹_›, imA_over 0 none 0 0 zeroT _ _ _⟩, ?_⟩; intro w1 N6 g1; have N7 := tr_st g1 B7 (by omega))
      | ((first | (with_reducible refine wpList_stB 43 _ _ ?_) | (with_reducible refine wp_stB 43 _ _ ?_)); refine ⟨_, _, _, ⟨_, _, _, Try.sizeOf43, rfl, ‹_›, rpA_over zeroR _⟩, ?_⟩; intro w2 M7 g2; have M6 := tr_st g2 N6 (by omega)))
    refine bodyPost_ret (results_c2t1 rfl rfl (run_loadVar_all Try.isAgg49 Try.sizeOf49 M6 rfl) rfl (run_loadVar_all Try.isAgg43 Try.sizeOf43 M7 rfl)) rfl ⟨⟨none, 0, rfl, World.ownsRow_nil _ _ _ _⟩, ?_⟩
    have h1 := bl_st hbw g1 (by omega) (by omega)
    exact bl_st h1 g2 (by have := g1.size; omega) (by omega)
end Go.Proofs.Ytmnjmjbmnhppfaa

namespace Go.Proofs.Ytmnjmjbmnhppfaa
open Go.RowKit

theorem rdo_own (a : Option Addr) (cap : Nat) (l : List Pr) (o : Opn) (w : World) (hs : SlP w a cap l) (hl : l.length ≤ 1000) (hsm : ∀ p ∈ l, p.1.size ≤ 100000) (lr : List Pr × Rp) (hlr : doP l o = lr) :
    Calls Try.prog 39 #[.slice a l.length cap, .agg #[.int .u8 o.kind, .string o.key, .string o.old, .string o.val]] w fun e w' => (∃ a' cap', e = .returned (.tuple #[.slice a' lr.1.length cap', .agg (rpA lr.2)]) ∧ w'.ownsRow w.heap.size 74 2 (.slice a' lr.1.length cap') lr.1.length (prs lr.1)) ∧ Below w.heap.size w w' := by
  refine (rdo_any a cap l o w hs hl hsm _ hlr).mono ?_
  rintro e w' ⟨⟨v', rfl, ho⟩, hb⟩
  obtain ⟨a', cap', rfl, hs'⟩ := SlP.of_owns ho
  exact ⟨⟨a', cap', rfl, ho⟩, hb⟩
theorem rowA_new (r : Rw) : (Value.agg (rowA r)).cells = rowA r ∧ (rowA r).size = 4 ∧ ∀ u ∈ (rowA r).toList, u.oneCell' = true := ⟨rfl, rfl, rowA_one r⟩
theorem rpA_lit (r : Rp) : 0 + 3 ≤ (rpA r).size ∧ (rpA r).extract 0 (0 + 3) = #[.int .i64 r.err, .bool r.found, .string r.val] := arr_all rfl
theorem bad_ref {m : Im} {index : Int} {e : En} (h1 : mayI m = true) (h2 : mayE e = true) (h3 : 1099511627776 < index ∨ index < 1 ∨ index - 1 ≠ m.idx) : badAp m index e = true := by
  obtain ⟨a, b, _, _⟩ := mayI_parts h1
  unfold badAp
  rw [h1, h2]
  by_cases h : m.idx = 1099511627776
  · simp [h]
  · have : index ≠ m.idx + 1 := by omega
    simp [this]
theorem good_ref {m : Im} {index : Int} {e : En} (h1 : mayI m = true) (h2 : mayE e = true) (h3 : index ≤ 1099511627776) (h4 : index - 1 = m.idx) : badAp m index e = false := by
  obtain ⟨a, b, _, _⟩ := mayI_parts h1
  unfold badAp
  rw [h1, h2]
  have e1 : ¬ m.idx = 1099511627776 := by omega
  have e2 : index = m.idx + 1 := by omega
  simp [e2]
  omega

set_option maxRecDepth 100000 in
set_option maxHeartbeats 4000000 in
theorem rapply_any (m : Im) (a : Option Addr) (cap : Nat) (index : Int) (e : En) (w : World) (hs : SlP w a cap m.st) (hl : m.st.length ≤ 1000) (hsm : ∀ p ∈ m.st, p.1.size ≤ 100000) :
    Calls Try.prog 47 #[.agg (imA m.idx (.slice a m.st.length cap) m.tb), .int .i64 index, .agg (enA e)] w fun en w' => ApRes w.heap.size (applyP m index e) en w' ∧ Below w.heap.size w w' := by
  obtain ⟨N, hN⟩ : ∃ N, w.heap.size = N := ⟨_, rfl⟩
  have hb0 : Below w.heap.size w ((((w.alloc (Obj.cells (imA m.idx (.slice a m.st.length cap) m.tb) 49)).alloc (Obj.cells (enA e) 80)).alloc (Obj.cells (imA 0 (.slice none 0 0) zeroT) 49)).alloc (Obj.cells (rpA zeroR) 43)) := ((((Below.refl _ _).alloc (Nat.le_refl _) _).alloc (by simp) _).alloc (by simp; omega) _).alloc (by simp; omega) _
  have B3 := tr_al (Obj.cells (rpA zeroR) 43) (tr_al (Obj.cells (imA 0 (.slice none 0 0) zeroT) 49) (tr_al (Obj.cells (enA e) 80) (heap_alloc_new w (Obj.cells (imA m.idx (.slice a m.st.length cap) m.tb) 49))))
  have B5 := tr_al (Obj.cells (rpA zeroR) 43) (tr_al (Obj.cells (imA 0 (.slice none 0 0) zeroT) 49) (heap_alloc2_new w (Obj.cells (imA m.idx (.slice a m.st.length cap) m.tb) 49) (Obj.cells (enA e) 80)))
  have B6 := tr_al (Obj.cells (rpA zeroR) 43) (heap_alloc2_new (w.alloc (Obj.cells (imA m.idx (.slice a m.st.length cap) m.tb) 49)) (Obj.cells (enA e) 80) (Obj.cells (imA 0 (.slice none 0 0) zeroT) 49))
  have B7 := heap_alloc2_new ((w.alloc (Obj.cells (imA m.idx (.slice a m.st.length cap) m.tb) 49)).alloc (Obj.cells (enA e) 80)) (Obj.cells (imA 0 (.slice none 0 0) zeroT) 49) (Obj.cells (rpA zeroR) 43)
  have hs0 := hs.below hb0
  have hsz0 : ((((w.alloc (Obj.cells (imA m.idx (.slice a m.st.length cap) m.tb) 49)).alloc (Obj.cells (enA e) 80)).alloc (Obj.cells (imA 0 (.slice none 0 0) zeroT) 49)).alloc (Obj.cells (rpA zeroR) 43)).heap.size = w.heap.size + 4 := by simp
  simp only [World.size_alloc] at B3 B5 B6 B7
  go_enter Try.func47, Try.ntmps47
  refine wp_seq_k (fun K hK => ?_)
  have HK := Lib.hid hK
  clear hK
  go_wp2
  refine HK.out _ _ ?_
  clear HK
  change Code.wp _ _ _ _ ((((w.alloc (Obj.cells (imA m.idx (.slice a m.st.length cap) m.tb) 49)).alloc (Obj.cells (enA e) 80)).alloc (Obj.cells (imA 0 (.slice none 0 0) zeroT) 49)).alloc (Obj.cells (rpA zeroR) 43))
  generalize (((w.alloc (Obj.cells (imA m.idx (.slice a m.st.length cap) m.tb) 49)).alloc (Obj.cells (enA e) 80)).alloc (Obj.cells (imA 0 (.slice none 0 0) zeroT) 49)).alloc (Obj.cells (rpA zeroR) 43) = w0 at *
  have HBN : Hid (∀ w', Below N w w' → SlP w' a cap m.st) := Lib.hid (fun w' h => hs.below (by rw [hN]; exact h))
  simp only [hN] at *
  have HSZ0 := Lib.hid hsz0
  have hsz0 : N + 4 ≤ w0.heap.size := by have := HSZ0.out; omega
  have HS := Lib.hid hs0
  have HSM := Lib.hid hsm
  clear hN hs0 hsm
  refine wp_seq_k (fun K0 hK0 => ?_)
  have HK0 := Lib.hid hK0
  clear hK0
  refine wp_seq_k (fun K hK => ?_)
  go_cut [35] (fun z wx => z = .bool (badAp m index e) ∧ Below w0.heap.size w0 wx)
  case first =>
    have c0 := imA_c0 B3
    cases hmi : mayI m
    · have HMI := Lib.hid hmi
      have hz : badAp m index e = true := by unfold badAp; rw [hmi]; rfl
      have HZ := Lib.hid hz
      clear hmi hz
      go_wp2_with (first
        | ((with_reducible refine wpList_ldB 49 _ ?_); refine ⟨rfl, _, ⟨_, _, _, _, _, Try.isAgg49, Try.sizeOf49, rfl, ‹_›, imA_all _ _ _⟩, ?_⟩)
        | (go_at_call 50; refine (rimay_any _ _ _ _ _ _ HS.out.row hl HSM.out _ HMI.out).mono ?_; rintro en w1 ⟨rfl, hb1⟩))
      go_meet
      exact ⟨bool_eq HZ.out.symm, hb1⟩
    · have HMI := Lib.hid hmi
      obtain ⟨hi0, hi1, _, _⟩ := mayI_parts hmi
      cases hme : mayE e
      · have HME := Lib.hid hme
        have hz : badAp m index e = true := by unfold badAp; rw [hmi, hme]; rfl
        have HZ := Lib.hid hz
        clear hmi hz hme
        go_wp2_with (first
          | ((with_reducible refine wpList_ldB 49 _ ?_); refine ⟨rfl, _, ⟨_, _, _, _, _, Try.isAgg49, Try.sizeOf49, rfl, ‹_›, imA_all _ _ _⟩, ?_⟩)
          | ((with_reducible refine wpList_ldB 80 _ ?_); refine ⟨rfl, _, ⟨_, _, _, _, _, Try.isAgg80, Try.sizeOf80, rfl, ‹_›, enA_all _⟩, ?_⟩)
          | (go_at_call 50; refine (rimay_any _ _ _ _ _ _ HS.out.row hl HSM.out _ HMI.out).mono ?_; rintro en w1 ⟨rfl, hb1⟩; have B5 := tr_bl hb1 B5)
          | (go_at_call 82; refine (fmay_any _ _ _ HME.out).mono ?_; rintro en w2 ⟨rfl, hb2⟩))
        go_meet
        exact ⟨bool_eq HZ.out.symm, step_b hb1 hb2⟩
      · have HME := Lib.hid hme
        have HBR := Lib.hid (bad_ref (index := index) hmi hme)
        have HGR := Lib.hid (good_ref (index := index) hmi hme)
        clear hmi hme
        have hcs : 1099511627776 < index ∨ (index ≤ 1099511627776 ∧ index < 1) ∨ (index ≤ 1099511627776 ∧ 1 ≤ index ∧ (index - 1 != m.idx) = true) ∨ (index ≤ 1099511627776 ∧ 1 ≤ index ∧ (index - 1 != m.idx) = false) := by
          rw [bne_iff_ne, bne_eq_false_iff_eq]
          omega
        have HCS := Lib.hid hcs
        clear hcs
        rcases HCS.out with h | ⟨h, h2⟩ | ⟨h, h2, h3⟩ | ⟨h, h2, h3⟩
        · have HZ := Lib.hid (HBR.out (.inl h))
          go_wp2_with (first
            | ((with_reducible refine wpList_ldB 49 _ ?_); refine ⟨rfl, _, ⟨_, _, _, _, _, Try.isAgg49, Try.sizeOf49, rfl, ‹_›, imA_all _ _ _⟩, ?_⟩)
            | ((with_reducible refine wpList_ldB 80 _ ?_); refine ⟨rfl, _, ⟨_, _, _, _, _, Try.isAgg80, Try.sizeOf80, rfl, ‹_›, enA_all _⟩, ?_⟩)
            | (go_at_call 50; refine (rimay_any _ _ _ _ _ _ HS.out.row hl HSM.out _ HMI.out).mono ?_; rintro en w1 ⟨rfl, hb1⟩; have B5 := tr_bl hb1 B5)
            | (go_at_call 82; refine (fmay_any _ _ _ HME.out).mono ?_; rintro en w2 ⟨rfl, hb2⟩; have c0 := imA_c0 (tr_bl hb2 (tr_bl hb1 B3))))
          go_meet
          exact ⟨bool_eq (Eq.trans (by first | rfl | (simp; omega)) HZ.out.symm), step_b hb1 hb2⟩
        · have HZ := Lib.hid (HBR.out (.inr (.inl h2)))
          go_wp2_with (first
            | ((with_reducible refine wpList_ldB 49 _ ?_); refine ⟨rfl, _, ⟨_, _, _, _, _, Try.isAgg49, Try.sizeOf49, rfl, ‹_›, imA_all _ _ _⟩, ?_⟩)
            | ((with_reducible refine wpList_ldB 80 _ ?_); refine ⟨rfl, _, ⟨_, _, _, _, _, Try.isAgg80, Try.sizeOf80, rfl, ‹_›, enA_all _⟩, ?_⟩)
            | (go_at_call 50; refine (rimay_any _ _ _ _ _ _ HS.out.row hl HSM.out _ HMI.out).mono ?_; rintro en w1 ⟨rfl, hb1⟩; have B5 := tr_bl hb1 B5)
            | (go_at_call 82; refine (fmay_any _ _ _ HME.out).mono ?_; rintro en w2 ⟨rfl, hb2⟩; have c0 := imA_c0 (tr_bl hb2 (tr_bl hb1 B3))))
          go_meet
          exact ⟨bool_eq (Eq.trans (by first | rfl | (simp; omega)) HZ.out.symm), step_b hb1 hb2⟩
        · have HZ := Lib.hid (HBR.out (.inr (.inr (by simpa using h3))))
          go_wp2_with (first
            | ((with_reducible refine wpList_ldB 49 _ ?_); refine ⟨rfl, _, ⟨_, _, _, _, _, Try.isAgg49, Try.sizeOf49, rfl, ‹_›, imA_all _ _ _⟩, ?_⟩)
            | ((with_reducible refine wpList_ldB 80 _ ?_); refine ⟨rfl, _, ⟨_, _, _, _, _, Try.isAgg80, Try.sizeOf80, rfl, ‹_›, enA_all _⟩, ?_⟩)
            | (go_at_call 50; refine (rimay_any _ _ _ _ _ _ HS.out.row hl HSM.out _ HMI.out).mono ?_; rintro en w1 ⟨rfl, hb1⟩; have B5 := tr_bl hb1 B5)
            | (go_at_call 82; refine (fmay_any _ _ _ HME.out).mono ?_; rintro en w2 ⟨rfl, hb2⟩; have c0 := imA_c0 (tr_bl hb2 (tr_bl hb1 B3))))
          go_meet
          exact ⟨bool_eq (Eq.trans (by first | rfl | (simp; omega)) HZ.out.symm), step_b hb1 hb2⟩
        · have HZ := Lib.hid (HGR.out h (by simpa using h3))
          go_wp2_with (first
            | ((with_reducible refine wpList_ldB 49 _ ?_); refine ⟨rfl, _, ⟨_, _, _, _, _, Try.isAgg49, Try.sizeOf49, rfl, ‹_›, imA_all _ _ _⟩, ?_⟩)
            | ((with_reducible refine wpList_ldB 80 _ ?_); refine ⟨rfl, _, ⟨_, _, _, _, _, Try.isAgg80, Try.sizeOf80, rfl, ‹_›, enA_all _⟩, ?_⟩)
            | (go_at_call 50; refine (rimay_any _ _ _ _ _ _ HS.out.row hl HSM.out _ HMI.out).mono ?_; rintro en w1 ⟨rfl, hb1⟩; have B5 := tr_bl hb1 B5)
            | (go_at_call 82; refine (fmay_any _ _ _ HME.out).mono ?_; rintro en w2 ⟨rfl, hb2⟩; have c0 := imA_c0 (tr_bl hb2 (tr_bl hb1 B3))))
          go_meet
          exact ⟨bool_eq (Eq.trans (by first | rfl | (simp; omega)) HZ.out.symm), step_b hb1 hb2⟩
  obtain ⟨rfl, hbc⟩ := hcut
  refine hK _ _ ?_; clear hK
  have B3 := tr_bl hbc B3
  have B5 := tr_bl hbc B5
  have B6 := tr_bl hbc B6
  have B7 := tr_bl hbc B7
  have HS := Lib.hid (HS.out.below hbc)
  have hbw := hb0.trans (hbc.mono (by omega))
  have hszc : N + 4 ≤ wc.heap.size := Nat.le_trans hsz0 hbc.size
  cases hbad : badAp m index e
  · obtain ⟨hmi, hme, hne, hix⟩ := badAp_no hbad
    obtain ⟨hi0, hi1, hms, hmt⟩ := mayI_parts hmi
    have HBAD := Lib.hid hbad
    have HME := Lib.hid hme
    clear hbad hmi hms hmt hme hne hix
    go_wp2
    refine HK0.out _ _ ?_
    clear HK0
    refine wp_seq_k (fun K hK => ?_)
    have HK := Lib.hid hK
    clear hK
    go_wp2_with (first
          | ((with_reducible refine wpList_ldB 49 _ ?_); refine ⟨rfl, _, ⟨_, _, _, _, _, Try.isAgg49, Try.sizeOf49, rfl, ‹_›, imA_all _ _ _⟩, ?_⟩)
          | (go_at_call 46; refine (rcopyI_any _ _ _ _ _ _ HS.out hl).mono ?_; rintro en w1 ⟨⟨a1, cap1, rfl, ho1⟩, hb1⟩; have B3 := tr_bl hb1 B3; have B5 := tr_bl hb1 B5; have B6 := tr_bl hb1 B6; have B7 := tr_bl hb1 B7)
          | ((first | (with_reducible refine wpList_stNew 49 _ _ ?_) | (with_reducible refine wp_stNew 49 _ _ ?_)); refine ⟨_, _, ⟨Try.sizeOf49, rfl, imA_new m.idx a1 _ cap1 m.tb⟩, rfl, ?_⟩))
    refine HK.out _ _ ?_
    clear HK
    have hz1 : N + 4 ≤ w1.heap.size := by have := hb1.size; omega
    have hbw2 := (hbw.trans (hb1.mono (by omega))).trans ((blw w1 (Obj.cells (imA m.idx (.slice a1 m.st.length cap1) m.tb) 49)).mono (by omega))
    have C3 := tr_al (Obj.cells (imA m.idx (.slice a1 m.st.length cap1) m.tb) 49) B3
    have C5 := tr_al (Obj.cells (imA m.idx (.slice a1 m.st.length cap1) m.tb) 49) B5
    have C6 := tr_al (Obj.cells (imA m.idx (.slice a1 m.st.length cap1) m.tb) 49) B6
    have C7 := tr_al (Obj.cells (imA m.idx (.slice a1 m.st.length cap1) m.tb) 49) B7
    have C9 := heap_alloc_new w1 (Obj.cells (imA m.idx (.slice a1 m.st.length cap1) m.tb) 49)
    have ho2 := owns_bl (owns_mono ho1 hszc) (blw w1 (Obj.cells (imA m.idx (.slice a1 m.st.length cap1) m.tb) 49))
    clear B3 B5 B6 B7 ho1 hb1 hbw hb0 hbc HS
    generalize w1.alloc (Obj.cells (imA m.idx (.slice a1 m.st.length cap1) m.tb) 49) = w2 at *
    obtain ⟨g9, hg9⟩ : ∃ g, w1.heap.size = g := ⟨_, rfl⟩
    rw [hg9] at C9 hz1
    simp only [hg9]
    clear hg9
    have hz2 := lt_blk C9
    refine wp_seq_k (fun K hK => ?_)
    have HK := Lib.hid hK
    clear hK
    go_wp2_with ((first | (with_reducible refine wpList_stB 3 _ _ ?_) | (with_reducible refine wp_stB 3 _ _ ?_)); refine ⟨_, _, _, ⟨_, _, _, Try.sizeOf3, rfl, ‹_›, imA_idx _ index _ _⟩, ?_⟩; intro w3 D9 g3; have D3 := tr_st g3 C3 (by omega); have D5 := tr_st g3 C5 (by omega); have D6 := tr_st g3 C6 (by omega); have D7 := tr_st g3 C7 (by omega); have ho3 := owns_ne ho2 g3 C9 (by decide))
    refine HK.out _ _ ?_
    clear HK
    have hbw3 := bl_st hbw2 g3 (by omega) (by omega)
    have hz3 : g9 < w3.heap.size := lt_blk D9
    clear C3 C5 C6 C7 C9 ho2 hbw2 g3
    obtain ⟨e0, e1, e2⟩ := enA_c D5
    by_cases hk : e.kind = 1
    · rw [applyP_noop HBAD.out hk]
      have hkb : (e.kind == 1) = true := by rw [hk]; rfl
      clear hk
      go_wp2_with (first
        | ((with_reducible refine wpList_ldB 49 _ ?_); refine ⟨rfl, _, ⟨_, _, _, _, _, Try.isAgg49, Try.sizeOf49, rfl, ‹_›, imA_all _ _ _⟩, ?_⟩)
        | ((first | (with_reducible refine wpList_stB 49 _ _ ?_) | (with_reducible refine wp_stB 49 _ _ ?_)); refine ⟨_, _, _, ⟨_, _, _, Try.sizeOf49, rfl, ‹_›, imA_over _ _ _ _ _ _ _ _⟩, ?_⟩; intro w4 Q6 g4; have Q7 := tr_st g4 D7 (by omega); have ho4 := owns_st ho3 g4 (by omega))
        | ((first | (with_reducible refine wpList_stB 43 _ _ ?_) | (with_reducible refine wp_stB 43 _ _ ?_)); refine ⟨_, _, _, ⟨_, _, _, Try.sizeOf43, rfl, ‹_›, rpA_over zeroR _⟩, ?_⟩; intro w5 R7 g5; have R6 := tr_st g5 Q6 (by omega); have ho5 := owns_st ho4 g5 (by omega)))
      refine bodyPost_ret (results_c2t1 rfl rfl (run_loadVar_all Try.isAgg49 Try.sizeOf49 R6 rfl) rfl (run_loadVar_all Try.isAgg43 Try.sizeOf43 R7 rfl)) rfl ⟨⟨_, _, rfl, owns_mono ho5 (by omega)⟩, ?_⟩
      have h4 := bl_st hbw3 g4 (by omega) (by omega)
      exact bl_st h4 g5 (by have := g4.size; omega) (by omega)
    · obtain ⟨hk2, hc0, hc4, hq1, hq2, hmo⟩ := mayE_parts HME.out hk
      have hkb : (e.kind == 1) = false := beq_eq_false_iff_ne.2 hk
      obtain ⟨c, hcl⟩ : ∃ c : Nat, e.cli = c := ⟨e.cli.toNat, by omega⟩
      rw [hcl] at e1 hc0 hc4
      have hc5 : c < 4 := by omega
      have HCL := Lib.hid hcl
      have HK1 := Lib.hid hk
      clear hcl hk hk2 hmo
      refine wp_seq_k (fun K hK => ?_)
      have HK := Lib.hid hK
      clear hK
      go_wp2
      refine HK.out _ _ ?_
      clear HK
      clear hkb
      refine wp_seq_k (fun K hK => ?_)
      have HK := Lib.hid hK
      clear hK
      go_wp2_with (first
              | ((with_reducible refine wpList_ldB 45 _ ?_); refine ⟨rfl, _, ⟨_, _, _, _, _, Try.isAgg45, Try.sizeOf45, rfl, ‹_›, imA_row _ _ _ hc5⟩, ?_⟩)
              | ((first | (with_reducible refine wpList_stNew 45 _ _ ?_) | (with_reducible refine wp_stNew 45 _ _ ?_)); refine ⟨_, _, ⟨Try.sizeOf45, rfl, rowA_new _⟩, rfl, ?_⟩))
      refine HK.out _ _ ?_
      clear HK
      have hbw4 := hbw3.trans ((blw w3 (Obj.cells (rowA (m.tb.at c)) 45)).mono (by omega))
      have E3 := tr_al (Obj.cells (rowA (m.tb.at c)) 45) D3
      have E5 := tr_al (Obj.cells (rowA (m.tb.at c)) 45) D5
      have E6 := tr_al (Obj.cells (rowA (m.tb.at c)) 45) D6
      have E7 := tr_al (Obj.cells (rowA (m.tb.at c)) 45) D7
      have E9 := tr_al (Obj.cells (rowA (m.tb.at c)) 45) D9
      have E10 := heap_alloc_new w3 (Obj.cells (rowA (m.tb.at c)) 45)
      have ho4 := owns_bl ho3 (blw w3 (Obj.cells (rowA (m.tb.at c)) 45))
      clear D3 D5 D6 D7 D9 ho3 hbw3 e0 e1 e2
      generalize w3.alloc (Obj.cells (rowA (m.tb.at c)) 45) = w4 at *
      obtain ⟨g10, hg10⟩ : ∃ g, w3.heap.size = g := ⟨_, rfl⟩
      rw [hg10] at E10 hz3
      simp only [hg10]
      clear hg10
      have hz4 := lt_blk E10
      obtain ⟨e0, e1, e2⟩ := enA_c E5
      rw [HCL.out] at e1
      have l0 : w4.cell? ⟨g10, 0, none⟩ = some (.int .i64 (m.tb.at c).seq) := blk_cell E10 0 _ rfl
      by_cases h1 : e.seq < (m.tb.at c).seq
      · rw [applyP_old HBAD.out HK1.out (by rw [HCL.out]; exact h1)]
        go_wp2_with (first
          | ((with_reducible refine wpList_ldB 49 _ ?_); refine ⟨rfl, _, ⟨_, _, _, _, _, Try.isAgg49, Try.sizeOf49, rfl, ‹_›, imA_all _ _ _⟩, ?_⟩)
          | ((first | (with_reducible refine wpList_stB 49 _ _ ?_) | (with_reducible refine wp_stB 49 _ _ ?_)); refine ⟨_, _, _, ⟨_, _, _, Try.sizeOf49, rfl, ‹_›, imA_over _ _ _ _ _ _ _ _⟩, ?_⟩; intro w5 Q6 g5; have Q7 := tr_st g5 E7 (by omega); have ho5 := owns_st ho4 g5 (by omega))
          | ((first | (with_reducible refine wpList_stB 43 _ _ ?_) | (with_reducible refine wp_stB 43 _ _ ?_)); refine ⟨_, _, _, ⟨_, _, _, Try.sizeOf43, rfl, ‹_›, rpA_over ⟨220, false, ⟨#[]⟩⟩ _⟩, ?_⟩; intro w6 R7 g6; have R6 := tr_st g6 Q6 (by omega); have ho6 := owns_st ho5 g6 (by omega)))
        refine bodyPost_ret (results_c2t1 rfl rfl (run_loadVar_all Try.isAgg49 Try.sizeOf49 R6 rfl) rfl (run_loadVar_all Try.isAgg43 Try.sizeOf43 R7 rfl)) rfl ⟨⟨_, _, rfl, owns_mono ho6 (by omega)⟩, ?_⟩
        have h4 := bl_st hbw4 g5 (by omega) (by omega)
        exact bl_st h4 g6 (by have := g5.size; omega) (by omega)
      · have HN1 := Lib.hid h1
        refine wp_seq_k (fun K hK => ?_)
        have HK := Lib.hid hK
        clear hK
        go_wp2
        refine HK.out _ _ ?_
        clear HK
        by_cases h2 : e.seq = (m.tb.at c).seq
        · rw [applyP_same HBAD.out HK1.out (by rw [HCL.out]; exact h2), HCL.out]
          have h2b : (e.seq == (m.tb.at c).seq) = true := by rw [h2]; exact beq_self_eq_true _
          clear h2
          go_wp2_with fail
          refine wp_region_held_drew (S := fun w' => w'.heap[g9]? = some (.cells (imA index (.slice a1 m.st.length cap1) m.tb) 49 (0, 0)) ∧ w'.heap[g10]? = some (.cells (rowA (m.tb.at c)) 45 (0, 0))) (by kernel_rfl) ⟨E9, E10⟩ (fun hS0 => ?_)
          refine wpAnyH_take (i := 0) (oi := ⟨_, _, _, _, _, _⟩) (v := .agg (imA index (.slice a1 m.st.length cap1) m.tb)) rfl (by kernel_rfl) (by kernel_rfl) (by kernel_rfl) (fun _ _ _ h => h) (Or.inl ⟨by rfl, fun wS hSw => ?_⟩) (by assumption) ?_
          · exact exec_ldB 49 _ ⟨_, _, _, _, _, Try.isAgg49, Try.sizeOf49, rfl, hSw.1, imA_all _ _ _⟩
          (try simp only [Act.put])
          (try simp only [List.setIfInBounds_toArray])
          (try simp only [List.set_cons_succ])
          (try simp only [List.set_cons_zero])
          refine wpAnyH_take (i := 1) (oi := ⟨_, _, _, _, _, _⟩) (v := ?_) rfl (by kernel_rfl) (by kernel_rfl) (by kernel_rfl) (fun _ _ _ h => h) (Or.inl ⟨by rfl, ?_⟩) (by assumption) ?_
          rotate_left
          · intro wS hSw
            go_simp; (try with_reducible rfl)
          (try simp only [Act.put])
          (try simp only [List.setIfInBounds_toArray])
          (try simp only [List.set_cons_succ])
          (try simp only [List.set_cons_zero])
          refine wpAnyH_take (i := 2) (oi := ⟨_, _, _, _, _, _⟩) (v := .agg (rpA (m.tb.at c).rep)) rfl (by kernel_rfl) (by kernel_rfl) (by kernel_rfl) (fun _ _ _ h => h) (Or.inl ⟨by rfl, fun wS hSw => ?_⟩) (by assumption) ?_
          · exact exec_ldB 43 _ ⟨_, _, _, _, _, Try.isAgg43, Try.sizeOf43, rfl, hSw.2, rpA_row⟩
          (try simp only [Act.put])
          (try simp only [List.setIfInBounds_toArray])
          (try simp only [List.set_cons_succ])
          (try simp only [List.set_cons_zero])
          refine wpAnyH_ready (rs := [3]) (by kernel_rfl) (by simp) ?_
          refine AllReadyH.cons (o := ⟨_, _, _, _, _, _⟩) rfl (fun K' hK' => ?_) AllReadyH.nil
          refine (if_pos (by rfl)).mpr ?_
          refine wp_stB 49 _ _ ?_
          refine ⟨_, _, _, ⟨_, _, _, Try.sizeOf49, rfl, E6, imA_over _ _ _ _ _ _ _ _⟩, ?_⟩
          intro w7 Q6 g7
          refine hK'.out _ _ ⟨tr_st g7 E9 (by omega), tr_st g7 E10 (by omega)⟩ (fun _ => ?_)
          have Q7 := tr_st g7 E7 (by omega)
          refine wpAnyH_ready (rs := [4]) (by kernel_rfl) (by simp) ?_
          refine AllReadyH.cons (o := ⟨_, _, _, _, _, _⟩) rfl (fun K' hK' => ?_) AllReadyH.nil
          refine (if_pos (by rfl)).mpr ?_
          refine wp_stB 43 _ _ ?_
          refine ⟨_, _, _, ⟨_, _, _, Try.sizeOf43, rfl, Q7, rpA_over _ _⟩, ?_⟩
          intro w8 R7 g8
          have R6 := tr_st g8 Q6 (by omega)
          refine hK'.out _ _ ⟨tr_st g8 (tr_st g7 E9 (by omega)) (by omega), tr_st g8 (tr_st g7 E10 (by omega)) (by omega)⟩ (fun _ => ?_)
          refine wpAnyH_ready (rs := [5]) (by kernel_rfl) (by simp) ?_
          refine AllReadyH.cons (o := ⟨_, _, _, _, _, _⟩) rfl (fun K' hK' => ?_) AllReadyH.nil
          refine (if_pos (by rfl)).mpr ?_
          go_simp
          refine hK'.out _ _ ⟨tr_st g8 (tr_st g7 E9 (by omega)) (by omega), tr_st g8 (tr_st g7 E10 (by omega)) (by omega)⟩ (fun _ => ?_)
          refine wpAnyH_done (by kernel_rfl) ?_ _
          go_wp2
          refine bodyPost_ret (results_c2t1 rfl rfl (run_loadVar_all Try.isAgg49 Try.sizeOf49 R6 rfl) rfl (run_loadVar_all Try.isAgg43 Try.sizeOf43 R7 rfl)) rfl ⟨⟨_, _, rfl, owns_mono (owns_st (owns_st ho4.drew g7 (by omega)) g8 (by omega)) (by omega)⟩, ?_⟩
          have h7 : Below N w w7 := bl_st hbw4.drew g7 (by simp; omega) (by omega)
          exact bl_st h7 g8 (by have := g7.size; simp at this; omega) (by omega)
        · have hq : (m.tb.at c).seq < e.seq := by omega
          have h2b : (e.seq == (m.tb.at c).seq) = false := beq_eq_false_iff_ne.2 h2
          have hap := applyP_fresh HBAD.out HK1.out (by rw [HCL.out]; exact hq)
          obtain ⟨lr, hlr⟩ : ∃ lr, doP m.st e.op = lr := ⟨_, rfl⟩
          rw [hlr, HCL.out] at hap
          rw [hap]
          have HLR := Lib.hid hlr
          clear hlr hap h2
          refine wp_seq_k (fun K hK => ?_)
          have HK := Lib.hid hK
          clear hK
          go_wp2
          refine HK.out _ _ ?_
          clear HK
          clear h2b
          have c1 := imA_c1 E3
          refine wp_seq_k (fun K hK => ?_)
          have HK := Lib.hid hK
          clear hK
          go_wp2_with (first
                      | ((with_reducible refine wpList_ldB 61 _ ?_); refine ⟨rfl, _, ⟨_, _, _, _, _, Try.isAgg61, Try.sizeOf61, rfl, ‹_›, enA_op _⟩, ?_⟩)
                      | (go_at_call 39; refine (rdo_own _ _ _ e.op _ (HBN.out _ hbw4) hl HSM.out _ HLR.out).mono ?_; rintro en w5 ⟨⟨a5, cap5, rfl, ho5⟩, hb5⟩)
                      | ((first | (with_reducible refine wpList_stNew 43 _ _ ?_) | (with_reducible refine wp_stNew 43 _ _ ?_)); refine ⟨_, _, ⟨Try.sizeOf43, rfl, rpA_new lr.2⟩, rfl, ?_⟩))
          refine HK.out _ _ ?_
          clear HK
          have F3 := tr_al (Obj.cells (rpA lr.2) 43) (tr_bl hb5 E3)
          have F5 := tr_al (Obj.cells (rpA lr.2) 43) (tr_bl hb5 E5)
          have F6 := tr_al (Obj.cells (rpA lr.2) 43) (tr_bl hb5 E6)
          have F7 := tr_al (Obj.cells (rpA lr.2) 43) (tr_bl hb5 E7)
          have F9 := tr_al (Obj.cells (rpA lr.2) 43) (tr_bl hb5 E9)
          have F12 := heap_alloc_new w5 (Obj.cells (rpA lr.2) 43)
          have hz5 : g10 < w5.heap.size := by have := hb5.size; omega
          have ho6 := owns_bl ho5 (blw w5 (Obj.cells (rpA lr.2) 43))
          have hbw6 := (hbw4.trans (hb5.mono (by omega))).trans ((blw w5 (Obj.cells (rpA lr.2) 43)).mono (by omega))
          have hz4b : N + 4 ≤ w4.heap.size := by omega
          have ho6 := owns_mono ho6 (Nat.le_of_lt hz4)
          clear E3 E5 E6 E7 E9 E10 ho4 ho5 hbw4 e0 e1 e2 l0 c1 hb5
          generalize w5.alloc (Obj.cells (rpA lr.2) 43) = w6 at *
          obtain ⟨g12, hg12⟩ : ∃ g, w5.heap.size = g := ⟨_, rfl⟩
          rw [hg12] at F12 hz5
          simp only [hg12]
          clear hg12
          have hz6 := lt_blk F12
          refine wp_seq_k (fun K hK => ?_)
          have HK := Lib.hid hK
          clear hK
          go_wp2_with ((first | (with_reducible refine wpList_stB 41 _ _ ?_) | (with_reducible refine wp_stB 41 _ _ ?_)); refine ⟨_, _, _, ⟨_, _, _, Try.sizeOf41, rfl, ‹_›, imA_sv _ _ _ _ _ _⟩, ?_⟩; intro w7 G9 g7; have G3 := tr_st g7 F3 (by omega); have G5 := tr_st g7 F5 (by omega); have G6 := tr_st g7 F6 (by omega); have G7 := tr_st g7 F7 (by omega); have G12 := tr_st g7 F12 (by omega); have ho7 := owns_st ho6 g7 (by omega))
          refine HK.out _ _ ?_
          clear HK
          obtain ⟨e0, e1, e2⟩ := enA_c G5
          rw [HCL.out] at e1
          refine wp_seq_k (fun K hK => ?_)
          have HK := Lib.hid hK
          clear hK
          go_wp2_with (first
                      | ((with_reducible refine wpList_ldB 43 _ ?_); refine ⟨rfl, _, ⟨_, _, _, _, _, Try.isAgg43, Try.sizeOf43, rfl, ‹_›, rpA_lit _⟩, ?_⟩)
                      | ((first | (with_reducible refine wpList_stB 45 _ _ ?_) | (with_reducible refine wp_stB 45 _ _ ?_)); refine ⟨_, _, _, ⟨_, _, _, Try.sizeOf45, rfl, ‹_›, imA_put _ _ _ ⟨e.seq, lr.2⟩ hc5⟩, ?_⟩; intro w8 J9 g8; have J6 := tr_st g8 G6 (by omega); have J7 := tr_st g8 G7 (by omega); have J12 := tr_st g8 G12 (by omega); have ho8 := owns_st ho7 g8 (by omega)))
          refine HK.out _ _ ?_
          clear HK
          have hbw7 := bl_st hbw6 g7 (by omega) (by omega)
          have hz7 := g7.size
          have hbw8 := bl_st hbw7 g8 (by omega) (by omega)
          have hz8 := g8.size
          refine wp_seq_k (fun K hK => ?_)
          have HK := Lib.hid hK
          clear hK
          go_wp2_with fail
          refine wp_region_held_drew (S := fun w' => w'.heap[g9]? = some (.cells (imA index (.slice a5 lr.1.length cap5) (m.tb.put c ⟨e.seq, lr.2⟩)) 49 (0, 0)) ∧ w'.heap[g12]? = some (.cells (rpA lr.2) 43 (0, 0))) (by kernel_rfl) ⟨J9, J12⟩ (fun hS0 => ?_)
          refine wpAnyH_take (i := 0) (oi := ⟨_, _, _, _, _, _⟩) (v := .agg (imA index (.slice a5 lr.1.length cap5) (m.tb.put c ⟨e.seq, lr.2⟩))) rfl (by kernel_rfl) (by kernel_rfl) (by kernel_rfl) (fun _ _ _ h => h) (Or.inl ⟨by rfl, fun wS hSw => ?_⟩) (by assumption) ?_
          · exact exec_ldB 49 _ ⟨_, _, _, _, _, Try.isAgg49, Try.sizeOf49, rfl, hSw.1, imA_all _ _ _⟩
          (try simp only [Act.put])
          (try simp only [List.setIfInBounds_toArray])
          (try simp only [List.set_cons_succ])
          (try simp only [List.set_cons_zero])
          refine wpAnyH_take (i := 1) (oi := ⟨_, _, _, _, _, _⟩) (v := .agg (rpA lr.2)) rfl (by kernel_rfl) (by kernel_rfl) (by kernel_rfl) (fun _ _ _ h => h) (Or.inl ⟨by rfl, fun wS hSw => ?_⟩) (by assumption) ?_
          · exact exec_ldB 43 _ ⟨_, _, _, _, _, Try.isAgg43, Try.sizeOf43, rfl, hSw.2, rpA_all _⟩
          (try simp only [Act.put])
          (try simp only [List.setIfInBounds_toArray])
          (try simp only [List.set_cons_succ])
          (try simp only [List.set_cons_zero])
          refine wpAnyH_ready (rs := [2]) (by kernel_rfl) (by simp) ?_
          refine AllReadyH.cons (o := ⟨_, _, _, _, _, _⟩) rfl (fun K' hK' => ?_) AllReadyH.nil
          refine (if_pos (by rfl)).mpr ?_
          refine wp_stB 49 _ _ ?_
          refine ⟨_, _, _, ⟨_, _, _, Try.sizeOf49, rfl, J6, imA_over _ _ _ _ _ _ _ _⟩, ?_⟩
          intro w10 Q6 g10'
          refine hK'.out _ _ ⟨tr_st g10' J9 (by omega), tr_st g10' J12 (by omega)⟩ (fun _ => ?_)
          have Q7 := tr_st g10' J7 (by omega)
          refine wpAnyH_ready (rs := [3]) (by kernel_rfl) (by simp) ?_
          refine AllReadyH.cons (o := ⟨_, _, _, _, _, _⟩) rfl (fun K' hK' => ?_) AllReadyH.nil
          refine (if_pos (by rfl)).mpr ?_
          refine wp_stB 43 _ _ ?_
          refine ⟨_, _, _, ⟨_, _, _, Try.sizeOf43, rfl, Q7, rpA_over _ _⟩, ?_⟩
          intro w11 R7 g11
          have R6 := tr_st g11 Q6 (by omega)
          refine hK'.out _ _ ⟨tr_st g11 (tr_st g10' J9 (by omega)) (by omega), tr_st g11 (tr_st g10' J12 (by omega)) (by omega)⟩ (fun _ => ?_)
          refine wpAnyH_ready (rs := [4]) (by kernel_rfl) (by simp) ?_
          refine AllReadyH.cons (o := ⟨_, _, _, _, _, _⟩) rfl (fun K' hK' => ?_) AllReadyH.nil
          refine (if_pos (by rfl)).mpr ?_
          go_simp
          refine hK'.out _ _ ⟨tr_st g11 (tr_st g10' J9 (by omega)) (by omega), tr_st g11 (tr_st g10' J12 (by omega)) (by omega)⟩ (fun _ => ?_)
          refine wpAnyH_done (by kernel_rfl) ?_ _
          refine HK.out _ _ ?_
          clear HK
          go_wp2
          refine bodyPost_ret (results_c2t1 rfl rfl (run_loadVar_all Try.isAgg49 Try.sizeOf49 R6 rfl) rfl (run_loadVar_all Try.isAgg43 Try.sizeOf43 R7 rfl)) rfl ⟨⟨_, _, rfl, owns_mono (owns_st (owns_st ho8.drew g10' (by omega)) g11 (by omega)) (by omega)⟩, ?_⟩
          have h10 : Below N w w10 := bl_st hbw8.drew g10' (by simp; omega) (by omega)
          exact bl_st h10 g11 (by have := g10'.size; simp at this; omega) (by omega)
  · rw [badAp_yes hbad]
    clear hbad
    go_wp2_with (first
      | ((first | (with_reducible refine wpList_stB 49 _ _ ?_) | (with_reducible refine wp_stB 49 _ _ ?_)); refine ⟨_, _, _, ⟨_, _, _, Try.sizeOf49, rfl, ‹_›, imA_over 0 none 0 0 zeroT _ _ _⟩, ?_⟩; intro w1 N6 g1; have N7 := tr_st g1 B7 (by omega))
      | ((first | (with_reducible refine wpList_stB 43 _ _ ?_) | (with_reducible refine wp_stB 43 _ _ ?_)); refine ⟨_, _, _, ⟨_, _, _, Try.sizeOf43, rfl, ‹_›, rpA_over zeroR _⟩, ?_⟩; intro w2 M7 g2; have M6 := tr_st g2 N6 (by omega)))
    refine bodyPost_ret (results_c2t1 rfl rfl (run_loadVar_all Try.isAgg49 Try.sizeOf49 M6 rfl) rfl (run_loadVar_all Try.isAgg43 Try.sizeOf43 M7 rfl)) rfl ⟨⟨none, 0, rfl, World.ownsRow_nil _ _ _ _⟩, ?_⟩
    have h1 := bl_st hbw g1 (by omega) (by omega)
    exact bl_st h1 g2 (by have := g1.size; omega) (by omega)
end Go.Proofs.Ytmnjmjbmnhppfaa

namespace Go.Proofs.Ytmnjmjbmnhppfaa
open Go.RowKit
variable {P : Program} {ops : Array Oper} {C : World → Prop}

theorem wp_region_cls {id : Nat} {Q : Exit → Act → World → Prop} {a : Act} {w : World} {l : List Oper} (hm : P.follows .mixedOrders = true) (hB : Region.lexB .any l.toArray = true) (hC : C w.drew)
    (h : wpQuiet P l.toArray C (fun a' => ∀ w', C w' → Q .normal a' w') l a) : (Code.region id l.toArray true).wp P Q a w :=
  wp_region_quiet (C := C) hm hB hC (by simpa using h)
theorem wpQuiet_gen {Q : Act → Prop} {a : Act} {o : Oper} {rest : List Oper} (hw : Region.wanted o (yielded ops a.tmps) = true) (v : Value) (hy : ∀ w, C w → o.quietAt P a C w v)
    (h : wpQuiet P ops C Q rest (a.put o.dst v)) : wpQuiet P ops C Q (o :: rest) a := by
  unfold wpQuiet
  rw [if_pos hw]
  exact ⟨v, hy, h⟩
theorem wpQuiet_val {Q : Act → Prop} {a : Act} {o : Oper} {rest : List Oper} (hw : Region.wanted o (yielded ops a.tmps) = true) (v : Value) (hy : ∀ w, C w → (execOp a.eval o).run P w = .ok (.value v) w)
    (h : wpQuiet P ops C Q rest (a.put o.dst v)) : wpQuiet P ops C Q (o :: rest) a :=
  wpQuiet_gen hw v (fun w hC => by unfold Oper.quietAt; rw [hy w hC]; exact ⟨rfl, rfl⟩) h
theorem wpQuiet_skip {Q : Act → Prop} {a : Act} {o : Oper} {rest : List Oper} (hw : Region.wanted o (yielded ops a.tmps) = false) (h : wpQuiet P ops C Q rest (a.put o.dst undef)) : wpQuiet P ops C Q (o :: rest) a := by
  unfold wpQuiet
  rw [if_neg (by rw [hw]; simp)]
  exact h
end Go.Proofs.Ytmnjmjbmnhppfaa

namespace Go.Proofs.Ytmnjmjbmnhppfaa
open Go.RowKit

def rpEqB (r s : Rp) : Bool := r.err == s.err && r.found == s.found && r.val.toList == s.val.toList
def rwEq (r s : Rw) : Bool := r.seq == s.seq && rpEqB r.rep s.rep
def tbEq (t u : Tb) : Bool := rwEq t.r0 u.r0 && (rwEq t.r1 u.r1 && (rwEq t.r2 u.r2 && rwEq t.r3 u.r3))
def sameI (m n : Im) : Bool := m.idx == n.idx && decide (m.st = n.st) && tbEq m.tb n.tb

theorem rpEqB_iff {r s : Rp} : rpEqB r s = true ↔ r = s := by
  obtain ⟨a, b, c⟩ := r
  obtain ⟨a', b', c'⟩ := s
  unfold rpEqB
  simp only [Bool.and_eq_true, beq_iff_eq, Rp.mk.injEq]
  constructor
  · rintro ⟨⟨h1, h2⟩, h3⟩
    exact ⟨h1, h2, tx_ext h3⟩
  · rintro ⟨h1, h2, h3⟩
    exact ⟨⟨h1, h2⟩, by rw [h3]⟩
theorem rwEq_iff {r s : Rw} : rwEq r s = true ↔ r = s := by
  obtain ⟨a, b⟩ := r
  obtain ⟨a', b'⟩ := s
  unfold rwEq
  simp only [Bool.and_eq_true, beq_iff_eq, rpEqB_iff, Rw.mk.injEq]
theorem tbEq_iff {t u : Tb} : tbEq t u = true ↔ t = u := by
  obtain ⟨a, b, c, d⟩ := t
  obtain ⟨a', b', c', d'⟩ := u
  unfold tbEq
  simp only [Bool.and_eq_true, rwEq_iff, Tb.mk.injEq]
theorem sameI_iff {m n : Im} : sameI m n = true ↔ m = n := by
  obtain ⟨a, b, c⟩ := m
  obtain ⟨a', b', c'⟩ := n
  unfold sameI
  simp only [Bool.and_eq_true, beq_iff_eq, decide_eq_true_eq, tbEq_iff, Im.mk.injEq, and_assoc]
theorem sameI_refl (m : Im) : sameI m m = true := sameI_iff.2 rfl

theorem eqReplyG (d : Nat) (e e' : Int) (f f' : Bool) (v v' : Tx) (w : World) : (Op.equalIn (d + 2) 43 (.agg #[.int .i64 e, .bool f, .string v]) (.agg #[.int .i64 e', .bool f', .string v'])).run Try.prog w = .ok (e == e' && f == f' && v.toList == v'.toList) w := by
  have u3 := Try.underlying9
  have a3 := Try.isAgg9
  have z3 := Try.sizeOf9
  have u4 := Try.underlying4
  have a4 := Try.isAgg4
  have z4 := Try.sizeOf4
  have u5 := Try.underlying28
  have a5 := Try.isAgg28
  have z5 := Try.sizeOf28
  have hS : Try.prog.underlying 43 = some (.struct (Try.prog.fieldsOf 43)) := by kernel_rfl
  rw [show (d + 2 : Nat) = (d + 1) + 1 from rfl, run_equalIn_agg w (d + 1) 43 _ _ hS (by kernel_rfl)]
  simp only [Program.fieldsOf, Try.underlying43]
  go_simp
  cases h1 : (e == e') <;> cases h2 : (f == f') <;> cases h3 : (v.toList == v'.toList) <;> simp_all
theorem eqRowG (d : Nat) (s e s' e' : Int) (f f' : Bool) (v v' : Tx) (w : World) : (Op.equalIn (d + 3) 45 (.agg #[.int .i64 s, .int .i64 e, .bool f, .string v]) (.agg #[.int .i64 s', .int .i64 e', .bool f', .string v'])).run Try.prog w = .ok (s == s' && (e == e' && f == f' && v.toList == v'.toList)) w := by
  have u3 := Try.underlying3
  have a3 := Try.isAgg3
  have z3 := Try.sizeOf3
  have a4 := Try.isAgg43
  have z4 := Try.sizeOf43
  have hR := eqReplyG d e e' f f' v v'
  have hS : Try.prog.underlying 45 = some (.struct (Try.prog.fieldsOf 45)) := by kernel_rfl
  rw [show (d + 3 : Nat) = (d + 2) + 1 from rfl, run_equalIn_agg w (d + 2) 45 _ _ hS (by kernel_rfl)]
  simp only [Program.fieldsOf, Try.underlying45]
  go_simp
  cases h1 : (s == s') <;> cases h2 : (e == e') <;> cases h3 : (f == f') <;> cases h4 : (v.toList == v'.toList) <;> simp_all
@[go_sem] theorem eqRpA (r s : Rp) (w : World) : (Op.equalIn 10000 43 (.agg (rpA r)) (.agg (rpA s))).run Try.prog w = .ok (rpEqB r s) w := eqReplyG 9998 r.err s.err r.found s.found r.val s.val w
theorem eqRowGA (d : Nat) (r s : Rw) (w : World) : (Op.equalIn (d + 3) 45 (.agg (rowA r)) (.agg (rowA s))).run Try.prog w = .ok (rwEq r s) w := eqRowG d r.seq r.rep.err s.seq s.rep.err r.rep.found s.rep.found r.rep.val s.rep.val w
@[go_sem] theorem eqRowA (r s : Rw) (w : World) : (Op.equalIn 10000 45 (.agg (rowA r)) (.agg (rowA s))).run Try.prog w = .ok (rwEq r s) w := eqRowGA 9997 r s w
theorem part_row (t : Tb) {c : Nat} (h : c < 4) (w : World) : (part 45 (tbA t) (c * 4)).run Try.prog w = .ok (.agg (rowA (t.at c))) w := by
  have ha := Try.isAgg45
  have hs := Try.sizeOf45
  rcases four_cases h with rfl | rfl | rfl | rfl
  all_goals
    simp [part, ha, hs, tbA]
    rfl
theorem eqItems_rows (t u : Tb) (w : World) : ∀ (l : List Nat), (∀ c ∈ l, c < 4) → (Op.eqItems 9999 45 4 (tbA t) (tbA u) l).run Try.prog w = .ok (l.all fun c => rwEq (t.at c) (u.at c)) w
  | [], _ => by simp [Op.eqItems]
  | c :: l, h => by
    have hc := h c (by simp)
    have ih := eqItems_rows t u w l (fun x hx => h x (by simp [hx]))
    have q : (Op.equalIn 9999 45 (.agg (rowA (t.at c))) (.agg (rowA (u.at c)))).run Try.prog w = .ok (rwEq (t.at c) (u.at c)) w := eqRowGA 9996 _ _ w
    simp only [Op.eqItems, Sem.run_bind, part_row t hc, part_row u hc, Result.andThen_ok, q, List.all_cons]
    cases rwEq (t.at c) (u.at c)
    · simp
    · simpa using ih
@[go_sem] theorem eqTbA (t u : Tb) (w : World) : (Op.equalIn 10000 47 (.agg (tbA t)) (.agg (tbA u))).run Try.prog w = .ok (tbEq t u) w := by
  obtain ⟨i, hi⟩ : ∃ i, Try.prog.info? 45 = some i := Option.isSome_iff_exists.1 (by kernel_rfl)
  have h := run_equalIn_array w 9999 (tbA t) (tbA u) Try.underlying47 hi
  rw [show Try.prog.cellsOf 45 = 4 by kernel_rfl, eqItems_rows t u w _ (by simp)] at h
  refine h.trans ?_
  have e : ((List.range 4).all fun c => rwEq (t.at c) (u.at c)) = tbEq t u := by simp [List.range_succ, tbEq, Tb.at]
  rw [e]

set_option maxRecDepth 100000 in
set_option maxHeartbeats 4000000 in
theorem isame_any (m n : Im) (a b : Option Addr) (c d : Nat) (w : World) (ha : Row w a (prs m.st)) (hb : Row w b (prs n.st)) (hl : m.st.length ≤ 1000) (hl2 : n.st.length ≤ 1000) (r : Bool) (hr : sameI m n = r) :
    Calls Try.prog 29 #[.agg (imA m.idx (.slice a m.st.length c) m.tb), .agg (imA n.idx (.slice b n.st.length d) n.tb)] w fun e w' => e = .returned (.bool r) ∧ Below w.heap.size w w' := by
  have hb0 : Below w.heap.size w ((w.alloc (Obj.cells (imA m.idx (.slice a m.st.length c) m.tb) 49)).alloc (Obj.cells (imA n.idx (.slice b n.st.length d) n.tb) 49)) := ((Below.refl _ _).alloc (Nat.le_refl _) _).alloc (by simp) _
  have B2 := tr_al (Obj.cells (imA n.idx (.slice b n.st.length d) n.tb) 49) (heap_alloc_new w (Obj.cells (imA m.idx (.slice a m.st.length c) m.tb) 49))
  have B3 := heap_alloc2_new w (Obj.cells (imA m.idx (.slice a m.st.length c) m.tb) 49) (Obj.cells (imA n.idx (.slice b n.st.length d) n.tb) 49)
  have ra := Lib.hid (ha.below0 hb0)
  have rb := Lib.hid (hb.below0 hb0)
  have HR := Lib.hid hr
  clear hr
  go_enter Try.func29, Try.ntmps29
  refine wp_seq_k (fun K hK => ?_)
  have HK := Lib.hid hK
  clear hK
  go_wp2
  refine HK.out _ _ ?_
  clear HK
  change Code.wp _ _ _ _ ((w.alloc (Obj.cells (imA m.idx (.slice a m.st.length c) m.tb) 49)).alloc (Obj.cells (imA n.idx (.slice b n.st.length d) n.tb) 49))
  have hsz := hb0.size
  generalize (w.alloc (Obj.cells (imA m.idx (.slice a m.st.length c) m.tb) 49)).alloc (Obj.cells (imA n.idx (.slice b n.st.length d) n.tb) 49) = w0 at *
  have c0 := imA_c0 B2
  have c1 := imA_c1 B2
  have d0 := imA_c0 B3
  have d1 := imA_c1 B3
  unfold sameI at HR
  cases h1 : (m.idx == n.idx)
  · obtain rfl : r = false := by rw [← HR.out, h1]; rfl
    go_wp2
    go_ret
    exact ⟨rfl, hb0⟩
  · obtain ⟨z, hz⟩ : ∃ z, decide (m.st = n.st) = z := ⟨_, rfl⟩
    have HZ := Lib.hid hz
    cases z
    · obtain rfl : r = false := by rw [← HR.out, hz]; simp
      clear hz
      go_wp2_with (go_at_call 37; refine (psame_any _ _ _ _ _ _ _ ra.out rb.out hl hl2 _ HZ.out).mono ?_; rintro e w1 ⟨rfl, q, rfl⟩)
      go_ret
      exact ⟨rfl, hb0.trans (below_drewN (Below.refl _ _) q |>.mono hsz)⟩
    · have hq : tbEq m.tb n.tb = r := by rw [← HR.out, h1, hz]; simp
      have HQ := Lib.hid hq
      clear hz hq
      go_wp2_with (first
        | (go_at_call 37; refine (psame_any _ _ _ _ _ _ _ ra.out rb.out hl hl2 _ HZ.out).mono ?_; rintro e w1 ⟨rfl, q, rfl⟩)
        | ((with_reducible refine wpList_ldB 47 _ ?_); refine ⟨rfl, _, ⟨_, _, _, _, _, Try.isAgg47, Try.sizeOf47, rfl, ‹_›, imA_tb m.idx _ _⟩, ?_⟩)
        | ((with_reducible refine wpList_ldB 47 _ ?_); refine ⟨rfl, _, ⟨_, _, _, _, _, Try.isAgg47, Try.sizeOf47, rfl, ‹_›, imA_tb n.idx _ _⟩, ?_⟩))
      go_ret
      exact ⟨ret_bool HQ.out, hb0.trans (below_drewN (Below.refl _ _) q |>.mono hsz)⟩

def SameTb (t u : Tb) (k : Nat) : Prop := ∀ j : Nat, j < k → rwEq (t.at j) (u.at j) = true
theorem sameTb_all {t u : Tb} (h : SameTb t u 4) : tbEq t u = true := by
  have h0 := h 0 (by omega)
  have h1 := h 1 (by omega)
  have h2 := h 2 (by omega)
  have h3 := h 3 (by omega)
  simp only [Tb.at] at h0 h1 h2 h3
  unfold tbEq
  simp at h0 h1 h2 h3
  rw [h0, h1, h2, h3]
  rfl
theorem sameTb_no {t u : Tb} {k : Nat} (h : rwEq (t.at k) (u.at k) = false) : tbEq t u = false := by
  cases hz : tbEq t u with
  | false => rfl
  | true =>
    have := tbEq_iff.1 hz
    subst this
    rw [rwEq_iff.2 rfl] at h
    cases h
theorem sameTb_succ {t u : Tb} {k : Nat} (h : SameTb t u k) (hk : rwEq (t.at k) (u.at k) = true) : SameTb t u (k + 1) := by
  intro j hj
  by_cases e : j = k
  · subst e; exact hk
  · exact h j (by omega)

set_option maxRecDepth 100000 in
set_option maxHeartbeats 4000000 in
theorem risame_any (m n : Im) (a b : Option Addr) (c d : Nat) (w : World) (ha : Row w a (prs m.st)) (hb : Row w b (prs n.st)) (hl : m.st.length ≤ 1000) (hl2 : n.st.length ≤ 1000) (r : Bool) (hr : sameI m n = r) :
    Calls Try.prog 28 #[.agg (imA m.idx (.slice a m.st.length c) m.tb), .agg (imA n.idx (.slice b n.st.length d) n.tb)] w fun e w' => e = .returned (.bool r) ∧ Below w.heap.size w w' := by
  have hb0 : Below w.heap.size w ((w.alloc (Obj.cells (imA m.idx (.slice a m.st.length c) m.tb) 49)).alloc (Obj.cells (imA n.idx (.slice b n.st.length d) n.tb) 49)) := ((Below.refl _ _).alloc (Nat.le_refl _) _).alloc (by simp) _
  have B2 := tr_al (Obj.cells (imA n.idx (.slice b n.st.length d) n.tb) 49) (heap_alloc_new w (Obj.cells (imA m.idx (.slice a m.st.length c) m.tb) 49))
  have B3 := heap_alloc2_new w (Obj.cells (imA m.idx (.slice a m.st.length c) m.tb) 49) (Obj.cells (imA n.idx (.slice b n.st.length d) n.tb) 49)
  have ra := Lib.hid (ha.below0 hb0)
  have rb := Lib.hid (hb.below0 hb0)
  have HR := Lib.hid hr
  clear hr
  go_enter Try.func28, Try.ntmps28
  refine wp_seq_k (fun K hK => ?_)
  have HK := Lib.hid hK
  clear hK
  go_wp2
  refine HK.out _ _ ?_
  clear HK
  change Code.wp _ _ _ _ ((w.alloc (Obj.cells (imA m.idx (.slice a m.st.length c) m.tb) 49)).alloc (Obj.cells (imA n.idx (.slice b n.st.length d) n.tb) 49))
  have hsz := hb0.size
  generalize (w.alloc (Obj.cells (imA m.idx (.slice a m.st.length c) m.tb) 49)).alloc (Obj.cells (imA n.idx (.slice b n.st.length d) n.tb) 49) = w0 at *
  have c0 := imA_c0 B2
  have c1 := imA_c1 B2
  have d0 := imA_c0 B3
  have d1 := imA_c1 B3
  unfold sameI at HR
  cases h1 : (m.idx == n.idx)
  · obtain rfl : r = false := by rw [← HR.out, h1]; rfl
    have h1b : (m.idx != n.idx) = true := by rw [bne, h1]; rfl
    go_wp2
    go_ret
    exact ⟨rfl, hb0⟩
  · have h1b : (m.idx != n.idx) = false := by rw [bne, h1]; rfl
    obtain ⟨z, hz⟩ : ∃ z, decide (m.st = n.st) = z := ⟨_, rfl⟩
    have HZ := Lib.hid hz
    cases z
    · obtain rfl : r = false := by rw [← HR.out, hz]; simp
      clear hz
      go_wp2_with (go_at_call 40; refine (rsame_any _ _ _ _ _ _ _ ra.out rb.out hl hl2 _ HZ.out).mono ?_; rintro e w1 ⟨rfl, q, rfl⟩)
      go_ret
      exact ⟨rfl, hb0.trans (below_drewN (Below.refl _ _) q |>.mono hsz)⟩
    · have hq : tbEq m.tb n.tb = r := by rw [← HR.out, h1, hz]; simp
      have HQ := Lib.hid hq
      clear hz hq h1
      refine wp_seq_k (fun K hK => ?_)
      have HK := Lib.hid hK
      clear hK
      go_wp2_with (go_at_call 40; refine (rsame_any _ _ _ _ _ _ _ ra.out rb.out hl hl2 _ HZ.out).mono ?_; rintro e w1 ⟨rfl, q, rfl⟩)
      refine HK.out _ _ ?_
      clear HK
      have hbq : Below w0.heap.size w0 (w0.drewN q) := below_drewN (Below.refl _ _) q
      go_wp2_with fail
      go_loopw [5] (fun i wr => ∃ k : Nat, k ≤ 4 ∧ i = .int .i64 k ∧ SameTb m.tb n.tb k ∧ Below w0.heap.size w0 wr) (fun i _ => 4 - (intOf i).toNat)
      case atStart => exact ⟨0, by omega, rfl, fun j hj => by omega, hbq⟩
      case round =>
        obtain ⟨k, hk, rfl, hs, hbr⟩ := hrel
        have E2 := tr_bl hbr B2
        have E3 := tr_bl hbr B3
        by_cases hlt : k < 4
        · have hk0 : (0 : Int) ≤ k := by omega
          have hk1 : (k : Int) < 4 := by omega
          obtain ⟨z, hz⟩ : ∃ z, rwEq (m.tb.at k) (n.tb.at k) = z := ⟨_, rfl⟩
          have HZ := Lib.hid hz
          clear hz
          go_wp2_with fail
          refine wp_region_cls (C := fun w' => Below wr.heap.size wr w') (by kernel_rfl) (by kernel_rfl) (Below.refl _ _).drew ?_
          refine wpQuiet_val (by rfl) ?_ ?_ ?_
          rotate_left
          · intro wS hSw
            go_simp
            (try with_reducible rfl)
          (try simp only [Act.put])
          (try simp only [List.setIfInBounds_toArray])
          (try simp only [List.set_cons_succ])
          (try simp only [List.set_cons_zero])
          refine wpQuiet_val (by rfl) ?_ ?_ ?_
          rotate_left
          · intro wS hSw
            go_simp
            (try with_reducible rfl)
          (try simp only [Act.put])
          (try simp only [List.setIfInBounds_toArray])
          (try simp only [List.set_cons_succ])
          (try simp only [List.set_cons_zero])
          refine wpQuiet_val (by rfl) ?_ ?_ ?_
          rotate_left
          · intro wS hSw
            go_simp
            (try with_reducible rfl)
          (try simp only [Act.put])
          (try simp only [List.setIfInBounds_toArray])
          (try simp only [List.set_cons_succ])
          (try simp only [List.set_cons_zero])
          refine wpQuiet_val (by rfl) (.agg (rowA (m.tb.at k))) (fun wS hSw => exec_ldB 45 _ ⟨_, _, _, _, _, Try.isAgg45, Try.sizeOf45, rfl, tr_bl hSw E2, imA_row _ _ _ hlt⟩) ?_
          (try simp only [Act.put])
          (try simp only [List.setIfInBounds_toArray])
          (try simp only [List.set_cons_succ])
          (try simp only [List.set_cons_zero])
          refine wpQuiet_val (by rfl) ?_ ?_ ?_
          rotate_left
          · intro wS hSw
            go_simp
            (try with_reducible rfl)
          (try simp only [Act.put])
          (try simp only [List.setIfInBounds_toArray])
          (try simp only [List.set_cons_succ])
          (try simp only [List.set_cons_zero])
          refine wpQuiet_val (by rfl) ?_ ?_ ?_
          rotate_left
          · intro wS hSw
            go_simp
            (try with_reducible rfl)
          (try simp only [Act.put])
          (try simp only [List.setIfInBounds_toArray])
          (try simp only [List.set_cons_succ])
          (try simp only [List.set_cons_zero])
          refine wpQuiet_val (by rfl) ?_ ?_ ?_
          rotate_left
          · intro wS hSw
            go_simp
            (try with_reducible rfl)
          (try simp only [Act.put])
          (try simp only [List.setIfInBounds_toArray])
          (try simp only [List.set_cons_succ])
          (try simp only [List.set_cons_zero])
          refine wpQuiet_val (by rfl) (.agg (rowA (n.tb.at k))) (fun wS hSw => exec_ldB 45 _ ⟨_, _, _, _, _, Try.isAgg45, Try.sizeOf45, rfl, tr_bl hSw E3, imA_row _ _ _ hlt⟩) ?_
          (try simp only [Act.put])
          (try simp only [List.setIfInBounds_toArray])
          (try simp only [List.set_cons_succ])
          (try simp only [List.set_cons_zero])
          refine wpQuiet_val (by rfl) (.bool (!z)) (fun wS hSw => ?_) ?_
          · rw [← HZ.out]; unfold rowA rwEq rpEqB; clear hs HZ HR HQ; go_simp; (repeat' split) <;> simp_all
          (try simp only [Act.put])
          (try simp only [List.setIfInBounds_toArray])
          (try simp only [List.set_cons_succ])
          (try simp only [List.set_cons_zero])
          refine wpQuiet_nil ?_
          intro wE hE
          cases z
          · go_wp2
            go_ret
            exact ⟨ret_bool (by rw [← HQ.out, sameTb_no HZ.out]), hb0.trans ((step_b hbr hE).mono hsz)⟩
          · go_wp2
            go_roundw
            case rel => exact ⟨k + 1, by omega, by go_num, sameTb_succ hs HZ.out, step_b hbr hE⟩
            case measure => simp [intOf]; omega
        · have hall := sameTb_all (by rw [show (4 : Nat) = k by omega]; exact hs)
          obtain rfl : r = true := by rw [← HQ.out]; exact hall
          clear hall
          go_wp2
          go_ret
          exact ⟨rfl, hb0.trans (hbr.mono hsz)⟩
end Go.Proofs.Ytmnjmjbmnhppfaa

namespace Go.Proofs.Ytmnjmjbmnhppfaa
open Go.RowKit

def bigRw (r : Rw) : Bool := decide (100 < r.rep.val.size)
def greatI (m : Im) : Bool := m.tb.list.any bigRw || greatB m.st
def longE (e : En) : Bool := decide (100 < e.op.key.size) || decide (100 < e.op.old.size) || decide (100 < e.op.val.size)

set_option maxRecDepth 100000 in
set_option maxHeartbeats 4000000 in
theorem greatI_any (m : Im) (a : Option Addr) (cap : Nat) (w : World) (hs : SlP w a cap m.st) (r : Bool) (hr : greatI m = r) :
    Calls Try.prog 23 #[.agg (imA m.idx (.slice a m.st.length cap) m.tb)] w fun e w' => e = .returned (.bool r) ∧ Below w.heap.size w w' := by
  have hb0 := blw w (Obj.cells (imA m.idx (.slice a m.st.length cap) m.tb) 49)
  have hi := ImB.new w m.idx (.slice a m.st.length cap) m.tb
  have hs0 := hs.below hb0
  have HR := Lib.hid hr
  clear hr
  go_enter Try.func23, Try.ntmps23
  refine wp_seq_k (fun K hK => ?_)
  have HK := Lib.hid hK
  clear hK
  go_wp2
  refine HK.out _ _ ?_
  clear HK
  change Code.wp _ _ _ _ (w.alloc (Obj.cells (imA m.idx (.slice a m.st.length cap) m.tb) 49))
  generalize w.alloc (Obj.cells (imA m.idx (.slice a m.st.length cap) m.tb) 49) = w0 at *
  obtain ⟨c0, c1, c2, c3, c4, c5, c6, c7, c8, c9, c10, c11, c12, c13, c14, c15, c16, c17⟩ := hi.cells
  clear c0 c2 c3 c4 c6 c7 c8 c10 c11 c12 c14 c15 c16 hi
  have HSL := Lib.hid hs0
  clear hs0
  go_wp2_with fail
  go_loopw [3] (fun i wr => ∃ k : Nat, k ≤ 4 ∧ i = .int .i64 k ∧ NoneTo bigRw m.tb.list k ∧ wr = w0) (fun i _ => 4 - (intOf i).toNat)
  case atStart => exact ⟨0, by omega, rfl, noneTo_zero _ _, rfl⟩
  case round =>
    obtain ⟨k, hk, rfl, hn, rfl⟩ := hrel
    have hks : k = 0 ∨ k = 1 ∨ k = 2 ∨ k = 3 ∨ k = 4 := by omega
    have HN := Lib.hid hn
    clear hn
    rcases hks with rfl | rfl | rfl | rfl | rfl
    case inr.inr.inr.inr =>
      have hno : m.tb.list.any bigRw = false := any_no fun j c hj => HN.out j c (by have := (List.getElem?_eq_some_iff.1 hj).1; exact this) hj
      have hg : greatB m.st = r := by rw [← HR.out]; unfold greatI; rw [hno]; rfl
      have HG := Lib.hid hg
      clear hno hg
      go_wp2_with (go_at_call 32; (with_reducible refine (great_any _ _ _ _ HSL.out).mono ?_); rintro e w' ⟨rfl, rfl⟩; rw [HG.out])
      go_ret
      exact ⟨rfl, hb0⟩
    case inl =>
      by_cases hb : 100 < m.tb.r0.rep.val.size
      · obtain rfl : r = true := by rw [← HR.out]; unfold greatI; rw [any_at (k := 0) rfl (show bigRw m.tb.r0 = true from decide_eq_true hb)]; rfl
        go_wp2
        go_ret
        exact ⟨rfl, hb0⟩
      · have hnx := noneTo_succ HN.out (show m.tb.list[0]? = some m.tb.r0 from rfl) (decide_eq_false hb)
        have HNX := Lib.hid hnx
        clear hnx
        go_wp2
        go_roundw
        case rel => exact ⟨1, by omega, rfl, HNX.out, by first | trivial | rfl⟩
        case measure => simp [intOf]
    case inr.inl =>
      by_cases hb : 100 < m.tb.r1.rep.val.size
      · obtain rfl : r = true := by rw [← HR.out]; unfold greatI; rw [any_at (k := 1) rfl (show bigRw m.tb.r1 = true from decide_eq_true hb)]; rfl
        go_wp2
        go_ret
        exact ⟨rfl, hb0⟩
      · have hnx := noneTo_succ HN.out (show m.tb.list[1]? = some m.tb.r1 from rfl) (decide_eq_false hb)
        have HNX := Lib.hid hnx
        clear hnx
        go_wp2
        go_roundw
        case rel => exact ⟨2, by omega, rfl, HNX.out, by first | trivial | rfl⟩
        case measure => simp [intOf]
    case inr.inr.inl =>
      by_cases hb : 100 < m.tb.r2.rep.val.size
      · obtain rfl : r = true := by rw [← HR.out]; unfold greatI; rw [any_at (k := 2) rfl (show bigRw m.tb.r2 = true from decide_eq_true hb)]; rfl
        go_wp2
        go_ret
        exact ⟨rfl, hb0⟩
      · have hnx := noneTo_succ HN.out (show m.tb.list[2]? = some m.tb.r2 from rfl) (decide_eq_false hb)
        have HNX := Lib.hid hnx
        clear hnx
        go_wp2
        go_roundw
        case rel => exact ⟨3, by omega, rfl, HNX.out, by first | trivial | rfl⟩
        case measure => simp [intOf]
    case inr.inr.inr.inl =>
      by_cases hb : 100 < m.tb.r3.rep.val.size
      · obtain rfl : r = true := by rw [← HR.out]; unfold greatI; rw [any_at (k := 3) rfl (show bigRw m.tb.r3 = true from decide_eq_true hb)]; rfl
        go_wp2
        go_ret
        exact ⟨rfl, hb0⟩
      · have hnx := noneTo_succ HN.out (show m.tb.list[3]? = some m.tb.r3 from rfl) (decide_eq_false hb)
        have HNX := Lib.hid hnx
        clear hnx
        go_wp2
        go_roundw
        case rel => exact ⟨4, by omega, rfl, HNX.out, by first | trivial | rfl⟩
        case measure => simp [intOf]

set_option maxRecDepth 100000 in
theorem longE_any (e : En) (w : World) (r : Bool) (hr : longE e = r) :
    Calls Try.prog 45 #[.agg (enA e)] w fun en w' => en = .returned (.bool r) ∧ Below w.heap.size w w' := by
  have hb0 := blw w (Obj.cells (enA e) 80)
  have B := heap_alloc_new w (Obj.cells (enA e) 80)
  have c4 : (w.alloc (Obj.cells (enA e) 80)).cell? ⟨w.heap.size, 4, none⟩ = some (.string e.op.key) := blk_cell B 4 _ rfl
  have c5 : (w.alloc (Obj.cells (enA e) 80)).cell? ⟨w.heap.size, 5, none⟩ = some (.string e.op.old) := blk_cell B 5 _ rfl
  have c6 : (w.alloc (Obj.cells (enA e) 80)).cell? ⟨w.heap.size, 6, none⟩ = some (.string e.op.val) := blk_cell B 6 _ rfl
  unfold longE at hr
  have HR := Lib.hid hr
  clear hr B
  go_enter Try.func45, Try.ntmps45
  refine wp_seq_k (fun K hK => ?_)
  have HK := Lib.hid hK
  clear hK
  go_wp2
  refine HK.out _ _ ?_
  clear HK
  change Code.wp _ _ _ _ (w.alloc (Obj.cells (enA e) 80))
  generalize w.alloc (Obj.cells (enA e) 80) = w0 at *
  by_cases h1 : 100 < e.op.key.size
  · obtain rfl : r = true := by rw [← HR.out, decide_eq_true h1]; rfl
    go_wp2
    go_ret
    exact ⟨rfl, hb0⟩
  · by_cases h2 : 100 < e.op.old.size
    · obtain rfl : r = true := by rw [← HR.out, decide_eq_true h2]; simp
      go_wp2
      go_ret
      exact ⟨rfl, hb0⟩
    · by_cases h3 : 100 < e.op.val.size
      · obtain rfl : r = true := by rw [← HR.out, decide_eq_true h3]; simp
        go_wp2
        go_ret
        exact ⟨ret_bool (by first | rfl | exact decide_eq_true (by omega) | (simp; omega)), hb0⟩
      · obtain rfl : r = false := by rw [← HR.out, decide_eq_false h1, decide_eq_false h2, decide_eq_false h3]; rfl
        go_wp2
        go_ret
        exact ⟨ret_bool (by first | rfl | exact decide_eq_false (by omega) | (simp; omega)), hb0⟩
theorem applyP_len {m : Im} (h : m.st.length ≤ 40) (index : Int) (e : En) : (applyP m index e).1.st.length ≤ 1000 := by
  cases hb : badAp m index e with
  | true => rw [badAp_yes hb]; simp [zeroI]
  | false =>
    obtain ⟨hmi, _, _, _⟩ := badAp_no hb
    have hms := (mayI_parts hmi).2.2.1
    by_cases hk : e.kind = 1
    · rw [applyP_noop hb hk]; simp only; omega
    · rcases Int.lt_trichotomy e.seq (m.tb.at e.cli).seq with h1 | h1 | h1
      · rw [applyP_old hb hk h1]; simp only; omega
      · rw [applyP_same hb hk h1]; simp only; omega
      · rw [applyP_fresh hb hk h1]
        have := (may_spec (doP_may e.op hms)).1
        simp only
        omega
end Go.Proofs.Ytmnjmjbmnhppfaa

namespace Go.Proofs.Ytmnjmjbmnhppfaa
open Go.RowKit

def spoilt : Tx := ⟨#[115, 112, 111, 105, 108, 116]⟩

set_option maxRecDepth 100000 in
set_option maxHeartbeats 8000000 in
theorem applies_law (m : Im) (a : Option Addr) (cap : Nat) (index : Int) (e : En) (w : World) (hs : SlP w a cap m.st) :
    Calls Try.prog 10 #[.agg (imA m.idx (.slice a m.st.length cap) m.tb), .int .i64 index, .agg (enA e)] w fun en w' => en = .returned (.bool true) ∧ Below w.heap.size w w' := by
  obtain ⟨N, hN⟩ : ∃ N, w.heap.size = N := ⟨_, rfl⟩
  have hb0 : Below w.heap.size w ((w.alloc (Obj.cells (imA m.idx (.slice a m.st.length cap) m.tb) 49)).alloc (Obj.cells (enA e) 80)) := ((Below.refl _ _).alloc (Nat.le_refl _) _).alloc (by simp) _
  have B3 := tr_al (Obj.cells (enA e) 80) (heap_alloc_new w (Obj.cells (imA m.idx (.slice a m.st.length cap) m.tb) 49))
  have B5 := heap_alloc2_new w (Obj.cells (imA m.idx (.slice a m.st.length cap) m.tb) 49) (Obj.cells (enA e) 80)
  have hsz0 : ((w.alloc (Obj.cells (imA m.idx (.slice a m.st.length cap) m.tb) 49)).alloc (Obj.cells (enA e) 80)).heap.size = w.heap.size + 2 := by simp
  have HBN : Hid (∀ w', Below N w w' → SlP w' a cap m.st) := Lib.hid (fun w' h => hs.below (by rw [hN]; exact h))
  go_enter Try.func10, Try.ntmps10
  refine wp_seq_k (fun K hK => ?_)
  have HK := Lib.hid hK
  clear hK
  go_wp2
  refine HK.out _ _ ?_
  clear HK
  change Code.wp _ _ _ _ ((w.alloc (Obj.cells (imA m.idx (.slice a m.st.length cap) m.tb) 49)).alloc (Obj.cells (enA e) 80))
  generalize (w.alloc (Obj.cells (imA m.idx (.slice a m.st.length cap) m.tb) 49)).alloc (Obj.cells (enA e) 80) = w0 at *
  simp only [hN] at *
  have HSZ0 := Lib.hid hsz0
  have B5a := B5
  have hsz0 : N + 2 ≤ w0.heap.size := by have := HSZ0.out; omega
  clear hN HSZ0
  cases hg : greatI m
  case true =>
    have HG := Lib.hid hg
    clear hg
    go_wp2_with (first
      | ((with_reducible refine wpList_ldB 49 _ ?_); refine ⟨rfl, _, ⟨_, _, _, _, _, Try.isAgg49, Try.sizeOf49, rfl, ‹_›, imA_all _ _ _⟩, ?_⟩)
      | (go_at_call 23; refine (greatI_any _ _ _ _ (HBN.out _ hb0) _ HG.out).mono ?_; rintro en w1 ⟨rfl, hb1⟩))
    go_ret
    exact ⟨rfl, hb0.trans (hb1.mono (by omega))⟩
  case false =>
    have HG := Lib.hid hg
    have hgs : greatB m.st = false := by
      unfold greatI at hg
      rw [Bool.or_eq_false_iff] at hg
      exact hg.2
    have hl40 := (great_no hgs).1
    have HSM := Lib.hid (great_no hgs).2
    clear hg hgs
    cases hlg : longE e
    case true =>
      have HL := Lib.hid hlg
      clear hlg
      go_wp2_with (first
        | ((with_reducible refine wpList_ldB 49 _ ?_); refine ⟨rfl, _, ⟨_, _, _, _, _, Try.isAgg49, Try.sizeOf49, rfl, ‹_›, imA_all _ _ _⟩, ?_⟩)
        | ((with_reducible refine wpList_ldB 80 _ ?_); refine ⟨rfl, _, ⟨_, _, _, _, _, Try.isAgg80, Try.sizeOf80, rfl, ‹_›, enA_all _⟩, ?_⟩)
        | (go_at_call 23; refine (greatI_any _ _ _ _ (HBN.out _ hb0) _ HG.out).mono ?_; rintro en w1 ⟨rfl, hb1⟩; have B5 := tr_bl hb1 B5)
        | (go_at_call 45; refine (longE_any _ _ _ HL.out).mono ?_; rintro en w2 ⟨rfl, hb2⟩))
      go_ret
      exact ⟨rfl, (hb0.trans (hb1.mono (by omega))).trans (hb2.mono (by have := hb1.size; omega))⟩
    case false =>
      have HL := Lib.hid hlg
      clear hlg
      refine wp_seq_k (fun K hK => ?_)
      have HK := Lib.hid hK
      clear hK
      go_wp2_with (first
              | ((with_reducible refine wpList_ldB 49 _ ?_); refine ⟨rfl, _, ⟨_, _, _, _, _, Try.isAgg49, Try.sizeOf49, rfl, ‹_›, imA_all _ _ _⟩, ?_⟩)
              | ((with_reducible refine wpList_ldB 80 _ ?_); refine ⟨rfl, _, ⟨_, _, _, _, _, Try.isAgg80, Try.sizeOf80, rfl, ‹_›, enA_all _⟩, ?_⟩)
              | (go_at_call 23; refine (greatI_any _ _ _ _ (HBN.out _ hb0) _ HG.out).mono ?_; rintro en w1 ⟨rfl, hb1⟩; have B5 := tr_bl hb1 B5)
              | (go_at_call 45; refine (longE_any _ _ _ HL.out).mono ?_; rintro en w2 ⟨rfl, hb2⟩))
      refine HK.out _ _ ?_
      clear HK
      have hb02 := step_b hb1 hb2
      have hbw := hb0.trans (hb02.mono (by omega))
      have hsz2 : N + 2 ≤ w2.heap.size := by have := hb02.size; omega
      have B3 := tr_bl hb02 B3
      have B5 := tr_bl hb2 B5
      clear B5a
      clear hb1 hb2 hb02 hb0 HL HG
      refine wp_seq_k (fun K hK => ?_)
      have HK := Lib.hid hK
      clear hK
      go_wp2_with (first
              | ((with_reducible refine wpList_ldB 49 _ ?_); refine ⟨rfl, _, ⟨_, _, _, _, _, Try.isAgg49, Try.sizeOf49, rfl, ‹_›, imA_all _ _ _⟩, ?_⟩)
              | (go_at_call 46; refine (rcopyI_any _ _ _ _ _ _ (HBN.out _ hbw) (by omega)).mono ?_; rintro en w3 ⟨⟨a7, cap7, rfl, ho7⟩, hb3⟩; have B3 := tr_bl hb3 B3; have B5 := tr_bl hb3 B5)
              | ((first | (with_reducible refine wpList_stNew 49 _ _ ?_) | (with_reducible refine wp_stNew 49 _ _ ?_)); refine ⟨_, _, ⟨Try.sizeOf49, rfl, imA_new m.idx a7 _ cap7 m.tb⟩, rfl, ?_⟩))
      refine HK.out _ _ ?_
      clear HK
      have C3 := tr_al (Obj.cells (imA m.idx (.slice a7 m.st.length cap7) m.tb) 49) B3
      have C5 := tr_al (Obj.cells (imA m.idx (.slice a7 m.st.length cap7) m.tb) 49) B5
      have C7 := heap_alloc_new w3 (Obj.cells (imA m.idx (.slice a7 m.st.length cap7) m.tb) 49)
      have ho7 := owns_bl ho7 (blw w3 (Obj.cells (imA m.idx (.slice a7 m.st.length cap7) m.tb) 49))
      have hz3 := hb3.size
      have hbw4 := (hbw.trans (hb3.mono (by omega))).trans ((blw w3 (Obj.cells (imA m.idx (.slice a7 m.st.length cap7) m.tb) 49)).mono (by omega))
      clear B3 B5 hbw hb3
      generalize w3.alloc (Obj.cells (imA m.idx (.slice a7 m.st.length cap7) m.tb) 49) = w4 at *
      obtain ⟨g7, hg7⟩ : ∃ g, w3.heap.size = g := ⟨_, rfl⟩
      rw [hg7] at C7 hz3
      simp only [hg7]
      clear hg7
      have hz4 := lt_blk C7
      obtain ⟨o, ho⟩ : ∃ o, applyP m index e = o := ⟨_, rfl⟩
      have hol := applyP_len hl40 index e
      rw [ho] at hol
      have HO := Lib.hid ho
      clear ho
      refine wp_seq_k (fun K hK => ?_)
      have HK := Lib.hid hK
      clear hK
      go_wp2_with (first
              | ((with_reducible refine wpList_ldB 49 _ ?_); refine ⟨rfl, _, ⟨_, _, _, _, _, Try.isAgg49, Try.sizeOf49, rfl, ‹_›, imA_all _ _ _⟩, ?_⟩)
              | ((with_reducible refine wpList_ldB 80 _ ?_); refine ⟨rfl, _, ⟨_, _, _, _, _, Try.isAgg80, Try.sizeOf80, rfl, ‹_›, enA_all _⟩, ?_⟩)
              | (go_at_call 47; refine (rapply_any m a cap index e _ (HBN.out _ hbw4) (by omega) HSM.out).mono ?_; rintro en w5 ⟨har, hb5⟩; rw [HO.out] at har; obtain ⟨a8, cap8, rfl, ho8⟩ := har)
              | ((with_reducible refine wpList_stB 49 _ _ ?_); refine ⟨_, _, _, ⟨_, _, _, Try.sizeOf49, rfl, tr_al _ (heap_alloc_new _ _), imA_over _ _ _ _ _ 0 (.slice none 0 0) zeroT⟩, ?_⟩; intro w6 D8 g6; have D9 := tr_st g6 (heap_alloc2_new w5 _ _) (by omega))
              | ((with_reducible refine wpList_stB 43 _ _ ?_); refine ⟨_, _, _, ⟨_, _, _, Try.sizeOf43, rfl, D9, rpA_over _ zeroR⟩, ?_⟩; intro w7 E9 g7'; have E8 := tr_st g7' D8 (by omega)))
      refine HK.out _ _ ?_
      clear HK
      have E3 := tr_st g7' (tr_st g6 (tr_al _ (tr_al _ (tr_bl hb5 C3))) (by have := hb5.size; omega)) (by have := hb5.size; omega)
      have E5 := tr_st g7' (tr_st g6 (tr_al _ (tr_al _ (tr_bl hb5 C5))) (by have := hb5.size; omega)) (by have := hb5.size; omega)
      have E7 := tr_st g7' (tr_st g6 (tr_al _ (tr_al _ (tr_bl hb5 C7))) (by have := hb5.size; omega)) (by have := hb5.size; omega)
      have ho7 := owns_ne (owns_ne (owns_bl (owns_bl (owns_bl ho7 hb5) (blw _ _)) (blw _ _)) g6 (tr_al _ (heap_alloc_new _ _)) (by decide)) g7' D9 (by decide)
      have ho8 := owns_ne (owns_ne (owns_bl (owns_bl ho8 (blw _ _)) (blw _ _)) g6 (tr_al _ (heap_alloc_new _ _)) (by decide)) g7' D9 (by decide)
      have hbw5 : Below N w ((w5.alloc (Obj.cells (imA 0 (.slice none 0 0) zeroT) 49)).alloc (Obj.cells (rpA zeroR) 43)) := (hbw4.trans (hb5.mono (by omega))).trans (((blw w5 (Obj.cells (imA 0 (.slice none 0 0) zeroT) 49)).trans ((blw (w5.alloc (Obj.cells (imA 0 (.slice none 0 0) zeroT) 49)) (Obj.cells (rpA zeroR) 43)).mono (by simp))).mono (by have := hb5.size; omega))
      have hz5 := hb5.size
      have hbw6 := bl_st hbw5 g6 (by simp; omega) (by omega)
      have hz6 := g6.size
      simp only [World.size_alloc] at hz6
      have hbw7 := bl_st hbw6 g7' (by omega) (by omega)
      have hz7 := g7'.size
      have s7 := SlP.of_own1 ho7
      have s8 := SlP.of_own1 ho8
      have sa := HBN.out _ hbw7
      have hz8 : w5.heap.size + 2 ≤ w7.heap.size := by omega
      obtain ⟨g8, hg8⟩ : ∃ g, w5.heap.size = g := ⟨_, rfl⟩
      clear g6 g7' D8 D9 hbw4 hbw5 hbw6 ho7 ho8 C3 C5 C7 hb5
      simp only [hg8] at E8 E9 hz8 hz5 ⊢
      clear hg8 hz6 hz7
      have hNg : N + 2 ≤ g8 := by omega
      have hg78 : g7 < g8 := by omega
      have hz9 : g8 + 2 ≤ w7.heap.size := hz8
      clear hz3 hz4 hz5 hz8
      refine wp_seq_k (fun K hK => ?_)
      go_cut [] (fun wx => Below w7.heap.size w7 wx)
      case first =>
        go_wp2_with fail
        go_loopw [11] (fun i wr => ∃ k : Nat, k ≤ 2 ∧ i = .int .i64 k ∧ Below w7.heap.size w7 wr) (fun i _ => 2 - (intOf i).toNat)
        case atStart => exact ⟨0, by omega, rfl, Below.refl _ _⟩
        case round =>
          obtain ⟨k, hk, rfl, hbr⟩ := hrel
          by_cases hlt : k < 2
          · have F3 := tr_bl hbr E3
            have F5 := tr_bl hbr E5
            have F7 := tr_bl hbr E7
            have F8 := tr_bl hbr E8
            have F9 := tr_bl hbr E9
            have hzr := hbr.size
            have t7 := s7.below hbr
            have t8 := s8.below hbr
            have ta := sa.below hbr
            obtain ⟨wo, rfl⟩ : ∃ wo : World, wo = wr := ⟨_, rfl⟩
            go_wp2_with (first
              | ((with_reducible refine wpList_ldB 49 _ ?_); refine ⟨rfl, _, ⟨_, _, _, _, _, Try.isAgg49, Try.sizeOf49, rfl, ‹_›, imA_all _ _ _⟩, ?_⟩)
              | ((with_reducible refine wpList_ldB 80 _ ?_); refine ⟨rfl, _, ⟨_, _, _, _, _, Try.isAgg80, Try.sizeOf80, rfl, ‹_›, enA_all _⟩, ?_⟩)
              | (go_at_call 48; refine (apply_any m a7 cap7 index e _ t7 (by omega)).mono ?_; rintro en w8 ⟨har, hb8⟩; rw [HO.out] at har; obtain ⟨a12, cap12, rfl, ho12⟩ := har)
              | ((with_reducible refine wpList_stB 49 _ _ ?_); refine ⟨_, _, _, ⟨_, _, _, Try.sizeOf49, rfl, tr_al _ (heap_alloc_new _ _), imA_over _ _ _ _ _ 0 (.slice none 0 0) zeroT⟩, ?_⟩; intro w9 D12 g9; have D13 := tr_st g9 (heap_alloc2_new w8 _ _) (by omega))
              | ((with_reducible refine wpList_stB 43 _ _ ?_); refine ⟨_, _, _, ⟨_, _, _, Try.sizeOf43, rfl, D13, rpA_over _ zeroR⟩, ?_⟩; intro w10 G13 g10; have G12 := tr_st g10 D12 (by omega); have hz8 := hb8.size; have F3 := tr_st g10 (tr_st g9 (tr_al _ (tr_al _ (tr_bl hb8 F3))) (by omega)) (by omega); have F7 := tr_st g10 (tr_st g9 (tr_al _ (tr_al _ (tr_bl hb8 F7))) (by omega)) (by omega); have F8 := tr_st g10 (tr_st g9 (tr_al _ (tr_al _ (tr_bl hb8 F8))) (by omega)) (by omega); have F9 := tr_st g10 (tr_st g9 (tr_al _ (tr_al _ (tr_bl hb8 F9))) (by omega)) (by omega); have ho13 := owns_ne (owns_ne (owns_bl (owns_bl ho12 (blw _ _)) (blw _ _)) g9 (tr_al _ (heap_alloc_new _ _)) (by decide)) g10 D13 (by decide); have hb10 : Below w7.heap.size w7 w10 := bl_st (bl_st ((hbr.trans (hb8.mono hzr)).trans (((blw w8 (Obj.cells (imA 0 (.slice none 0 0) zeroT) 49)).trans ((blw (w8.alloc (Obj.cells (imA 0 (.slice none 0 0) zeroT) 49)) (Obj.cells (rpA zeroR) 43)).mono (by simp))).mono (by omega))) g9 (by simp; omega) (by omega)) g10 (by have := g9.size; simp at this; omega) (by omega); have hz10 : w8.heap.size + 2 ≤ w10.heap.size := (by have := g9.size; have := g10.size; simp at *; omega); have t7 := s7.below hb10; have t8 := s8.below hb10; have ta := sa.below hb10; have t12 := SlP.of_own1 ho13)
              | ((with_reducible refine wpList_ldB 43 _ ?_); refine ⟨rfl, _, ⟨_, _, _, _, _, Try.isAgg43, Try.sizeOf43, rfl, ‹_›, rpA_lit _⟩, ?_⟩)
              | (go_at_call 28; (with_reducible refine (risame_any o.1 o.1 a12 a8 _ _ _ t12.row t8.row hol hol true (sameI_refl _)).mono ?_); rintro en w11 ⟨rfl, hb11⟩; have G12 := tr_bl hb11 G12; have G13 := tr_bl hb11 G13; have F3 := tr_bl hb11 F3; have F7 := tr_bl hb11 F7; have F8 := tr_bl hb11 F8; have F9 := tr_bl hb11 F9; have u7 := t7.below hb11; have ua := ta.below hb11)
              | (go_at_call 28; (with_reducible refine (risame_any m m a7 a _ _ _ u7.row ua.row (by omega) (by omega) true (sameI_refl _)).mono ?_); rintro en w12 ⟨rfl, hb12⟩; have G12 := tr_bl hb12 G12; have F8 := tr_bl hb12 F8; have v12 := (t12.below hb11).below hb12; have v8 := (t8.below hb11).below hb12)
              | (go_at_call 29; refine (isame_any o.1 o.1 a12 a8 _ _ _ v12.row v8.row hol hol true (sameI_refl _)).mono ?_; rintro en w13 ⟨rfl, hb13⟩; have G12 := tr_bl hb13 G12; have ho14 := owns_bl (owns_bl (owns_bl ho13 hb11) hb12) hb13; have hb14 := step_b (step_b (step_b hb10 hb11) hb12) hb13; have hz14 := (by have := hb11.size; have := hb12.size; have := hb13.size; exact Nat.le_trans hz10 (by omega : w10.heap.size ≤ w13.heap.size))))
            obtain ⟨g12, hg12⟩ : ∃ g, w8.heap.size = g := ⟨_, rfl⟩
            have hzz : w7.heap.size ≤ w8.heap.size := by omega
            simp only [hg12] at G12 hz14 hzz ⊢
            go_loopw [15] (fun j wx => ∃ (q : Nat) (xs : List Value), q ≤ o.1.st.length ∧ j = .int .i64 q ∧ wx.ownsRow wo.heap.size 74 2 (.slice a12 o.1.st.length cap12) o.1.st.length xs ∧ wx.heap[g12]? = some (.cells (imA o.1.idx (.slice a12 o.1.st.length cap12) o.1.tb) 49 (0, 0)) ∧ Below w7.heap.size w7 wx) (fun j _ => o.1.st.length - (intOf j).toNat)
            case atStart => exact ⟨0, _, by omega, rfl, ho14, G12, hb14⟩
            case round =>
              obtain ⟨q, xs, hq, rfl, hownx, Gx, hbx⟩ := hrel
              have cx := imA_c1 Gx
              by_cases hlq : q < o.1.st.length
              · have hne := own_ne hownx Gx (by decide)
                obtain ⟨g, cap', hv, hgb⟩ := owns_some hownx (by omega)
                injection hv with hv1 _ hv2
                subst hv1 hv2
                have hne' : g ≠ g12 := fun e => hne (by rw [e]; rfl)
                have hxl := hownx.1
                obtain ⟨u, hu⟩ : ∃ u, xs[q * 2 + 1]? = some u := ⟨_, List.getElem?_eq_getElem (by omega)⟩
                have ex : wr.cell? ⟨g, q * 2 + 1, none⟩ = some u := by
                  rw [hownx.cellAt _ (by omega)]
                  exact hu
                have fx : wr.frozen? ⟨g, q * 2 + 1, none⟩ = false := hownx.frozenAt _
                have hst := (hownx.stored (q * 2 + 1) (.string ⟨#[115, 112, 111, 105, 108, 116]⟩)).1
                have Gy := (Below.heap_setCell wr ⟨g, q * 2 + 1, none⟩ (.string ⟨#[115, 112, 111, 105, 108, 116]⟩) g12 (fun e => hne' e.symm)).trans Gx
                have HGY := Lib.hid Gy
                have HGX := Lib.hid Gx
                clear hu Gy Gx
                go_wp2
                go_roundw
                case rel => exact ⟨q + 1, _, by omega, by go_num, hst, HGY.out, hbx.setCell (by simp; omega) _⟩
                case measure => simp [intOf]; omega
              · go_wp2
                go_roundw
                case rel => exact ⟨k + 1, by omega, by go_num, hbx⟩
                case measure => simp [intOf]; omega
          · go_wp2
            go_meet
            exact hbr
      refine hK _ _ ?_; clear hK
      have F3 := tr_bl hcut E3
      have hbw8 := hbw7.trans (hcut.mono (by omega))
      have ta := sa.below hcut
      obtain ⟨r, hr⟩ : ∃ r, mayI m = r := ⟨_, rfl⟩
      have HR := Lib.hid hr
      clear hr
      go_wp2_with fail
      refine wp_region_cls (C := fun w' => Below wc.heap.size wc w') (by kernel_rfl) (by kernel_rfl) (Below.refl _ _).drew ?_
      refine wpQuiet_val (by rfl) (.agg (imA m.idx (.slice a m.st.length cap) m.tb)) (fun wS hSw => exec_ldB 49 _ ⟨_, _, _, _, _, Try.isAgg49, Try.sizeOf49, rfl, tr_bl hSw F3, imA_all _ _ _⟩) ?_
      (try simp only [Act.put])
      (try simp only [List.setIfInBounds_toArray])
      (try simp only [List.set_cons_succ])
      (try simp only [List.set_cons_zero])
      refine wpQuiet_gen (by rfl) (.bool r) (fun wS hSw => ?_) ?_
      · unfold Oper.quietAt
        go_simp
        (try refine ⟨rfl, ?_⟩)
        exact (imay_any _ _ _ _ _ _ (ta.below hSw).row (by omega) _ HR.out).mono fun _ _ h => ⟨h.1, step_b hSw h.2⟩
      (try simp only [Act.put])
      (try simp only [List.setIfInBounds_toArray])
      (try simp only [List.set_cons_succ])
      (try simp only [List.set_cons_zero])
      refine wpQuiet_val (by rfl) (.agg (imA m.idx (.slice a m.st.length cap) m.tb)) (fun wS hSw => exec_ldB 49 _ ⟨_, _, _, _, _, Try.isAgg49, Try.sizeOf49, rfl, tr_bl hSw F3, imA_all _ _ _⟩) ?_
      (try simp only [Act.put])
      (try simp only [List.setIfInBounds_toArray])
      (try simp only [List.set_cons_succ])
      (try simp only [List.set_cons_zero])
      refine wpQuiet_gen (by rfl) (.bool r) (fun wS hSw => ?_) ?_
      · unfold Oper.quietAt
        go_simp
        (try refine ⟨rfl, ?_⟩)
        exact (rimay_any _ _ _ _ _ _ (ta.below hSw).row (by omega) HSM.out _ HR.out).mono fun _ _ h => ⟨h.1, step_b hSw h.2⟩
      (try simp only [Act.put])
      (try simp only [List.setIfInBounds_toArray])
      (try simp only [List.set_cons_succ])
      (try simp only [List.set_cons_zero])
      refine wpQuiet_val (by rfl) (.bool true) (fun wS hSw => ?_) ?_
      · cases r <;> go_simp
      (try simp only [Act.put])
      (try simp only [List.setIfInBounds_toArray])
      (try simp only [List.set_cons_succ])
      (try simp only [List.set_cons_zero])
      refine wpQuiet_val (by rfl) ?_ ?_ ?_
      rotate_left
      · intro wS hSw
        go_simp
        (try with_reducible rfl)
      (try simp only [Act.put])
      (try simp only [List.setIfInBounds_toArray])
      (try simp only [List.set_cons_succ])
      (try simp only [List.set_cons_zero])
      refine wpQuiet_nil ?_
      intro wE hE
      go_wp2
      go_ret
      exact ⟨rfl, hbw8.trans (hE.mono (by have := hcut.size; omega))⟩
end Go.Proofs.Ytmnjmjbmnhppfaa

namespace Go.Proofs.Ytmnjmjbmnhppfaa
open Go.ChangeShapes Go.WideShapes Go.ChangeAt Go.RowKit
variable {H : Type} {enc : TypeId × Value → H} {P : Program}

theorem open_row_ints {W : World} {base : Nat} {sp : Nat → Bool} {hd : Bool} {b0 : Nat} {t e : TypeId} {k : IntKind} {v : Value} {d : DataW H} {p : List MemPlace}
    (ht : P.underlying t = some (.slice e)) (he : P.underlying e = some (.int k)) (hc : P.cellsOf e = 1) (hv : Value.okWide P W .any base t v) (h : DataW.Trod enc P W b0 sp hd t v d p) :
    ∃ (a : Option Addr) (l : List Int) (cap : Nat), v = .slice a l.length cap ∧ Row W a (l.map (Value.int k)) ∧ l.length ≤ cap ∧ cap ≤ maxLen ∧ ∀ n ∈ l, (Lit.int k n).wf = true := by
  obtain ⟨a0, len, cap, rfl⟩ := okWide_slice ht hv
  obtain ⟨fuel, hf⟩ := h
  rcases open_ints ht he hc hf with ⟨hcs, hx⟩ | ⟨a, len', cap', zs, hcs, _, hl, hm, hz, hx, hcell, hwz⟩
  · simp [Value.cells] at hcs
    obtain ⟨rfl, rfl, rfl⟩ := hcs
    exact ⟨none, [], 0, rfl, .inl rfl, Nat.le_refl _, by simp, by simp⟩
  · simp [Value.cells] at hcs
    obtain ⟨rfl, rfl, rfl⟩ := hcs
    have hlen : len ≤ zs.length := by rw [hz]; split <;> omega
    refine ⟨some a, zs.take len, cap, by simp; omega, ?_, by simp; omega, hm, fun n hn => hwz n (List.mem_of_mem_take hn)⟩
    by_cases h0 : len = 0
    · left; simp [h0]
    · right
      obtain ⟨b, off, rfl, hc'⟩ := ints_at hcell (by omega)
      refine ⟨b, off, rfl, fun i u hu => ?_⟩
      have hi := (List.getElem?_eq_some_iff.1 hu).1
      simp only [List.length_map, List.length_take] at hi
      rw [hc' i (by omega)]
      simp only [List.getElem?_map, List.getElem?_take_of_lt (show i < len by omega), Option.map_eq_some_iff] at hu
      obtain ⟨z, hz2, rfl⟩ := hu
      rw [List.getD_eq_getElem?_getD, hz2]
      rfl
end Go.Proofs.Ytmnjmjbmnhppfaa

namespace Go.Proofs.Ytmnjmjbmnhppfaa
open Go.ChangeShapes Go.WideShapes Go.ChangeAt Go.RowKit

theorem cellsPair : Try.prog.cellsOf 74 = 2 := by kernel_rfl
theorem cellsString : Try.prog.cellsOf 9 = 1 := by kernel_rfl
instance : Inhabited Pr := ⟨(⟨#[]⟩, ⟨#[]⟩)⟩

theorem prs_range (f : Nat → Pr) : ∀ (n i : Nat) (u : Value), (prs ((List.range n).map f))[i]? = some u → ∃ j, j < n ∧ ((i = j * 2 ∧ u = .string (f j).1) ∨ (i = j * 2 + 1 ∧ u = .string (f j).2)) := by
  intro n i u h
  have hi := (List.getElem?_eq_some_iff.1 h).1
  rw [prs_len, List.length_map, List.length_range] at hi
  have hj : i / 2 < n := by omega
  have hget : ((List.range n).map f)[i / 2]? = some (f (i / 2)) := by simp [hj]
  obtain ⟨h1, h2⟩ := prs_at hget
  refine ⟨i / 2, hj, ?_⟩
  rcases Nat.mod_two_eq_zero_or_one i with hm | hm
  · left
    have e : i = i / 2 * 2 := by omega
    refine ⟨e, ?_⟩
    rw [← e, h] at h1
    exact Option.some.inj h1
  · right
    have e : i = i / 2 * 2 + 1 := by omega
    refine ⟨e, ?_⟩
    rw [← e, h] at h2
    exact Option.some.inj h2

set_option maxRecDepth 100000 in
theorem open_state {H : Type} {enc : TypeId × Value → H} {W : World} {base : Nat} {sp : Nat → Bool} {hd : Bool} {b0 : Nat} {v : Value} {d : DataW H} {p : List MemPlace}
    (hv : Value.okWide Try.prog W .any base 41 v) (h : DataW.Trod enc Try.prog W b0 sp hd 41 v d p) : ∃ (a : Option Addr) (l : List Pr) (cap : Nat), v = .slice a l.length cap ∧ SlP W a cap l := by
  obtain ⟨a0, len, cap, rfl⟩ := okWide_slice Try.underlying41 hv
  obtain ⟨fuel, hf⟩ := h
  rcases Go.Deep.open_slice Try.underlying41 hf with ⟨hcs, hx⟩ | ⟨a, len', cap', m, n, D, Pl, hcs, _, hl, hm, hmm, hx, hel⟩
  · simp [Value.cells] at hcs
    obtain ⟨rfl, rfl, rfl⟩ := hcs
    exact ⟨none, [], 0, rfl, .inl rfl, Nat.le_refl _, by simp [maxLen], fun _ => rfl⟩
  · simp [Value.cells] at hcs
    obtain ⟨rfl, rfl, rfl⟩ := hcs
    have hlm : len ≤ m := by rw [hmm]; split <;> omega
    have hstr : ∀ i, i < len → ∃ q : Pr, W.cell? (a.add (i * 2)) = some (.string q.1) ∧ W.cell? (a.add (i * 2 + 1)) = some (.string q.2) := by
      intro i hi
      obtain ⟨cs', hc, ht⟩ := hel i (by omega)
      rw [cellsPair] at hc
      obtain ⟨y0, y1, k, _, hcl, h0, h1⟩ := trod_struct2 Try.underlying74 ht
      obtain ⟨_, hlen2, hat⟩ := World.cells?_some hc
      simp [cellsString] at h0 h1
      obtain ⟨s, e0, _⟩ := DataW.trod_string Try.underlying9 h0
      obtain ⟨t, e1, _⟩ := DataW.trod_string Try.underlying9 h1
      match cs', hlen2 with
      | [x, y], _ =>
        simp at e0 e1
        subst e0 e1
        refine ⟨(s, t), ?_, ?_⟩
        · have := hat 0 (by omega)
          rw [Go.Deep.add_add, Nat.add_zero] at this
          exact this
        · have := hat 1 (by omega)
          rw [Go.Deep.add_add] at this
          exact this
    obtain ⟨f, hf2⟩ := Go.Deep.choose_lt hstr
    refine ⟨some a, (List.range len).map f, cap, by simp, ?_, by simpa using hl, hm, fun e => by cases e⟩
    by_cases h0 : len = 0
    · left
      subst h0
      rfl
    · right
      obtain ⟨b, off, spot⟩ := a
      have hspot : spot = none := by
        have := World.cell?_spot (hf2 0 (by omega)).1
        simpa [Addr.add] using this
      subst hspot
      refine ⟨b, off, rfl, fun i u hu => ?_⟩
      obtain ⟨j, hj, ⟨rfl, rfl⟩ | ⟨rfl, rfl⟩⟩ := prs_range f len i u hu
      · have := (hf2 j hj).1
        rw [addr_add] at this
        exact this
      · have := (hf2 j hj).2
        rw [addr_add] at this
        exact this
end Go.Proofs.Ytmnjmjbmnhppfaa

