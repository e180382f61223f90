/- Texts that the claim leans on, part 12: T6, T7, T8, A6, Open, A7, A8, T9. -/
import Derived.Test.YtknchbhobopkeaaGreatDoorZ1
import Derived.Test.YtknchbhobopkeaaGreatDoorZ2
import Derived.Test.YtknchbhobopkeaaGreatDoorZ3
import Derived.Test.YtknchbhobopkeaaGreatDoorZ4
import Derived.Test.YtknchbhobopkeaaGreatDoorZ5
import Derived.Test.YtknchbhobopkeaaGreatDoorZ6
import Derived.Test.YtknchbhobopkeaaGreatDoorZ7
import Derived.Test.YtknchbhobopkeaaGreatDoorZ8
import Derived.Test.YtknchbhobopkeaaGreatDoorZ9
import Derived.Test.YtknchbhobopkeaaGreatDoorZ10
import Derived.Test.YtknchbhobopkeaaGreatDoorZ11
import Derived.Test.YtknchbhobopkeaaGreatDoorRows
import Derived.WalkKit
import Derived.WalkSpells
import Derived.WalkLawsBesides
import Derived.Handy
import Derived.Deep.QuietTactic
import Derived.BigQuiet
import Derived.Deep.DeepCutAuto
import Derived.Lib.Hide
import Derived.RegionTactic
import Derived.ChangeAlike
import Derived.Laws.ResultCell
import Derived.Outline
import Derived.IntWalk
import Derived.LoopN
import Derived.ChangeSlices
import Derived.ProofKit
import Derived.Deep.Slices
import Derived.Deep.Strs
import Derived.OpenShut
import Derived.Lib.SmallJoins
import Derived.Laws.MakeOwn
import Derived.Lib.SliceRun
import Derived.Laws.BitsAllLaws
import Derived.Great.BuildSlice
import Derived.Great.FillDense
import Derived.Laws.Rows
import Derived.Deep.Quiet
import Derived.Deep.RegionHeld3
import Derived.Lib.AppendStr
import Derived.Laws.IdiomStrings
import Derived.Laws.BytesArg
import Derived.Laws.Strings
import Derived.Laws.CopyOwn
import Derived.Laws.CopyRow
import Derived.Laws.NewBlocks
import Derived.Deep.RegionLaw
namespace Go.Proofs.YtknchbhobopkeaaGreatDoor
open Go.RowKit
abbrev isV (q : Nat) : Value := .func (.func 109) #[] #[.pointer (some ⟨q, 0, none⟩), .pointer (some ⟨q + 1, 0, none⟩)]
abbrev r2V (g : Nat) : Value := .func (.func 110) #[] #[.pointer (some ⟨g, 0, none⟩)]
abbrev byV (p : SRec) (f : Nat → SCp) (i : Int) : Value := .func (.func 84) #[.agg (prA p f i)] #[]
abbrev r3V (g : Nat) : Value := .func (.func 111) #[] #[.pointer (some ⟨g, 0, none⟩)]
abbrev r4V (g : Nat) : Value := .func (.func 112) #[] #[.pointer (some ⟨g, 0, none⟩)]
abbrev r5V : Value := .func (.func 113) #[] #[]
abbrev r6V (g : Nat) : Value := .func (.func 114) #[] #[.pointer (some ⟨g, 0, none⟩)]
def ruA (p : SRec) (f : Nat → SCp) (i : Int) (g q1 q2 : Nat) : Array Value := #[r2V g, isV q1, byV p f i, isV q2, r3V g, r4V g, r5V, r6V g]
section
variable {w : World} {p : SRec} {f : Nat → SCp} {i : Int} {g : Nat}
set_option maxRecDepth 100000 in
theorem isr_any (c s : Int) (w : World) : Calls Tryz.prog 108 #[.int .u8 c, .int .u8 s] w fun e w' => (∃ q, e = .returned (isV q) ∧ w.heap.size ≤ q ∧ w'.cell? ⟨q, 0, none⟩ = some (.int .u8 c) ∧ w'.cell? ⟨q + 1, 0, none⟩ = some (.int .u8 s)) ∧ Below w.heap.size w w' := by
  have hb0 := blw w (Obj.cells #[.int .u8 c] 5)
  have hb1 := hb0.trans ((blw (w.alloc (Obj.cells #[.int .u8 c] 5)) (Obj.cells #[.int .u8 s] 5)).mono hb0.size)
  have Y : ((w.alloc (Obj.cells #[.int .u8 c] 5)).alloc (Obj.cells #[.int .u8 s] 5)).heap[w.heap.size + 1]? = some (.cells #[.int .u8 s] 5 (0, 0)) := by
    have := heap_alloc_new (w.alloc (Obj.cells #[.int .u8 c] 5)) (Obj.cells #[.int .u8 s] 5)
    rwa [show (w.alloc (Obj.cells #[.int .u8 c] 5)).heap.size = w.heap.size + 1 by simp] at this
  go_enter Tryz.func108, Tryz.ntmps108
  go_wp2
  go_ret
  exact ⟨⟨w.heap.size, rfl, Nat.le_refl _, blk_cell (tr_al (Obj.cells #[.int .u8 s] 5) (heap_alloc_new w (Obj.cells #[.int .u8 c] 5))) 0 _ rfl, blk_cell Y 0 _ rfl⟩, hb1⟩
set_option maxRecDepth 100000 in
theorem is1_any (q : Nat) (c s : Int) (w : World) (h0 : w.cell? ⟨q, 0, none⟩ = some (.int .u8 c)) (h1 : w.cell? ⟨q + 1, 0, none⟩ = some (.int .u8 s)) : Calls Tryz.prog 109 #[.pointer (some ⟨q, 0, none⟩), .pointer (some ⟨q + 1, 0, none⟩)] w fun e w' => e = .returned (.tuple #[.int .u8 c, .int .u8 s]) ∧ Below w.heap.size w w' := by
  have u0 := under_cell h0
  have u1 := under_cell h1
  go_enter Tryz.func109, Tryz.ntmps109
  refine wp_seq_k (fun K hK => ?_)
  have HK := Lib.hid hK
  clear hK
  go_wp2
  refine HK.out _ _ ?_
  clear HK
  refine wp_seq_k (fun K hK => ?_)
  have HK := Lib.hid hK
  clear hK
  refine wp_region_under (by kernel_rfl) (by kernel_rfl) ?_
  repeat (go_big_quiet_step (fail))
  refine wpQuiet_nil ?_
  intro _ hw'
  obtain ⟨xU, hw''⟩ := hw'
  subst hw''
  have hbU := under_below w xU
  refine HK.out _ _ ?_
  clear HK
  go_wp2
  go_ret2
  exact ⟨rfl, hbU⟩
set_option maxRecDepth 100000 in
theorem r2_any (h : w.heap[g]? = some (.cells (prA p f i) 120 (0, 0))) (r : Bool) (hr : decide (p.st = 1 ∧ p.idx = i) = r) : Calls Tryz.prog 110 #[.pointer (some ⟨g, 0, none⟩)] w fun e w' => e = .returned (.bool r) ∧ Below w.heap.size w w' := by
  have u0 := pr_p0 h
  have u1 := pr_p1 h
  have u2 := pr_i h
  cases h1 : ((p.st : Int) == 1)
  · have hn : p.st ≠ 1 := fun h => by rw [h] at h1; exact absurd h1 (by decide)
    obtain rfl : r = false := by rw [← hr]; exact decide_eq_false (fun h => hn h.1)
    clear hn hr
    go_enter Tryz.func110, Tryz.ntmps110
    go_wp2
    go_ret
    exact ⟨ret_bool (by simp [*]), Below.refl _ _⟩
  · have hn : p.st = 1 := by rw [beq_iff_eq] at h1; omega
    have hr2 : (p.idx == i) = r := by rw [← hr, Bool.eq_iff_iff, beq_iff_eq, decide_eq_true_eq]; exact ⟨fun h => ⟨hn, h⟩, fun h => h.2⟩
    subst hr2
    clear hr hn
    go_enter Tryz.func110, Tryz.ntmps110
    go_wp2
    go_ret
    exact ⟨ret_bool (by simp [*]), Below.refl _ _⟩
set_option maxRecDepth 100000 in
theorem r3_any (h : w.heap[g]? = some (.cells (prA p f i) 120 (0, 0))) (r : Bool) (hr : decide (p.st ≠ 2) = r) : Calls Tryz.prog 111 #[.pointer (some ⟨g, 0, none⟩)] w fun e w' => e = .returned (.bool r) ∧ Below w.heap.size w w' := by
  have u0 := pr_p0 h
  have hr2 : ((p.st : Int) != 2) = r := by rw [← hr, Bool.eq_iff_iff, bne_iff_ne, decide_eq_true_eq]; omega
  subst hr2
  clear hr
  go_enter Tryz.func111, Tryz.ntmps111
  go_wp2
  go_ret
  exact ⟨rfl, Below.refl _ _⟩
set_option maxRecDepth 100000 in
theorem r5_any (w : World) : Calls Tryz.prog 113 #[] w fun e w' => e = .returned (.bool true) ∧ Below w.heap.size w w' := by
  go_enter Tryz.func113, Tryz.ntmps113
  go_wp2
  go_ret
  exact ⟨rfl, Below.refl _ _⟩
set_option maxRecDepth 100000 in
theorem r4_any (h : w.heap[g]? = some (.cells (prA p f i) 120 (0, 0))) (b : Bool) (hb : badS f = b) : Calls Tryz.prog 112 #[.pointer (some ⟨g, 0, none⟩)] w fun e w' => e = .returned (.tuple #[.int .u8 (if b = true then 1 else 0), .int .u8 (if b = true then 1 else 1)]) ∧ Below w.heap.size w w' := by
  have hba := fun w => bad_any2 (p := p) (f := f) (i := i) _ hb w
  clear hb
  cases b
  all_goals
    go_enter Tryz.func112, Tryz.ntmps112
    go_wp2_with (first
      | ((with_reducible refine wpList_ldB 120 _ ?_); refine ⟨rfl, _, ⟨_, _, _, _, _, Tryz.isAgg120, Tryz.sizeOf120, rfl, ‹_›, arr_all rfl⟩, ?_⟩)
      | (go_at_call 85; refine (hba _).mono ?_; rintro e w2 ⟨rfl, hb2⟩))
    go_ret2
    exact ⟨rfl, hb2⟩
set_option maxRecDepth 100000 in
theorem r6_any (h : w.heap[g]? = some (.cells (prA p f i) 120 (0, 0))) (b : Bool) (hb : badS f = b) : Calls Tryz.prog 114 #[.pointer (some ⟨g, 0, none⟩)] w fun e w' => e = .returned (.tuple #[.int .u8 (if b = true then 2 else 0), .int .u8 (if b = true then 4 else 1)]) ∧ Below w.heap.size w w' := by
  have hba := fun w => bad_any2 (p := p) (f := f) (i := i) _ hb w
  clear hb
  cases b
  all_goals
    go_enter Tryz.func114, Tryz.ntmps114
    go_wp2_with (first
      | ((with_reducible refine wpList_ldB 120 _ ?_); refine ⟨rfl, _, ⟨_, _, _, _, _, Tryz.isAgg120, Tryz.sizeOf120, rfl, ‹_›, arr_all rfl⟩, ?_⟩)
      | (go_at_call 85; refine (hba _).mono ?_; rintro e w2 ⟨rfl, hb2⟩))
    go_ret2
    exact ⟨rfl, hb2⟩
end
end Go.Proofs.YtknchbhobopkeaaGreatDoor
namespace Go.Proofs.YtknchbhobopkeaaGreatDoor
open Go.RowKit
section
variable {w : World} {p : SRec} {f : Nat → SCp} {i : Int} {g : Nat}
theorem ru_over (p : SRec) (f : Nat → SCp) (i : Int) (g q1 q2 : Nat) : 0 + 8 ≤ (#[.nilFunc, .nilFunc, .nilFunc, .nilFunc, .nilFunc, .nilFunc, .nilFunc, .nilFunc] : Array Value).size ∧ (Value.agg (ruA p f i g q1 q2)).cells.size = 8 ∧ (∀ u ∈ (Value.agg (ruA p f i g q1 q2)).cells.toList, u.oneCell' = true) ∧ ((#[.nilFunc, .nilFunc, .nilFunc, .nilFunc, .nilFunc, .nilFunc, .nilFunc, .nilFunc] : Array Value).toList.take 0 ++ (Value.agg (ruA p f i g q1 q2)).cells.toList ++ (#[.nilFunc, .nilFunc, .nilFunc, .nilFunc, .nilFunc, .nilFunc, .nilFunc, .nilFunc] : Array Value).toList.drop (0 + 8)).toArray = ruA p f i g q1 q2 :=
  ⟨by show _ ≤ 8; omega, rfl, by simp [Value.cells, ruA, r2V, isV, byV, r3V, r4V, r5V, r6V, Value.oneCell'], rfl⟩
def RuRes (p : SRec) (f : Nat → SCp) (i : Int) (w : World) (e : Ending) (w' : World) : Prop :=
  ∃ g q1 q2, e = .returned (.agg (ruA p f i g q1 q2)) ∧ w'.heap[g]? = some (.cells (prA p f i) 120 (0, 0)) ∧ w'.cell? ⟨q1, 0, none⟩ = some (.int .u8 2) ∧ w'.cell? ⟨q1 + 1, 0, none⟩ = some (.int .u8 3) ∧ w'.cell? ⟨q2, 0, none⟩ = some (.int .u8 2) ∧ w'.cell? ⟨q2 + 1, 0, none⟩ = some (.int .u8 4) ∧ Below w.heap.size w w'
set_option maxRecDepth 100000 in
set_option maxHeartbeats 1000000 in
theorem rules_any (w : World) : Calls Tryz.prog 93 #[.agg (prA p f i)] w (RuRes p f i w) := by
  have hbp := blw w (Obj.cells (prA p f i) 120)
  have hb0 := hbp.trans ((blw (w.alloc (Obj.cells (prA p f i) 120)) (Obj.cells #[.nilFunc, .nilFunc, .nilFunc, .nilFunc, .nilFunc, .nilFunc, .nilFunc, .nilFunc] 164)).mono hbp.size)
  have X : ((w.alloc (Obj.cells (prA p f i) 120)).alloc (Obj.cells #[.nilFunc, .nilFunc, .nilFunc, .nilFunc, .nilFunc, .nilFunc, .nilFunc, .nilFunc] 164)).heap[w.heap.size]? = some (.cells (prA p f i) 120 (0, 0)) := tr_al (Obj.cells #[.nilFunc, .nilFunc, .nilFunc, .nilFunc, .nilFunc, .nilFunc, .nilFunc, .nilFunc] 164) (heap_alloc_new w (Obj.cells (prA p f i) 120))
  have Y : ((w.alloc (Obj.cells (prA p f i) 120)).alloc (Obj.cells #[.nilFunc, .nilFunc, .nilFunc, .nilFunc, .nilFunc, .nilFunc, .nilFunc, .nilFunc] 164)).heap[w.heap.size + 1]? = some (Obj.cells #[.nilFunc, .nilFunc, .nilFunc, .nilFunc, .nilFunc, .nilFunc, .nilFunc, .nilFunc] 164) := by
    have := heap_alloc_new (w.alloc (Obj.cells (prA p f i) 120)) (Obj.cells #[.nilFunc, .nilFunc, .nilFunc, .nilFunc, .nilFunc, .nilFunc, .nilFunc, .nilFunc] 164)
    rwa [show (w.alloc (Obj.cells (prA p f i) 120)).heap.size = w.heap.size + 1 by simp] at this
  go_enter Tryz.func93, Tryz.ntmps93
  refine wp_seq_k (fun K hK => ?_)
  have HK := Lib.hid hK
  clear hK
  go_wp2
  refine HK.out _ _ ?_
  clear HK
  have hn : w.heap.size < w.heap.size + 1 := by omega
  generalize (w.alloc (Obj.cells (prA p f i) 120)).alloc (Obj.cells #[.nilFunc, .nilFunc, .nilFunc, .nilFunc, .nilFunc, .nilFunc, .nilFunc, .nilFunc] 164) = w1 at *
  generalize w.heap.size + 1 = y at *
  clear hbp
  refine wp_seq_k (fun K hK => ?_)
  have HK := Lib.hid hK
  clear hK
  go_wp2
  refine HK.out _ _ ?_
  clear HK
  refine wp_seq_k (fun K hK => ?_)
  have HK := Lib.hid hK
  clear hK
  go_wp2_with fail
  have hbd := (Below.refl w1.heap.size w1).drew
  have X1 := tr_bl hbd X
  have Y1 := tr_bl hbd Y
  have hb1 := hb0.trans (hbd.mono hb0.size)
  clear hb0 X Y hbd
  refine wp_region_held_drew (S := fun w' => w'.heap[w.heap.size]? = some (.cells (prA p f i) 120 (0, 0))) (by kernel_rfl) X1 (fun hS0 => ?_)
  generalize w1.drew = x0 at *
  refine wpAnyH_take (i := 0) (oi := ⟨_, _, _, _, _, _⟩) (v := r2V w.heap.size) rfl (by kernel_rfl) (by kernel_rfl) (by kernel_rfl) (fun _ _ _ h => h) (Or.inl ⟨by rfl, fun wS hSw => ?_⟩) (by assumption) ?_
  · kernel_rfl
  (try simp only [Act.put]); (try simp only [List.setIfInBounds_toArray]); (try simp only [List.set_cons_succ]); (try simp only [List.set_cons_zero])
  refine wpAnyH_take (i := 1) (oi := ⟨_, _, _, _, _, _⟩) (v := ?_) rfl (by kernel_rfl) (by kernel_rfl) (by kernel_rfl) (fun _ _ _ h => h) (Or.inl ⟨by rfl, ?_⟩) (by assumption) ?_
  rotate_left
  · intro wS hSw; go_simp; (try with_reducible rfl)
  (try simp only [Act.put]); (try simp only [List.setIfInBounds_toArray]); (try simp only [List.set_cons_succ]); (try simp only [List.set_cons_zero])
  refine wpAnyH_take (i := 4) (oi := ⟨_, _, _, _, _, _⟩) (v := .agg (prA p f i)) rfl (by kernel_rfl) (by kernel_rfl) (by kernel_rfl) (fun _ _ _ h => h) (Or.inl ⟨by rfl, fun wS hSw => ?_⟩) (by assumption) ?_
  · exact exec_ldB 120 _ ⟨_, _, _, _, _, Tryz.isAgg120, Tryz.sizeOf120, rfl, hSw, arr_all rfl⟩
  (try simp only [Act.put]); (try simp only [List.setIfInBounds_toArray]); (try simp only [List.set_cons_succ]); (try simp only [List.set_cons_zero])
  refine wpAnyH_take (i := 5) (oi := ⟨_, _, _, _, _, _⟩) (v := byV p f i) rfl (by kernel_rfl) (by kernel_rfl) (by kernel_rfl) (fun _ _ _ h => h) (Or.inl ⟨by rfl, fun wS hSw => ?_⟩) (by assumption) ?_
  · kernel_rfl
  (try simp only [Act.put]); (try simp only [List.setIfInBounds_toArray]); (try simp only [List.set_cons_succ]); (try simp only [List.set_cons_zero])
  refine wpAnyH_take (i := 6) (oi := ⟨_, _, _, _, _, _⟩) (v := ?_) rfl (by kernel_rfl) (by kernel_rfl) (by kernel_rfl) (fun _ _ _ h => h) (Or.inl ⟨by rfl, ?_⟩) (by assumption) ?_
  rotate_left
  · intro wS hSw; go_simp; (try with_reducible rfl)
  (try simp only [Act.put]); (try simp only [List.setIfInBounds_toArray]); (try simp only [List.set_cons_succ]); (try simp only [List.set_cons_zero])
  refine wpAnyH_take (i := 9) (oi := ⟨_, _, _, _, _, _⟩) (v := r3V w.heap.size) rfl (by kernel_rfl) (by kernel_rfl) (by kernel_rfl) (fun _ _ _ h => h) (Or.inl ⟨by rfl, fun wS hSw => ?_⟩) (by assumption) ?_
  · kernel_rfl
  (try simp only [Act.put]); (try simp only [List.setIfInBounds_toArray]); (try simp only [List.set_cons_succ]); (try simp only [List.set_cons_zero])
  refine wpAnyH_take (i := 10) (oi := ⟨_, _, _, _, _, _⟩) (v := r4V w.heap.size) rfl (by kernel_rfl) (by kernel_rfl) (by kernel_rfl) (fun _ _ _ h => h) (Or.inl ⟨by rfl, fun wS hSw => ?_⟩) (by assumption) ?_
  · kernel_rfl
  (try simp only [Act.put]); (try simp only [List.setIfInBounds_toArray]); (try simp only [List.set_cons_succ]); (try simp only [List.set_cons_zero])
  refine wpAnyH_take (i := 11) (oi := ⟨_, _, _, _, _, _⟩) (v := .agg #[r3V w.heap.size, r4V w.heap.size]) rfl (by kernel_rfl) (by kernel_rfl) (by kernel_rfl) (fun _ _ _ h => h) (Or.inl ⟨by rfl, fun wS hSw => ?_⟩) (by assumption) ?_
  · kernel_rfl
  (try simp only [Act.put]); (try simp only [List.setIfInBounds_toArray]); (try simp only [List.set_cons_succ]); (try simp only [List.set_cons_zero])
  refine wpAnyH_take (i := 12) (oi := ⟨_, _, _, _, _, _⟩) (v := r6V w.heap.size) rfl (by kernel_rfl) (by kernel_rfl) (by kernel_rfl) (fun _ _ _ h => h) (Or.inl ⟨by rfl, fun wS hSw => ?_⟩) (by assumption) ?_
  · kernel_rfl
  (try simp only [Act.put]); (try simp only [List.setIfInBounds_toArray]); (try simp only [List.set_cons_succ]); (try simp only [List.set_cons_zero])
  refine wpAnyH_take (i := 13) (oi := ⟨_, _, _, _, _, _⟩) (v := .agg #[r5V, r6V w.heap.size]) rfl (by kernel_rfl) (by kernel_rfl) (by kernel_rfl) (fun _ _ _ h => h) (Or.inl ⟨by rfl, fun wS hSw => ?_⟩) (by assumption) ?_
  · kernel_rfl
  (try simp only [Act.put]); (try simp only [List.setIfInBounds_toArray]); (try simp only [List.set_cons_succ]); (try simp only [List.set_cons_zero])
  refine wpAnyH_ready (rs := [2]) (by kernel_rfl) (by simp) ?_
  refine AllReadyH.cons (o := ⟨_, _, _, _, _, _⟩) rfl (fun K' hK' => ?_) AllReadyH.nil
  refine (if_pos (by rfl)).mpr ?_
  go_simp
  refine (isr_any 2 3 _).mono ?_
  rintro e w4 ⟨⟨q1, rfl, hq1, a0, a1⟩, hb4⟩
  have X4 := tr_bl hb4 X1
  have Y4 := tr_bl hb4 Y1
  have hb5 := hb1.trans (hb4.mono hb1.size)
  refine hK'.out _ _ X4 (fun _ => ?_)
  have hy0 := lt_blk Y1
  clear hK' hS0 X1 Y1 hb1 hb4
  (try simp only [Act.put]); (try simp only [List.setIfInBounds_toArray]); (try simp only [List.set_cons_succ]); (try simp only [List.set_cons_zero])
  refine wpAnyH_take (i := 3) (oi := ⟨_, _, _, _, _, _⟩) (v := .agg #[r2V w.heap.size, isV q1]) rfl (by kernel_rfl) (by kernel_rfl) (by kernel_rfl) (fun _ _ _ h => h) (Or.inl ⟨by rfl, fun wS hSw => ?_⟩) (by assumption) ?_
  · kernel_rfl
  (try simp only [Act.put]); (try simp only [List.setIfInBounds_toArray]); (try simp only [List.set_cons_succ]); (try simp only [List.set_cons_zero])
  refine wpAnyH_ready (rs := [7]) (by kernel_rfl) (by simp) ?_
  refine AllReadyH.cons (o := ⟨_, _, _, _, _, _⟩) rfl (fun K' hK' => ?_) AllReadyH.nil
  refine (if_pos (by rfl)).mpr ?_
  go_simp
  refine (isr_any 2 4 _).mono ?_
  rintro e w6 ⟨⟨q2, rfl, hq2, b0, b1⟩, hb6⟩
  have X6 := tr_bl hb6 X4
  have Y6 := tr_bl hb6 Y4
  have hb7 := hb5.trans (hb6.mono hb5.size)
  have a06 := (hb6.cell (World.block_lt_of_cell? _ _ a0)).trans a0
  have a16 := (hb6.cell (World.block_lt_of_cell? _ _ a1)).trans a1
  have hy4 := lt_blk Y4
  have hyx := lt_blk Y6
  refine hK'.out _ _ X6 (fun _ => ?_)
  clear hK' X4 hb5 hb6 a0 a1
  (try simp only [Act.put]); (try simp only [List.setIfInBounds_toArray]); (try simp only [List.set_cons_succ]); (try simp only [List.set_cons_zero])
  refine wpAnyH_take (i := 8) (oi := ⟨_, _, _, _, _, _⟩) (v := .agg #[byV p f i, isV q2]) rfl (by kernel_rfl) (by kernel_rfl) (by kernel_rfl) (fun _ _ _ h => h) (Or.inl ⟨by rfl, fun wS hSw => ?_⟩) (by assumption) ?_
  · kernel_rfl
  (try simp only [Act.put]); (try simp only [List.setIfInBounds_toArray]); (try simp only [List.set_cons_succ]); (try simp only [List.set_cons_zero])
  refine wpAnyH_take (i := 14) (oi := ⟨_, _, _, _, _, _⟩) (v := .agg (ruA p f i w.heap.size q1 q2)) rfl (by kernel_rfl) (by kernel_rfl) (by kernel_rfl) (fun _ _ _ h => h) (Or.inl ⟨by rfl, fun wS hSw => ?_⟩) (by assumption) ?_
  · kernel_rfl
  (try simp only [Act.put]); (try simp only [List.setIfInBounds_toArray]); (try simp only [List.set_cons_succ]); (try simp only [List.set_cons_zero])
  refine wpAnyH_ready (rs := [15]) (by kernel_rfl) (by simp) ?_
  refine AllReadyH.cons (o := ⟨_, _, _, _, _, _⟩) rfl (fun K' hK' => ?_) AllReadyH.nil
  refine (if_pos (by rfl)).mpr ?_
  refine wp_stB 164 _ _ ?_
  refine ⟨_, _, _, ⟨_, _, _, Tryz.sizeOf164, rfl, Y6, ru_over p f i w.heap.size q1 q2⟩, ?_⟩
  intro w8 Y8 g8
  refine hK'.out _ _ (tr_st g8 X6 (by omega)) (fun _ => ?_)
  clear hK'
  refine wpAnyH_done (by kernel_rfl) ?_ _
  refine HK.out _ _ ?_
  clear HK
  go_wp2
  have hq1y : y ≠ q1 := by omega
  refine bodyPost_ret (results_c1 rfl rfl (run_loadVar_all Tryz.isAgg164 Tryz.sizeOf164 Y8 rfl)) rfl ⟨w.heap.size, q1, q2, rfl, tr_st g8 X6 (by omega), cell_st g8 a06 hq1y, cell_st g8 a16 (by omega), cell_st g8 b0 (by omega), cell_st g8 b1 (by omega), bls hb7 (Nat.le_refl _) g8 (by omega)⟩
end
end Go.Proofs.YtknchbhobopkeaaGreatDoor
namespace Go.Proofs.YtknchbhobopkeaaGreatDoor
open Go.RowKit
def rpA (i st : Int) (b : Bal) (e : En) : Array Value := #[.int .i64 i, .int .u8 st, .int .i64 b.rnd, .int .i64 b.rep, .int .u8 e.kind, .int .i64 e.cli, .int .i64 e.seq, .int .u8 e.op.kind, .string e.op.key, .string e.op.old, .string e.op.val]
def zeroL : Bal := ⟨0, 0⟩
theorem pr_new (p : SRec) (f : Nat → SCp) (i : Int) : (Value.agg (prA p f i)).cells = prA p f i ∧ (prA p f i).size = 28 ∧ ∀ u ∈ (prA p f i).toList, u.oneCell' = true := ⟨rfl, rfl, by simp [prA, Value.oneCell']⟩
theorem rp_over (i st : Int) (b : Bal) (e : En) (i' st' : Int) (b' : Bal) (e' : En) : 0 + 11 ≤ (rpA i st b e).size ∧ (Value.agg (rpA i' st' b' e')).cells.size = 11 ∧ (∀ u ∈ (Value.agg (rpA i' st' b' e')).cells.toList, u.oneCell' = true) ∧ ((rpA i st b e).toList.take 0 ++ (Value.agg (rpA i' st' b' e')).cells.toList ++ (rpA i st b e).toList.drop (0 + 11)).toArray = rpA i' st' b' e' :=
  ⟨by show _ ≤ 11; omega, rfl, by simp [Value.cells, rpA, Value.oneCell'], rfl⟩
theorem ff_balA (f : Nat → SCp) : 2 + 2 ≤ (ffA f).size ∧ (ffA f).extract 2 (2 + 2) = blA (f 0).bal := ⟨by show _ ≤ 22; omega, rfl⟩
theorem ff_balB (f : Nat → SCp) : 13 + 2 ≤ (ffA f).size ∧ (ffA f).extract 13 (13 + 2) = blA (f 1).bal := ⟨by show _ ≤ 22; omega, rfl⟩
theorem ff_enA (f : Nat → SCp) : 4 + 7 ≤ (ffA f).size ∧ (ffA f).extract 4 (4 + 7) = enA (f 0).e := ⟨by show _ ≤ 22; omega, by apply Array.ext'; rw [Array.toList_extract]; rfl⟩
theorem ff_enB (f : Nat → SCp) : 15 + 7 ≤ (ffA f).size ∧ (ffA f).extract 15 (15 + 7) = enA (f 1).e := ⟨by show _ ≤ 22; omega, by apply Array.ext'; rw [Array.toList_extract]; rfl⟩
theorem results_t1c1t1' {P : Program} {fn : Func} {p t q r : Nat} {tmps : Array Value} {w : World} {A : Addr} {v : Value} (hf : fn.results = #[.tmp q, .cell p t, .tmp r]) (hp : tmps.getD p undef = .pointer (some A)) (hl : (loadVar t A).run P w = .ok v w) : (results fn tmps).run P w = .ok (.tuple #[tmps.getD q undef, v, tmps.getD r undef]) w := by
  have hp' : tmps[p]?.getD undef = .pointer (some A) := by simpa using hp
  simp [results, hf, hp', asAddr, hl]
section
variable {w : World} {p : SRec} {f : Nat → SCp} {i : Int} {g : Nat}
set_option maxRecDepth 100000 in
set_option maxHeartbeats 1000000 in
theorem what_some (hw : p.wh = 0 ∨ p.wh = 1) (k : Nat) (hk : intactS p f i = some k) (w : World) : Calls Tryz.prog 68 #[.agg (recA p), .agg (ffA f), .int .i64 i] w fun e w' => e = .returned (.tuple #[.int .u8 3, .agg (rpA i 2 (f k).bal (f k).e), .int .i64 (k : Int)]) ∧ Below w.heap.size w w' := by
  have hin := fun w => intact_any2 hw _ hk w
  have hk2 := intact_lt hk
  clear hk hw
  rcases (show k = 0 ∨ k = 1 by omega) with rfl | rfl
  · skip
    go_enter Tryz.func68, Tryz.ntmps68
    refine wp_seq_k (fun K hK => ?_)
    have HK := Lib.hid hK
    clear hK
    go_wp2
    refine HK.out _ _ ?_
    clear HK
    have hbp := blw w (Obj.cells (recA p) 79)
    have hbq := hbp.trans ((blw (w.alloc (Obj.cells (recA p) 79)) (Obj.cells (ffA f) 82)).mono hbp.size)
    have hb1 := hbq.trans ((blw ((w.alloc (Obj.cells (recA p) 79)).alloc (Obj.cells (ffA f) 82)) (Obj.cells #[.int .i64 0, .int .u8 0, .int .i64 0, .int .i64 0, .int .u8 0, .int .i64 0, .int .i64 0, .int .u8 0, .string ⟨#[]⟩, .string ⟨#[]⟩, .string ⟨#[]⟩] 44)).mono hbq.size)
    have e1 : (w.alloc (Obj.cells (recA p) 79)).heap.size = w.heap.size + 1 := by simp
    have e2 : ((w.alloc (Obj.cells (recA p) 79)).alloc (Obj.cells (ffA f) 82)).heap.size = w.heap.size + 1 + 1 := by simp
    have P1 : (((w.alloc (Obj.cells (recA p) 79)).alloc (Obj.cells (ffA f) 82)).alloc (Obj.cells #[.int .i64 0, .int .u8 0, .int .i64 0, .int .i64 0, .int .u8 0, .int .i64 0, .int .i64 0, .int .u8 0, .string ⟨#[]⟩, .string ⟨#[]⟩, .string ⟨#[]⟩] 44)).heap[w.heap.size]? = some (.cells (recA p) 79 (0, 0)) := tr_al (Obj.cells #[.int .i64 0, .int .u8 0, .int .i64 0, .int .i64 0, .int .u8 0, .int .i64 0, .int .i64 0, .int .u8 0, .string ⟨#[]⟩, .string ⟨#[]⟩, .string ⟨#[]⟩] 44) (tr_al (Obj.cells (ffA f) 82) (heap_alloc_new w (Obj.cells (recA p) 79)))
    have F1 : (((w.alloc (Obj.cells (recA p) 79)).alloc (Obj.cells (ffA f) 82)).alloc (Obj.cells #[.int .i64 0, .int .u8 0, .int .i64 0, .int .i64 0, .int .u8 0, .int .i64 0, .int .i64 0, .int .u8 0, .string ⟨#[]⟩, .string ⟨#[]⟩, .string ⟨#[]⟩] 44)).heap[w.heap.size + 1]? = some (.cells (ffA f) 82 (0, 0)) := tr_al (Obj.cells #[.int .i64 0, .int .u8 0, .int .i64 0, .int .i64 0, .int .u8 0, .int .i64 0, .int .i64 0, .int .u8 0, .string ⟨#[]⟩, .string ⟨#[]⟩, .string ⟨#[]⟩] 44) (e1 ▸ heap_alloc_new (w.alloc (Obj.cells (recA p) 79)) (Obj.cells (ffA f) 82))
    have R1 : (((w.alloc (Obj.cells (recA p) 79)).alloc (Obj.cells (ffA f) 82)).alloc (Obj.cells #[.int .i64 0, .int .u8 0, .int .i64 0, .int .i64 0, .int .u8 0, .int .i64 0, .int .i64 0, .int .u8 0, .string ⟨#[]⟩, .string ⟨#[]⟩, .string ⟨#[]⟩] 44)).heap[w.heap.size + 1 + 1]? = some (.cells (rpA 0 0 zeroL (zeroE 0)) 44 (0, 0)) := e2 ▸ heap_alloc_new ((w.alloc (Obj.cells (recA p) 79)).alloc (Obj.cells (ffA f) 82)) (Obj.cells #[.int .i64 0, .int .u8 0, .int .i64 0, .int .i64 0, .int .u8 0, .int .i64 0, .int .i64 0, .int .u8 0, .string ⟨#[]⟩, .string ⟨#[]⟩, .string ⟨#[]⟩] 44)
    have hn1 : w.heap.size < w.heap.size + 1 := by omega
    have hn2 : w.heap.size + 1 < w.heap.size + 1 + 1 := by omega
    clear hbp hbq e1 e2
    generalize ((w.alloc (Obj.cells (recA p) 79)).alloc (Obj.cells (ffA f) 82)).alloc (Obj.cells #[.int .i64 0, .int .u8 0, .int .i64 0, .int .i64 0, .int .u8 0, .int .i64 0, .int .i64 0, .int .u8 0, .string ⟨#[]⟩, .string ⟨#[]⟩, .string ⟨#[]⟩] 44) = w1 at *
    generalize w.heap.size + 1 + 1 = rb at *
    generalize w.heap.size + 1 = fb at *
    refine wp_seq_k (fun K hK => ?_)
    have HK := Lib.hid hK
    clear hK
    go_wp2_with (first
      | ((with_reducible refine wpList_ldB 79 _ ?_); refine ⟨rfl, _, ⟨_, _, _, _, _, Tryz.isAgg79, Tryz.sizeOf79, rfl, ‹_›, arr_all rfl⟩, ?_⟩)
      | ((with_reducible refine wpList_ldB 82 _ ?_); refine ⟨rfl, _, ⟨_, _, _, _, _, Tryz.isAgg82, Tryz.sizeOf82, rfl, ‹_›, arr_all rfl⟩, ?_⟩)
      | (with_reducible refine wpList_bpr (p := p) (f := f) (i := i) _ _ _ (by simp [Act.eval]) (by simp [Act.eval]) (by simp [Act.eval]) ?_)
      | ((first | (with_reducible refine wpList_stNew 120 _ _ ?_) | (with_reducible refine wp_stNew 120 _ _ ?_)); refine ⟨_, _, ⟨Tryz.sizeOf120, rfl, pr_new _ _ _⟩, rfl, ?_⟩))
    refine HK.out _ _ ?_
    clear HK
    have hbx := blw w1 (Obj.cells (prA p f i) 120)
    have X2 := heap_alloc_new w1 (Obj.cells (prA p f i) 120)
    have P2 := tr_bl hbx P1
    have F2 := tr_bl hbx F1
    have R2 := tr_bl hbx R1
    have hb2 := hb1.trans (hbx.mono hb1.size)
    have hr1 := lt_blk R1
    clear hb1 P1 F1 R1 hbx
    generalize w1.alloc (Obj.cells (prA p f i) 120) = w2 at *
    generalize w1.heap.size = xb at *
    refine wp_seq_k (fun K hK => ?_)
    have HK := Lib.hid hK
    clear hK
    refine wp_seq_k (fun K hK => ?_)
    have HK := Lib.hid hK
    clear hK
    go_wp2_with (first
      | ((with_reducible refine wpList_ldB 120 _ ?_); refine ⟨rfl, _, ⟨_, _, _, _, _, Tryz.isAgg120, Tryz.sizeOf120, rfl, ‹_›, arr_all rfl⟩, ?_⟩)
      | (go_at_call 60; refine (hin _).mono ?_; rintro e w3 ⟨rfl, hb3⟩))
    refine HK.out _ _ ?_
    clear HK
    have P3 := tr_bl hb3 P2
    have F3 := tr_bl hb3 F2
    have R3 := tr_bl hb3 R2
    have X3 := tr_bl hb3 X2
    have hb4 := hb2.trans (hb3.mono hb2.size)
    clear hb2 hb3 P2 F2 R2 X2 hin
    rw [show outV (some 0) = .int .i64 0 from rfl]
    go_wp2_with fail
    have hbd := (Below.refl w3.heap.size w3).drew
    have F4 := tr_bl hbd F3
    have R4 := tr_bl hbd R3
    have hb5 := hb4.trans (hbd.mono hb4.size)
    clear hb4 F3 R3 X3 P3 hbd
    refine wp_region_held_drew (S := fun w' => w'.heap[fb]? = some (.cells (ffA f) 82 (0, 0))) (by kernel_rfl) F4 (fun hS0 => ?_)
    generalize w3.drew = x0 at *
    refine wpAnyH_take (i := 0) (oi := ⟨_, _, _, _, _, _⟩) (v := ?_) rfl (by kernel_rfl) (by kernel_rfl) (by kernel_rfl) (fun _ _ _ h => h) (Or.inl ⟨by rfl, ?_⟩) (by assumption) ?_
    rotate_left
    · intro wS hSw; go_simp; (try with_reducible rfl)
    (try simp only [Act.put]); (try simp only [List.setIfInBounds_toArray]); (try simp only [List.set_cons_succ]); (try simp only [List.set_cons_zero])
    refine wpAnyH_take (i := 1) (oi := ⟨_, _, _, _, _, _⟩) (v := ?_) rfl (by kernel_rfl) (by kernel_rfl) (by kernel_rfl) (fun _ _ _ h => h) (Or.inl ⟨by rfl, ?_⟩) (by assumption) ?_
    rotate_left
    · intro wS hSw; go_simp; (try with_reducible rfl)
    (try simp only [Act.put]); (try simp only [List.setIfInBounds_toArray]); (try simp only [List.set_cons_succ]); (try simp only [List.set_cons_zero])
    refine wpAnyH_take (i := 2) (oi := ⟨_, _, _, _, _, _⟩) (v := .pointer (some ⟨fb, 0, none⟩)) rfl (by kernel_rfl) (by kernel_rfl) (by kernel_rfl) (fun _ _ _ h => h) (Or.inl ⟨by rfl, fun wS hSw => ?_⟩) (by assumption) ?_
    · go_simp; (try rfl)
    (try simp only [Act.put]); (try simp only [List.setIfInBounds_toArray]); (try simp only [List.set_cons_succ]); (try simp only [List.set_cons_zero])
    refine wpAnyH_take (i := 3) (oi := ⟨_, _, _, _, _, _⟩) (v := .pointer (some ⟨fb, 0 + 2, none⟩)) rfl (by kernel_rfl) (by kernel_rfl) (by kernel_rfl) (fun _ _ _ h => h) (Or.inl ⟨by rfl, fun wS hSw => ?_⟩) (by assumption) ?_
    · go_simp; (try rfl)
    (try simp only [Act.put]); (try simp only [List.setIfInBounds_toArray]); (try simp only [List.set_cons_succ]); (try simp only [List.set_cons_zero])
    refine wpAnyH_take (i := 4) (oi := ⟨_, _, _, _, _, _⟩) (v := .agg (blA (f 0).bal)) rfl (by kernel_rfl) (by kernel_rfl) (by kernel_rfl) (fun _ _ _ h => h) (Or.inl ⟨by rfl, fun wS hSw => ?_⟩) (by assumption) ?_
    · exact exec_ldB 32 _ ⟨_, _, _, _, _, Tryz.isAgg32, Tryz.sizeOf32, rfl, hSw, ff_balA f⟩
    (try simp only [Act.put]); (try simp only [List.setIfInBounds_toArray]); (try simp only [List.set_cons_succ]); (try simp only [List.set_cons_zero])
    refine wpAnyH_take (i := 5) (oi := ⟨_, _, _, _, _, _⟩) (v := ?_) rfl (by kernel_rfl) (by kernel_rfl) (by kernel_rfl) (fun _ _ _ h => h) (Or.inl ⟨by rfl, ?_⟩) (by assumption) ?_
    rotate_left
    · intro wS hSw; go_simp; (try with_reducible rfl)
    (try simp only [Act.put]); (try simp only [List.setIfInBounds_toArray]); (try simp only [List.set_cons_succ]); (try simp only [List.set_cons_zero])
    refine wpAnyH_take (i := 6) (oi := ⟨_, _, _, _, _, _⟩) (v := .pointer (some ⟨fb, 0, none⟩)) rfl (by kernel_rfl) (by kernel_rfl) (by kernel_rfl) (fun _ _ _ h => h) (Or.inl ⟨by rfl, fun wS hSw => ?_⟩) (by assumption) ?_
    · go_simp; (try rfl)
    (try simp only [Act.put]); (try simp only [List.setIfInBounds_toArray]); (try simp only [List.set_cons_succ]); (try simp only [List.set_cons_zero])
    refine wpAnyH_take (i := 7) (oi := ⟨_, _, _, _, _, _⟩) (v := .pointer (some ⟨fb, 0 + 4, none⟩)) rfl (by kernel_rfl) (by kernel_rfl) (by kernel_rfl) (fun _ _ _ h => h) (Or.inl ⟨by rfl, fun wS hSw => ?_⟩) (by assumption) ?_
    · go_simp; (try rfl)
    (try simp only [Act.put]); (try simp only [List.setIfInBounds_toArray]); (try simp only [List.set_cons_succ]); (try simp only [List.set_cons_zero])
    refine wpAnyH_take (i := 8) (oi := ⟨_, _, _, _, _, _⟩) (v := .agg (enA (f 0).e)) rfl (by kernel_rfl) (by kernel_rfl) (by kernel_rfl) (fun _ _ _ h => h) (Or.inl ⟨by rfl, fun wS hSw => ?_⟩) (by assumption) ?_
    · exact exec_ldB 36 _ ⟨_, _, _, _, _, Tryz.isAgg36, Tryz.sizeOf36, rfl, hSw, ff_enA f⟩
    (try simp only [Act.put]); (try simp only [List.setIfInBounds_toArray]); (try simp only [List.set_cons_succ]); (try simp only [List.set_cons_zero])
    refine wpAnyH_take (i := 9) (oi := ⟨_, _, _, _, _, _⟩) (v := .agg (rpA i 2 (f 0).bal (f 0).e)) rfl (by kernel_rfl) (by kernel_rfl) (by kernel_rfl) (fun _ _ _ h => h) (Or.inl ⟨by rfl, fun wS hSw => ?_⟩) (by assumption) ?_
    · kernel_rfl
    (try simp only [Act.put]); (try simp only [List.setIfInBounds_toArray]); (try simp only [List.set_cons_succ]); (try simp only [List.set_cons_zero])
    refine wpAnyH_take (i := 10) (oi := ⟨_, _, _, _, _, _⟩) (v := ?_) rfl (by kernel_rfl) (by kernel_rfl) (by kernel_rfl) (fun _ _ _ h => h) (Or.inl ⟨by rfl, ?_⟩) (by assumption) ?_
    rotate_left
    · intro wS hSw; go_simp; (try with_reducible rfl)
    (try simp only [Act.put]); (try simp only [List.setIfInBounds_toArray]); (try simp only [List.set_cons_succ]); (try simp only [List.set_cons_zero])
    refine wpAnyH_take (i := 11) (oi := ⟨_, _, _, _, _, _⟩) (v := ?_) rfl (by kernel_rfl) (by kernel_rfl) (by kernel_rfl) (fun _ _ _ h => h) (Or.inl ⟨by rfl, ?_⟩) (by assumption) ?_
    rotate_left
    · intro wS hSw; go_simp; (try with_reducible rfl)
    (try simp only [Act.put]); (try simp only [List.setIfInBounds_toArray]); (try simp only [List.set_cons_succ]); (try simp only [List.set_cons_zero])
    refine wpAnyH_ready (rs := [12]) (by kernel_rfl) (by simp) ?_
    refine AllReadyH.cons (o := ⟨_, _, _, _, _, _⟩) rfl (fun K' hK' => ?_) AllReadyH.nil
    refine (if_pos (by rfl)).mpr ?_
    refine wp_stB 44 _ _ ?_
    refine ⟨_, _, _, ⟨_, _, _, Tryz.sizeOf44, rfl, R4, rp_over _ _ _ _ i 2 (f 0).bal (f 0).e⟩, ?_⟩
    intro w8 R8 g8
    refine hK'.out _ _ (tr_st g8 F4 (by omega)) (fun _ => ?_)
    clear hK'
    (try simp only [Act.put]); (try simp only [List.setIfInBounds_toArray]); (try simp only [List.set_cons_succ]); (try simp only [List.set_cons_zero])
    refine wpAnyH_take (i := 13) (oi := ⟨_, _, _, _, _, _⟩) (v := ?_) rfl (by kernel_rfl) (by kernel_rfl) (by kernel_rfl) (fun _ _ _ h => h) (Or.inl ⟨by rfl, ?_⟩) (by assumption) ?_
    rotate_left
    · intro wS hSw; go_simp; (try with_reducible rfl)
    (try simp only [Act.put]); (try simp only [List.setIfInBounds_toArray]); (try simp only [List.set_cons_succ]); (try simp only [List.set_cons_zero])
    refine wpAnyH_done (by kernel_rfl) ?_ _
    go_wp2
    refine bodyPost_ret (results_t1c1t1' rfl rfl (run_loadVar_all Tryz.isAgg44 Tryz.sizeOf44 R8 rfl)) rfl ⟨rfl, bls hb5 (Nat.le_refl _) g8 (by omega)⟩
  · skip
    go_enter Tryz.func68, Tryz.ntmps68
    refine wp_seq_k (fun K hK => ?_)
    have HK := Lib.hid hK
    clear hK
    go_wp2
    refine HK.out _ _ ?_
    clear HK
    have hbp := blw w (Obj.cells (recA p) 79)
    have hbq := hbp.trans ((blw (w.alloc (Obj.cells (recA p) 79)) (Obj.cells (ffA f) 82)).mono hbp.size)
    have hb1 := hbq.trans ((blw ((w.alloc (Obj.cells (recA p) 79)).alloc (Obj.cells (ffA f) 82)) (Obj.cells #[.int .i64 0, .int .u8 0, .int .i64 0, .int .i64 0, .int .u8 0, .int .i64 0, .int .i64 0, .int .u8 0, .string ⟨#[]⟩, .string ⟨#[]⟩, .string ⟨#[]⟩] 44)).mono hbq.size)
    have e1 : (w.alloc (Obj.cells (recA p) 79)).heap.size = w.heap.size + 1 := by simp
    have e2 : ((w.alloc (Obj.cells (recA p) 79)).alloc (Obj.cells (ffA f) 82)).heap.size = w.heap.size + 1 + 1 := by simp
    have P1 : (((w.alloc (Obj.cells (recA p) 79)).alloc (Obj.cells (ffA f) 82)).alloc (Obj.cells #[.int .i64 0, .int .u8 0, .int .i64 0, .int .i64 0, .int .u8 0, .int .i64 0, .int .i64 0, .int .u8 0, .string ⟨#[]⟩, .string ⟨#[]⟩, .string ⟨#[]⟩] 44)).heap[w.heap.size]? = some (.cells (recA p) 79 (0, 0)) := tr_al (Obj.cells #[.int .i64 0, .int .u8 0, .int .i64 0, .int .i64 0, .int .u8 0, .int .i64 0, .int .i64 0, .int .u8 0, .string ⟨#[]⟩, .string ⟨#[]⟩, .string ⟨#[]⟩] 44) (tr_al (Obj.cells (ffA f) 82) (heap_alloc_new w (Obj.cells (recA p) 79)))
    have F1 : (((w.alloc (Obj.cells (recA p) 79)).alloc (Obj.cells (ffA f) 82)).alloc (Obj.cells #[.int .i64 0, .int .u8 0, .int .i64 0, .int .i64 0, .int .u8 0, .int .i64 0, .int .i64 0, .int .u8 0, .string ⟨#[]⟩, .string ⟨#[]⟩, .string ⟨#[]⟩] 44)).heap[w.heap.size + 1]? = some (.cells (ffA f) 82 (0, 0)) := tr_al (Obj.cells #[.int .i64 0, .int .u8 0, .int .i64 0, .int .i64 0, .int .u8 0, .int .i64 0, .int .i64 0, .int .u8 0, .string ⟨#[]⟩, .string ⟨#[]⟩, .string ⟨#[]⟩] 44) (e1 ▸ heap_alloc_new (w.alloc (Obj.cells (recA p) 79)) (Obj.cells (ffA f) 82))
    have R1 : (((w.alloc (Obj.cells (recA p) 79)).alloc (Obj.cells (ffA f) 82)).alloc (Obj.cells #[.int .i64 0, .int .u8 0, .int .i64 0, .int .i64 0, .int .u8 0, .int .i64 0, .int .i64 0, .int .u8 0, .string ⟨#[]⟩, .string ⟨#[]⟩, .string ⟨#[]⟩] 44)).heap[w.heap.size + 1 + 1]? = some (.cells (rpA 0 0 zeroL (zeroE 0)) 44 (0, 0)) := e2 ▸ heap_alloc_new ((w.alloc (Obj.cells (recA p) 79)).alloc (Obj.cells (ffA f) 82)) (Obj.cells #[.int .i64 0, .int .u8 0, .int .i64 0, .int .i64 0, .int .u8 0, .int .i64 0, .int .i64 0, .int .u8 0, .string ⟨#[]⟩, .string ⟨#[]⟩, .string ⟨#[]⟩] 44)
    have hn1 : w.heap.size < w.heap.size + 1 := by omega
    have hn2 : w.heap.size + 1 < w.heap.size + 1 + 1 := by omega
    clear hbp hbq e1 e2
    generalize ((w.alloc (Obj.cells (recA p) 79)).alloc (Obj.cells (ffA f) 82)).alloc (Obj.cells #[.int .i64 0, .int .u8 0, .int .i64 0, .int .i64 0, .int .u8 0, .int .i64 0, .int .i64 0, .int .u8 0, .string ⟨#[]⟩, .string ⟨#[]⟩, .string ⟨#[]⟩] 44) = w1 at *
    generalize w.heap.size + 1 + 1 = rb at *
    generalize w.heap.size + 1 = fb at *
    refine wp_seq_k (fun K hK => ?_)
    have HK := Lib.hid hK
    clear hK
    go_wp2_with (first
      | ((with_reducible refine wpList_ldB 79 _ ?_); refine ⟨rfl, _, ⟨_, _, _, _, _, Tryz.isAgg79, Tryz.sizeOf79, rfl, ‹_›, arr_all rfl⟩, ?_⟩)
      | ((with_reducible refine wpList_ldB 82 _ ?_); refine ⟨rfl, _, ⟨_, _, _, _, _, Tryz.isAgg82, Tryz.sizeOf82, rfl, ‹_›, arr_all rfl⟩, ?_⟩)
      | (with_reducible refine wpList_bpr (p := p) (f := f) (i := i) _ _ _ (by simp [Act.eval]) (by simp [Act.eval]) (by simp [Act.eval]) ?_)
      | ((first | (with_reducible refine wpList_stNew 120 _ _ ?_) | (with_reducible refine wp_stNew 120 _ _ ?_)); refine ⟨_, _, ⟨Tryz.sizeOf120, rfl, pr_new _ _ _⟩, rfl, ?_⟩))
    refine HK.out _ _ ?_
    clear HK
    have hbx := blw w1 (Obj.cells (prA p f i) 120)
    have X2 := heap_alloc_new w1 (Obj.cells (prA p f i) 120)
    have P2 := tr_bl hbx P1
    have F2 := tr_bl hbx F1
    have R2 := tr_bl hbx R1
    have hb2 := hb1.trans (hbx.mono hb1.size)
    have hr1 := lt_blk R1
    clear hb1 P1 F1 R1 hbx
    generalize w1.alloc (Obj.cells (prA p f i) 120) = w2 at *
    generalize w1.heap.size = xb at *
    refine wp_seq_k (fun K hK => ?_)
    have HK := Lib.hid hK
    clear hK
    refine wp_seq_k (fun K hK => ?_)
    have HK := Lib.hid hK
    clear hK
    go_wp2_with (first
      | ((with_reducible refine wpList_ldB 120 _ ?_); refine ⟨rfl, _, ⟨_, _, _, _, _, Tryz.isAgg120, Tryz.sizeOf120, rfl, ‹_›, arr_all rfl⟩, ?_⟩)
      | (go_at_call 60; refine (hin _).mono ?_; rintro e w3 ⟨rfl, hb3⟩))
    refine HK.out _ _ ?_
    clear HK
    have P3 := tr_bl hb3 P2
    have F3 := tr_bl hb3 F2
    have R3 := tr_bl hb3 R2
    have X3 := tr_bl hb3 X2
    have hb4 := hb2.trans (hb3.mono hb2.size)
    clear hb2 hb3 P2 F2 R2 X2 hin
    rw [show outV (some 1) = .int .i64 1 from rfl]
    go_wp2_with fail
    have hbd := (Below.refl w3.heap.size w3).drew
    have F4 := tr_bl hbd F3
    have R4 := tr_bl hbd R3
    have hb5 := hb4.trans (hbd.mono hb4.size)
    clear hb4 F3 R3 X3 P3 hbd
    refine wp_region_held_drew (S := fun w' => w'.heap[fb]? = some (.cells (ffA f) 82 (0, 0))) (by kernel_rfl) F4 (fun hS0 => ?_)
    generalize w3.drew = x0 at *
    refine wpAnyH_take (i := 0) (oi := ⟨_, _, _, _, _, _⟩) (v := ?_) rfl (by kernel_rfl) (by kernel_rfl) (by kernel_rfl) (fun _ _ _ h => h) (Or.inl ⟨by rfl, ?_⟩) (by assumption) ?_
    rotate_left
    · intro wS hSw; go_simp; (try with_reducible rfl)
    (try simp only [Act.put]); (try simp only [List.setIfInBounds_toArray]); (try simp only [List.set_cons_succ]); (try simp only [List.set_cons_zero])
    refine wpAnyH_take (i := 1) (oi := ⟨_, _, _, _, _, _⟩) (v := ?_) rfl (by kernel_rfl) (by kernel_rfl) (by kernel_rfl) (fun _ _ _ h => h) (Or.inl ⟨by rfl, ?_⟩) (by assumption) ?_
    rotate_left
    · intro wS hSw; go_simp; (try with_reducible rfl)
    (try simp only [Act.put]); (try simp only [List.setIfInBounds_toArray]); (try simp only [List.set_cons_succ]); (try simp only [List.set_cons_zero])
    refine wpAnyH_take (i := 2) (oi := ⟨_, _, _, _, _, _⟩) (v := .pointer (some ⟨fb, 11, none⟩)) rfl (by kernel_rfl) (by kernel_rfl) (by kernel_rfl) (fun _ _ _ h => h) (Or.inl ⟨by rfl, fun wS hSw => ?_⟩) (by assumption) ?_
    · go_simp; (try rfl)
    (try simp only [Act.put]); (try simp only [List.setIfInBounds_toArray]); (try simp only [List.set_cons_succ]); (try simp only [List.set_cons_zero])
    refine wpAnyH_take (i := 3) (oi := ⟨_, _, _, _, _, _⟩) (v := .pointer (some ⟨fb, 11 + 2, none⟩)) rfl (by kernel_rfl) (by kernel_rfl) (by kernel_rfl) (fun _ _ _ h => h) (Or.inl ⟨by rfl, fun wS hSw => ?_⟩) (by assumption) ?_
    · go_simp; (try rfl)
    (try simp only [Act.put]); (try simp only [List.setIfInBounds_toArray]); (try simp only [List.set_cons_succ]); (try simp only [List.set_cons_zero])
    refine wpAnyH_take (i := 4) (oi := ⟨_, _, _, _, _, _⟩) (v := .agg (blA (f 1).bal)) rfl (by kernel_rfl) (by kernel_rfl) (by kernel_rfl) (fun _ _ _ h => h) (Or.inl ⟨by rfl, fun wS hSw => ?_⟩) (by assumption) ?_
    · exact exec_ldB 32 _ ⟨_, _, _, _, _, Tryz.isAgg32, Tryz.sizeOf32, rfl, hSw, ff_balB f⟩
    (try simp only [Act.put]); (try simp only [List.setIfInBounds_toArray]); (try simp only [List.set_cons_succ]); (try simp only [List.set_cons_zero])
    refine wpAnyH_take (i := 5) (oi := ⟨_, _, _, _, _, _⟩) (v := ?_) rfl (by kernel_rfl) (by kernel_rfl) (by kernel_rfl) (fun _ _ _ h => h) (Or.inl ⟨by rfl, ?_⟩) (by assumption) ?_
    rotate_left
    · intro wS hSw; go_simp; (try with_reducible rfl)
    (try simp only [Act.put]); (try simp only [List.setIfInBounds_toArray]); (try simp only [List.set_cons_succ]); (try simp only [List.set_cons_zero])
    refine wpAnyH_take (i := 6) (oi := ⟨_, _, _, _, _, _⟩) (v := .pointer (some ⟨fb, 11, none⟩)) rfl (by kernel_rfl) (by kernel_rfl) (by kernel_rfl) (fun _ _ _ h => h) (Or.inl ⟨by rfl, fun wS hSw => ?_⟩) (by assumption) ?_
    · go_simp; (try rfl)
    (try simp only [Act.put]); (try simp only [List.setIfInBounds_toArray]); (try simp only [List.set_cons_succ]); (try simp only [List.set_cons_zero])
    refine wpAnyH_take (i := 7) (oi := ⟨_, _, _, _, _, _⟩) (v := .pointer (some ⟨fb, 11 + 4, none⟩)) rfl (by kernel_rfl) (by kernel_rfl) (by kernel_rfl) (fun _ _ _ h => h) (Or.inl ⟨by rfl, fun wS hSw => ?_⟩) (by assumption) ?_
    · go_simp; (try rfl)
    (try simp only [Act.put]); (try simp only [List.setIfInBounds_toArray]); (try simp only [List.set_cons_succ]); (try simp only [List.set_cons_zero])
    refine wpAnyH_take (i := 8) (oi := ⟨_, _, _, _, _, _⟩) (v := .agg (enA (f 1).e)) rfl (by kernel_rfl) (by kernel_rfl) (by kernel_rfl) (fun _ _ _ h => h) (Or.inl ⟨by rfl, fun wS hSw => ?_⟩) (by assumption) ?_
    · exact exec_ldB 36 _ ⟨_, _, _, _, _, Tryz.isAgg36, Tryz.sizeOf36, rfl, hSw, ff_enB f⟩
    (try simp only [Act.put]); (try simp only [List.setIfInBounds_toArray]); (try simp only [List.set_cons_succ]); (try simp only [List.set_cons_zero])
    refine wpAnyH_take (i := 9) (oi := ⟨_, _, _, _, _, _⟩) (v := .agg (rpA i 2 (f 1).bal (f 1).e)) rfl (by kernel_rfl) (by kernel_rfl) (by kernel_rfl) (fun _ _ _ h => h) (Or.inl ⟨by rfl, fun wS hSw => ?_⟩) (by assumption) ?_
    · kernel_rfl
    (try simp only [Act.put]); (try simp only [List.setIfInBounds_toArray]); (try simp only [List.set_cons_succ]); (try simp only [List.set_cons_zero])
    refine wpAnyH_take (i := 10) (oi := ⟨_, _, _, _, _, _⟩) (v := ?_) rfl (by kernel_rfl) (by kernel_rfl) (by kernel_rfl) (fun _ _ _ h => h) (Or.inl ⟨by rfl, ?_⟩) (by assumption) ?_
    rotate_left
    · intro wS hSw; go_simp; (try with_reducible rfl)
    (try simp only [Act.put]); (try simp only [List.setIfInBounds_toArray]); (try simp only [List.set_cons_succ]); (try simp only [List.set_cons_zero])
    refine wpAnyH_take (i := 11) (oi := ⟨_, _, _, _, _, _⟩) (v := ?_) rfl (by kernel_rfl) (by kernel_rfl) (by kernel_rfl) (fun _ _ _ h => h) (Or.inl ⟨by rfl, ?_⟩) (by assumption) ?_
    rotate_left
    · intro wS hSw; go_simp; (try with_reducible rfl)
    (try simp only [Act.put]); (try simp only [List.setIfInBounds_toArray]); (try simp only [List.set_cons_succ]); (try simp only [List.set_cons_zero])
    refine wpAnyH_ready (rs := [12]) (by kernel_rfl) (by simp) ?_
    refine AllReadyH.cons (o := ⟨_, _, _, _, _, _⟩) rfl (fun K' hK' => ?_) AllReadyH.nil
    refine (if_pos (by rfl)).mpr ?_
    refine wp_stB 44 _ _ ?_
    refine ⟨_, _, _, ⟨_, _, _, Tryz.sizeOf44, rfl, R4, rp_over _ _ _ _ i 2 (f 1).bal (f 1).e⟩, ?_⟩
    intro w8 R8 g8
    refine hK'.out _ _ (tr_st g8 F4 (by omega)) (fun _ => ?_)
    clear hK'
    (try simp only [Act.put]); (try simp only [List.setIfInBounds_toArray]); (try simp only [List.set_cons_succ]); (try simp only [List.set_cons_zero])
    refine wpAnyH_take (i := 13) (oi := ⟨_, _, _, _, _, _⟩) (v := ?_) rfl (by kernel_rfl) (by kernel_rfl) (by kernel_rfl) (fun _ _ _ h => h) (Or.inl ⟨by rfl, ?_⟩) (by assumption) ?_
    rotate_left
    · intro wS hSw; go_simp; (try with_reducible rfl)
    (try simp only [Act.put]); (try simp only [List.setIfInBounds_toArray]); (try simp only [List.set_cons_succ]); (try simp only [List.set_cons_zero])
    refine wpAnyH_done (by kernel_rfl) ?_ _
    go_wp2
    refine bodyPost_ret (results_t1c1t1' rfl rfl (run_loadVar_all Tryz.isAgg44 Tryz.sizeOf44 R8 rfl)) rfl ⟨rfl, bls hb5 (Nat.le_refl _) g8 (by omega)⟩
end
end Go.Proofs.YtknchbhobopkeaaGreatDoor
namespace Go.Proofs.YtknchbhobopkeaaGreatDoor
open Go.RowKit
structure PutL where
  at' : Nat
  bal : Bal
  e : En
def ptA (p : PutL) : Array Value := #[.int .u8 (p.at' : Int), .int .i64 p.bal.rnd, .int .i64 p.bal.rep, .int .u8 p.e.kind, .int .i64 p.e.cli, .int .i64 p.e.seq, .int .u8 p.e.op.kind, .string p.e.op.key, .string p.e.op.old, .string p.e.op.val]
def ptC (p : PutL) : List Value := (ptA p).toList
theorem ptC_len (p : PutL) : (ptC p).length = 10 := rfl
theorem pt_bal {p : PutL} : ∀ (j : Nat) (u : Value), (blA p.bal)[j]? = some u → (ptC p)[1 + j]? = some u
  | 0, _, h => h
  | 1, _, h => h
  | n + 2, _, h => by simp [blA] at h
theorem pt_en {p : PutL} : ∀ (j : Nat) (u : Value), (enA p.e)[j]? = some u → (ptC p)[3 + j]? = some u
  | 0, _, h => h
  | 1, _, h => h
  | 2, _, h => h
  | 3, _, h => h
  | 4, _, h => h
  | 5, _, h => h
  | 6, _, h => h
  | n + 7, _, h => by simp [enA] at h
def FitR (l : List PutL) (r : Bool) : Prop := r = true → l.length ≤ 30 ∧ ∀ x ∈ l, mayBl x.bal = true ∧ mayE x.e = true
def PtAt (b o : Nat) (p : PutL) (w : World) : Prop := ∀ j u, (ptC p)[j]? = some u → w.cell? ⟨b, o + j, none⟩ = some u
theorem PtAt.below {b o : Nat} {p : PutL} {w w' : World} (h : PtAt b o p w) (hb : Below w.heap.size w w') : PtAt b o p w' := fun j u hu => by
  have h1 := h j u hu
  rw [hb.cell (World.block_lt_of_cell? _ _ h1)]
  exact h1
theorem PtAt.bal {b o : Nat} {p : PutL} {w : World} (h : PtAt b o p w) : ∀ j u, (blA p.bal)[j]? = some u → w.cell? ⟨b, o + 1 + j, none⟩ = some u := fun j u hu => by
  rw [Nat.add_assoc]; exact h _ _ (pt_bal j u hu)
theorem PtAt.en {b o : Nat} {p : PutL} {w : World} (h : PtAt b o p w) : ∀ j u, (enA p.e)[j]? = some u → w.cell? ⟨b, o + 3 + j, none⟩ = some u := fun j u hu => by
  rw [Nat.add_assoc]; exact h _ _ (pt_en j u hu)
theorem PtAt.of {a : Option Addr} {l : List PutL} {w : World} (h : Row w a (l.flatMap ptC)) {k : Nat} (hk : k < l.length) : ∃ b off, a = some ⟨b, off, none⟩ ∧ PtAt b (off + k * 10) l[k] w := by
  obtain ⟨b, off, e, _, c⟩ := h.flat ptC_len (by decide) (List.getElem?_eq_getElem hk)
  exact ⟨b, off, e, c⟩
set_option maxRecDepth 100000 in
set_option maxHeartbeats 2000000 in
theorem fits_any11 {a : Option Addr} {l : List PutL} {cap : Nat} {w : World} (hR : Row w a (l.flatMap ptC)) (hl : l.length ≤ maxLen) : Calls Tryz.prog 14 #[.slice a l.length cap] w fun e w' => (∃ r, e = .returned (.bool r) ∧ FitR l r) ∧ Below w.heap.size w w' := by
  have hl2 : (l.length : Int) ≤ 9223372036854775807 := by unfold maxLen at hl; omega
  clear hl
  go_enter Tryz.func14, Tryz.ntmps14
  refine wp_seq_k (fun K hK => ?_)
  have HK := Lib.hid hK
  clear hK
  go_wp2
  refine HK.out _ _ ?_
  clear HK
  by_cases h30 : l.length ≤ 30
  case neg =>
    have h31 : (30 : Int) < l.length := by omega
    go_wp2
    go_ret
    exact ⟨⟨false, rfl, fun e => by cases e⟩, Below.refl _ _⟩
  case pos =>
    have h31 : ¬ (30 : Int) < l.length := by omega
    have H30 := Lib.hid h30
    refine wp_seq_k (fun K hK => ?_)
    have HK := Lib.hid hK
    clear hK
    go_wp2
    refine HK.out _ _ ?_
    clear HK
    clear h31
    refine wp_seq_k (fun K hK => ?_)
    go_cut [3] (fun v wx => Hid (∀ x ∈ l, mayBl x.bal = true ∧ mayE x.e = true) ∧ Below w.heap.size w wx)
    case first =>
      go_wp2
      go_loopw [3] (fun v wr => ∃ k : Nat, k ≤ l.length ∧ v = .int .i64 k ∧ Hid (∀ j (hj : j < l.length), j < k → mayBl l[j].bal = true ∧ mayE l[j].e = true) ∧ Below w.heap.size w wr) (fun v _ => l.length - (intOf v).toNat)
      case atStart => exact ⟨0, by omega, rfl, Lib.hid (fun j hj h => absurd h (by omega)), Below.refl _ _⟩
      case round =>
        obtain ⟨k, hk, rfl, hT, hbr⟩ := hrel
        by_cases hlt : k < l.length
        · have hlt2 : (k : Int) < l.length := by omega
          obtain ⟨b, off, rfl, hpt⟩ := PtAt.of (hR.below0 hbr) hlt
          obtain ⟨p, hp⟩ : ∃ p, l[k] = p := ⟨_, rfl⟩
          rw [hp] at hpt
          have HP := Lib.hid (show mayBl p.bal = true → mayE p.e = true → ∀ j (hj : j < l.length), j < k + 1 → mayBl l[j].bal = true ∧ mayE l[j].e = true from fun h1 h2 j hj h3 => by
            rcases Nat.lt_succ_iff_lt_or_eq.1 h3 with h4 | rfl
            · exact hT.out j hj h4
            · rw [hp]; exact ⟨h1, h2⟩)
          clear hp hT
          refine wp_seq_k (fun K hK => ?_)
          have HK := Lib.hid hK
          clear hK
          go_wp2
          refine HK.out _ _ ?_
          clear HK
          refine wp_seq_k (fun K hK => ?_)
          have HK2 := Lib.hid hK
          clear hK
          refine wp_block ?_
          refine wp_seq_k (fun K hK => ?_)
          have HK3 := Lib.hid hK
          clear hK
          by_cases hm : (mayBl p.bal && mayE p.e) = true
          case neg =>
            have hpr := fun w => eprint_bad (w := w) (b := p.bal) (e := p.e) (by simpa using hm)
            go_wp2_with fail
            have hbd := (Below.refl wr.heap.size wr).drew
            have S1 := hpt.below hbd
            have hb1 := hbr.trans (hbd.mono hbr.size)
            clear hbd hbr hpt
            refine wp_region_held_drew (S := PtAt b (off + k * 10) p) (by kernel_rfl) S1 (fun hS0 => ?_)
            clear hS0
            generalize wr.drew = x0 at *
            refine wpAnyH_take (i := 0) (oi := ⟨_, _, _, _, _, _⟩) (v := ?_) rfl (by kernel_rfl) (by kernel_rfl) (by kernel_rfl) (fun _ _ _ h => h) (Or.inl ⟨by rfl, ?_⟩) (by assumption) ?_
            rotate_left
            · intro wS hSw; go_simp; (try with_reducible rfl)
            (try simp only [Act.put]); (try simp only [List.setIfInBounds_toArray]); (try simp only [List.set_cons_succ]); (try simp only [List.set_cons_zero])
            refine wpAnyH_take (i := 1) (oi := ⟨_, _, _, _, _, _⟩) (v := ?_) rfl (by kernel_rfl) (by kernel_rfl) (by kernel_rfl) (fun _ _ _ h => h) (Or.inl ⟨by rfl, ?_⟩) (by assumption) ?_
            rotate_left
            · intro wS hSw; go_simp; (try with_reducible rfl)
            (try simp only [Act.put]); (try simp only [List.setIfInBounds_toArray]); (try simp only [List.set_cons_succ]); (try simp only [List.set_cons_zero])
            refine wpAnyH_take (i := 2) (oi := ⟨_, _, _, _, _, _⟩) (v := ?_) rfl (by kernel_rfl) (by kernel_rfl) (by kernel_rfl) (fun _ _ _ h => h) (Or.inl ⟨by rfl, ?_⟩) (by assumption) ?_
            rotate_left
            · intro wS hSw; go_simp; (try with_reducible rfl)
            (try simp only [Act.put]); (try simp only [List.setIfInBounds_toArray]); (try simp only [List.set_cons_succ]); (try simp only [List.set_cons_zero])
            refine wpAnyH_take (i := 3) (oi := ⟨_, _, _, _, _, _⟩) (v := ?_) rfl (by kernel_rfl) (by kernel_rfl) (by kernel_rfl) (fun _ _ _ h => h) (Or.inl ⟨by rfl, ?_⟩) (by assumption) ?_
            rotate_left
            · intro wS hSw; go_simp; (try with_reducible rfl)
            (try simp only [Act.put]); (try simp only [List.setIfInBounds_toArray]); (try simp only [List.set_cons_succ]); (try simp only [List.set_cons_zero])
            refine wpAnyH_take (i := 4) (oi := ⟨_, _, _, _, _, _⟩) (v := .agg (blA p.bal)) rfl (by kernel_rfl) (by kernel_rfl) (by kernel_rfl) (fun _ _ _ h => h) (Or.inl ⟨by rfl, fun wS hSw => ?_⟩) (by assumption) ?_
            · exact exec_ldC 32 _ ⟨_, _, _, Tryz.isAgg32, Tryz.sizeOf32, rfl, rfl, hSw.bal⟩
            (try simp only [Act.put]); (try simp only [List.setIfInBounds_toArray]); (try simp only [List.set_cons_succ]); (try simp only [List.set_cons_zero])
            refine wpAnyH_take (i := 5) (oi := ⟨_, _, _, _, _, _⟩) (v := ?_) rfl (by kernel_rfl) (by kernel_rfl) (by kernel_rfl) (fun _ _ _ h => h) (Or.inl ⟨by rfl, ?_⟩) (by assumption) ?_
            rotate_left
            · intro wS hSw; go_simp; (try with_reducible rfl)
            (try simp only [Act.put]); (try simp only [List.setIfInBounds_toArray]); (try simp only [List.set_cons_succ]); (try simp only [List.set_cons_zero])
            refine wpAnyH_take (i := 6) (oi := ⟨_, _, _, _, _, _⟩) (v := ?_) rfl (by kernel_rfl) (by kernel_rfl) (by kernel_rfl) (fun _ _ _ h => h) (Or.inl ⟨by rfl, ?_⟩) (by assumption) ?_
            rotate_left
            · intro wS hSw; go_simp; (try with_reducible rfl)
            (try simp only [Act.put]); (try simp only [List.setIfInBounds_toArray]); (try simp only [List.set_cons_succ]); (try simp only [List.set_cons_zero])
            refine wpAnyH_take (i := 7) (oi := ⟨_, _, _, _, _, _⟩) (v := ?_) rfl (by kernel_rfl) (by kernel_rfl) (by kernel_rfl) (fun _ _ _ h => h) (Or.inl ⟨by rfl, ?_⟩) (by assumption) ?_
            rotate_left
            · intro wS hSw; go_simp; (try with_reducible rfl)
            (try simp only [Act.put]); (try simp only [List.setIfInBounds_toArray]); (try simp only [List.set_cons_succ]); (try simp only [List.set_cons_zero])
            refine wpAnyH_take (i := 8) (oi := ⟨_, _, _, _, _, _⟩) (v := ?_) rfl (by kernel_rfl) (by kernel_rfl) (by kernel_rfl) (fun _ _ _ h => h) (Or.inl ⟨by rfl, ?_⟩) (by assumption) ?_
            rotate_left
            · intro wS hSw; go_simp; (try with_reducible rfl)
            (try simp only [Act.put]); (try simp only [List.setIfInBounds_toArray]); (try simp only [List.set_cons_succ]); (try simp only [List.set_cons_zero])
            refine wpAnyH_take (i := 9) (oi := ⟨_, _, _, _, _, _⟩) (v := .agg (enA p.e)) rfl (by kernel_rfl) (by kernel_rfl) (by kernel_rfl) (fun _ _ _ h => h) (Or.inl ⟨by rfl, fun wS hSw => ?_⟩) (by assumption) ?_
            · exact exec_ldC 36 _ ⟨_, _, _, Tryz.isAgg36, Tryz.sizeOf36, rfl, rfl, hSw.en⟩
            (try simp only [Act.put]); (try simp only [List.setIfInBounds_toArray]); (try simp only [List.set_cons_succ]); (try simp only [List.set_cons_zero])
            refine wpAnyH_ready (rs := [10]) (by kernel_rfl) (by simp) ?_
            refine AllReadyH.cons (o := ⟨_, _, _, _, _, _⟩) rfl (fun K' hK' => ?_) AllReadyH.nil
            refine (if_pos (by rfl)).mpr ?_
            go_simp
            refine (hpr _).mono ?_
            rintro en w2 ⟨rfl, hb2⟩
            have S2 := S1.below hb2
            have hb3 := hb1.trans (hb2.mono hb1.size)
            refine hK'.out _ _ S2 (fun _ => ?_)
            clear hK' S1 S2 hb1 hb2
            (try simp only [Act.put]); (try simp only [List.setIfInBounds_toArray]); (try simp only [List.set_cons_succ]); (try simp only [List.set_cons_zero])
            refine wpAnyH_take (i := 11) (oi := ⟨_, _, _, _, _, _⟩) (v := ?_) rfl (by kernel_rfl) (by kernel_rfl) (by kernel_rfl) (fun _ _ _ h => h) (Or.inl ⟨by rfl, ?_⟩) (by assumption) ?_
            rotate_left
            · intro wS hSw; go_simp; (try with_reducible rfl)
            (try simp only [Act.put]); (try simp only [List.setIfInBounds_toArray]); (try simp only [List.set_cons_succ]); (try simp only [List.set_cons_zero])
            refine wpAnyH_take (i := 12) (oi := ⟨_, _, _, _, _, _⟩) (v := ?_) rfl (by kernel_rfl) (by kernel_rfl) (by kernel_rfl) (fun _ _ _ h => h) (Or.inl ⟨by rfl, ?_⟩) (by assumption) ?_
            rotate_left
            · intro wS hSw; go_simp; (try with_reducible rfl)
            (try simp only [Act.put]); (try simp only [List.setIfInBounds_toArray]); (try simp only [List.set_cons_succ]); (try simp only [List.set_cons_zero])
            refine wpAnyH_take (i := 13) (oi := ⟨_, _, _, _, _, _⟩) (v := ?_) rfl (by kernel_rfl) (by kernel_rfl) (by kernel_rfl) (fun _ _ _ h => h) (Or.inl ⟨by rfl, ?_⟩) (by assumption) ?_
            rotate_left
            · intro wS hSw; go_simp; (try with_reducible rfl)
            (try simp only [Act.put]); (try simp only [List.setIfInBounds_toArray]); (try simp only [List.set_cons_succ]); (try simp only [List.set_cons_zero])
            refine wpAnyH_take (i := 14) (oi := ⟨_, _, _, _, _, _⟩) (v := ?_) rfl (by kernel_rfl) (by kernel_rfl) (by kernel_rfl) (fun _ _ _ h => h) (Or.inl ⟨by rfl, ?_⟩) (by assumption) ?_
            rotate_left
            · intro wS hSw; go_simp; (try with_reducible rfl)
            (try simp only [Act.put]); (try simp only [List.setIfInBounds_toArray]); (try simp only [List.set_cons_succ]); (try simp only [List.set_cons_zero])
            refine wpAnyH_take (i := 15) (oi := ⟨_, _, _, _, _, _⟩) (v := ?_) rfl (by kernel_rfl) (by kernel_rfl) (by kernel_rfl) (fun _ _ _ h => h) (Or.inl ⟨by rfl, ?_⟩) (by assumption) ?_
            rotate_left
            · intro wS hSw; go_simp; (try with_reducible rfl)
            (try simp only [Act.put]); (try simp only [List.setIfInBounds_toArray]); (try simp only [List.set_cons_succ]); (try simp only [List.set_cons_zero])
            refine wpAnyH_done (by kernel_rfl) ?_ _
            refine HK3.out _ _ ?_
            clear HK3
            go_wp2
            go_ret
            exact ⟨⟨false, rfl, fun e => by cases e⟩, hb3⟩
          case pos =>
            rw [Bool.and_eq_true] at hm
            have hpr := fun w => eprint_ok (w := w) hm.1 hm.2
            have HM := Lib.hid hm
            clear hm
            go_wp2_with fail
            have hbd := (Below.refl wr.heap.size wr).drew
            have S1 := hpt.below hbd
            have hb1 := hbr.trans (hbd.mono hbr.size)
            clear hbd hbr hpt
            refine wp_region_held_drew (S := PtAt b (off + k * 10) p) (by kernel_rfl) S1 (fun hS0 => ?_)
            clear hS0
            generalize wr.drew = x0 at *
            refine wpAnyH_take (i := 0) (oi := ⟨_, _, _, _, _, _⟩) (v := ?_) rfl (by kernel_rfl) (by kernel_rfl) (by kernel_rfl) (fun _ _ _ h => h) (Or.inl ⟨by rfl, ?_⟩) (by assumption) ?_
            rotate_left
            · intro wS hSw; go_simp; (try with_reducible rfl)
            (try simp only [Act.put]); (try simp only [List.setIfInBounds_toArray]); (try simp only [List.set_cons_succ]); (try simp only [List.set_cons_zero])
            refine wpAnyH_take (i := 1) (oi := ⟨_, _, _, _, _, _⟩) (v := ?_) rfl (by kernel_rfl) (by kernel_rfl) (by kernel_rfl) (fun _ _ _ h => h) (Or.inl ⟨by rfl, ?_⟩) (by assumption) ?_
            rotate_left
            · intro wS hSw; go_simp; (try with_reducible rfl)
            (try simp only [Act.put]); (try simp only [List.setIfInBounds_toArray]); (try simp only [List.set_cons_succ]); (try simp only [List.set_cons_zero])
            refine wpAnyH_take (i := 2) (oi := ⟨_, _, _, _, _, _⟩) (v := ?_) rfl (by kernel_rfl) (by kernel_rfl) (by kernel_rfl) (fun _ _ _ h => h) (Or.inl ⟨by rfl, ?_⟩) (by assumption) ?_
            rotate_left
            · intro wS hSw; go_simp; (try with_reducible rfl)
            (try simp only [Act.put]); (try simp only [List.setIfInBounds_toArray]); (try simp only [List.set_cons_succ]); (try simp only [List.set_cons_zero])
            refine wpAnyH_take (i := 3) (oi := ⟨_, _, _, _, _, _⟩) (v := ?_) rfl (by kernel_rfl) (by kernel_rfl) (by kernel_rfl) (fun _ _ _ h => h) (Or.inl ⟨by rfl, ?_⟩) (by assumption) ?_
            rotate_left
            · intro wS hSw; go_simp; (try with_reducible rfl)
            (try simp only [Act.put]); (try simp only [List.setIfInBounds_toArray]); (try simp only [List.set_cons_succ]); (try simp only [List.set_cons_zero])
            refine wpAnyH_take (i := 4) (oi := ⟨_, _, _, _, _, _⟩) (v := .agg (blA p.bal)) rfl (by kernel_rfl) (by kernel_rfl) (by kernel_rfl) (fun _ _ _ h => h) (Or.inl ⟨by rfl, fun wS hSw => ?_⟩) (by assumption) ?_
            · exact exec_ldC 32 _ ⟨_, _, _, Tryz.isAgg32, Tryz.sizeOf32, rfl, rfl, hSw.bal⟩
            (try simp only [Act.put]); (try simp only [List.setIfInBounds_toArray]); (try simp only [List.set_cons_succ]); (try simp only [List.set_cons_zero])
            refine wpAnyH_take (i := 5) (oi := ⟨_, _, _, _, _, _⟩) (v := ?_) rfl (by kernel_rfl) (by kernel_rfl) (by kernel_rfl) (fun _ _ _ h => h) (Or.inl ⟨by rfl, ?_⟩) (by assumption) ?_
            rotate_left
            · intro wS hSw; go_simp; (try with_reducible rfl)
            (try simp only [Act.put]); (try simp only [List.setIfInBounds_toArray]); (try simp only [List.set_cons_succ]); (try simp only [List.set_cons_zero])
            refine wpAnyH_take (i := 6) (oi := ⟨_, _, _, _, _, _⟩) (v := ?_) rfl (by kernel_rfl) (by kernel_rfl) (by kernel_rfl) (fun _ _ _ h => h) (Or.inl ⟨by rfl, ?_⟩) (by assumption) ?_
            rotate_left
            · intro wS hSw; go_simp; (try with_reducible rfl)
            (try simp only [Act.put]); (try simp only [List.setIfInBounds_toArray]); (try simp only [List.set_cons_succ]); (try simp only [List.set_cons_zero])
            refine wpAnyH_take (i := 7) (oi := ⟨_, _, _, _, _, _⟩) (v := ?_) rfl (by kernel_rfl) (by kernel_rfl) (by kernel_rfl) (fun _ _ _ h => h) (Or.inl ⟨by rfl, ?_⟩) (by assumption) ?_
            rotate_left
            · intro wS hSw; go_simp; (try with_reducible rfl)
            (try simp only [Act.put]); (try simp only [List.setIfInBounds_toArray]); (try simp only [List.set_cons_succ]); (try simp only [List.set_cons_zero])
            refine wpAnyH_take (i := 8) (oi := ⟨_, _, _, _, _, _⟩) (v := ?_) rfl (by kernel_rfl) (by kernel_rfl) (by kernel_rfl) (fun _ _ _ h => h) (Or.inl ⟨by rfl, ?_⟩) (by assumption) ?_
            rotate_left
            · intro wS hSw; go_simp; (try with_reducible rfl)
            (try simp only [Act.put]); (try simp only [List.setIfInBounds_toArray]); (try simp only [List.set_cons_succ]); (try simp only [List.set_cons_zero])
            refine wpAnyH_take (i := 9) (oi := ⟨_, _, _, _, _, _⟩) (v := .agg (enA p.e)) rfl (by kernel_rfl) (by kernel_rfl) (by kernel_rfl) (fun _ _ _ h => h) (Or.inl ⟨by rfl, fun wS hSw => ?_⟩) (by assumption) ?_
            · exact exec_ldC 36 _ ⟨_, _, _, Tryz.isAgg36, Tryz.sizeOf36, rfl, rfl, hSw.en⟩
            (try simp only [Act.put]); (try simp only [List.setIfInBounds_toArray]); (try simp only [List.set_cons_succ]); (try simp only [List.set_cons_zero])
            refine wpAnyH_ready (rs := [10]) (by kernel_rfl) (by simp) ?_
            refine AllReadyH.cons (o := ⟨_, _, _, _, _, _⟩) rfl (fun K' hK' => ?_) AllReadyH.nil
            refine (if_pos (by rfl)).mpr ?_
            go_simp
            refine (hpr _).mono ?_
            rintro en w2 ⟨⟨a2, c2, rfl, _⟩, hb2⟩
            have S2 := S1.below hb2
            have hb3 := hb1.trans (hb2.mono hb1.size)
            refine hK'.out _ _ S2 (fun _ => ?_)
            clear hK' S1 S2 hb1 hb2
            (try simp only [Act.put]); (try simp only [List.setIfInBounds_toArray]); (try simp only [List.set_cons_succ]); (try simp only [List.set_cons_zero])
            refine wpAnyH_take (i := 11) (oi := ⟨_, _, _, _, _, _⟩) (v := ?_) rfl (by kernel_rfl) (by kernel_rfl) (by kernel_rfl) (fun _ _ _ h => h) (Or.inl ⟨by rfl, ?_⟩) (by assumption) ?_
            rotate_left
            · intro wS hSw; go_simp; (try with_reducible rfl)
            (try simp only [Act.put]); (try simp only [List.setIfInBounds_toArray]); (try simp only [List.set_cons_succ]); (try simp only [List.set_cons_zero])
            refine wpAnyH_take (i := 12) (oi := ⟨_, _, _, _, _, _⟩) (v := ?_) rfl (by kernel_rfl) (by kernel_rfl) (by kernel_rfl) (fun _ _ _ h => h) (Or.inl ⟨by rfl, ?_⟩) (by assumption) ?_
            rotate_left
            · intro wS hSw; go_simp; (try with_reducible rfl)
            (try simp only [Act.put]); (try simp only [List.setIfInBounds_toArray]); (try simp only [List.set_cons_succ]); (try simp only [List.set_cons_zero])
            refine wpAnyH_take (i := 13) (oi := ⟨_, _, _, _, _, _⟩) (v := ?_) rfl (by kernel_rfl) (by kernel_rfl) (by kernel_rfl) (fun _ _ _ h => h) (Or.inl ⟨by rfl, ?_⟩) (by assumption) ?_
            rotate_left
            · intro wS hSw; go_simp; (try with_reducible rfl)
            (try simp only [Act.put]); (try simp only [List.setIfInBounds_toArray]); (try simp only [List.set_cons_succ]); (try simp only [List.set_cons_zero])
            refine wpAnyH_take (i := 14) (oi := ⟨_, _, _, _, _, _⟩) (v := ?_) rfl (by kernel_rfl) (by kernel_rfl) (by kernel_rfl) (fun _ _ _ h => h) (Or.inl ⟨by rfl, ?_⟩) (by assumption) ?_
            rotate_left
            · intro wS hSw; go_simp; (try with_reducible rfl)
            (try simp only [Act.put]); (try simp only [List.setIfInBounds_toArray]); (try simp only [List.set_cons_succ]); (try simp only [List.set_cons_zero])
            refine wpAnyH_take (i := 15) (oi := ⟨_, _, _, _, _, _⟩) (v := ?_) rfl (by kernel_rfl) (by kernel_rfl) (by kernel_rfl) (fun _ _ _ h => h) (Or.inl ⟨by rfl, ?_⟩) (by assumption) ?_
            rotate_left
            · intro wS hSw; go_simp; (try with_reducible rfl)
            (try simp only [Act.put]); (try simp only [List.setIfInBounds_toArray]); (try simp only [List.set_cons_succ]); (try simp only [List.set_cons_zero])
            refine wpAnyH_done (by kernel_rfl) ?_ _
            refine HK3.out _ _ ?_
            clear HK3
            go_wp2
            (try simp only [Exit.inBlock, Exit.then])
            refine HK2.out _ _ ?_
            clear HK2
            go_wp2
            go_roundw
            case rel => exact ⟨k + 1, by omega, congrArg (Value.int .i64) (by omega), Lib.hid (HP.out HM.out.1 HM.out.2), hb3⟩
            case measure => simp [intOf]; omega
        · obtain rfl : k = l.length := by omega
          go_wp2
          go_meet
          refine ⟨Lib.hid fun x hx => ?_, hbr⟩
          obtain ⟨j, hj, rfl⟩ := List.getElem_of_mem hx
          exact hT.out j hj hj
    obtain ⟨hT, hb⟩ := hcut
    refine hK _ _ ?_
    clear hK
    go_wp2
    go_ret
    exact ⟨⟨true, rfl, fun _ => ⟨H30.out, hT.out⟩⟩, hb⟩
end Go.Proofs.YtknchbhobopkeaaGreatDoor
namespace Go.Proofs.YtknchbhobopkeaaGreatDoor
open Go.ChangeShapes Go.WideShapes Go.ChangeAt Go.RowKit
variable {H : Type} {enc : TypeId × Value → H} {P : Program}
end Go.Proofs.YtknchbhobopkeaaGreatDoor
namespace Go.Proofs.YtknchbhobopkeaaGreatDoor
open Go.ChangeShapes Go.WideShapes Go.ChangeAt Go.RowKit
section
variable {H : Type} {enc : TypeId × Value → H} {P : Program} {w : World} {base : Nat} {spare : Nat → Bool} {held : Bool}
theorem trod_strL3 {t : TypeId} {f0 f1 f2 : Field} {fuel : Nat} {cs : List Value} {x : DataW H × List MemPlace} (ht : P.underlying t = some (.struct #[f0, f1, f2])) (h : DataW.trod enc P w base spare held fuel t cs = some x) :
    ∃ y0 y1 y2 n, cs.length = P.cellsOf t ∧ DataW.trod enc P w base spare held n f0.type ((cs.drop f0.offset).take (P.cellsOf f0.type)) = some y0 ∧
      DataW.trod enc P w base spare held n f1.type ((cs.drop f1.offset).take (P.cellsOf f1.type)) = some y1 ∧ DataW.trod enc P w base spare held n f2.type ((cs.drop f2.offset).take (P.cellsOf f2.type)) = some y2 := by
  obtain ⟨xs, n, _, rfl, hl, hlen, hf⟩ := DataW.trod_struct ht h
  match xs, hlen with
  | [y0, y1, y2], _ => exact ⟨y0, y1, y2, n, hl, by simpa using hf 0 f0 rfl, by simpa using hf 1 f1 rfl, by simpa using hf 2 f2 rfl⟩
theorem trod_strL2 {t : TypeId} {f0 f1 : Field} {fuel : Nat} {cs : List Value} {x : DataW H × List MemPlace} (ht : P.underlying t = some (.struct #[f0, f1])) (h : DataW.trod enc P w base spare held fuel t cs = some x) :
    ∃ y0 y1 n, cs.length = P.cellsOf t ∧ DataW.trod enc P w base spare held n f0.type ((cs.drop f0.offset).take (P.cellsOf f0.type)) = some y0 ∧
      DataW.trod enc P w base spare held n f1.type ((cs.drop f1.offset).take (P.cellsOf f1.type)) = some y1 := by
  obtain ⟨xs, n, _, rfl, hl, hlen, hf⟩ := DataW.trod_struct ht h
  match xs, hlen with
  | [y0, y1], _ => exact ⟨y0, y1, n, hl, by simpa using hf 0 f0 rfl, by simpa using hf 1 f1 rfl⟩
theorem trod_strL4 {t : TypeId} {f0 f1 f2 f3 : Field} {fuel : Nat} {cs : List Value} {x : DataW H × List MemPlace} (ht : P.underlying t = some (.struct #[f0, f1, f2, f3])) (h : DataW.trod enc P w base spare held fuel t cs = some x) :
    ∃ y0 y1 y2 y3 n, cs.length = P.cellsOf t ∧ DataW.trod enc P w base spare held n f0.type ((cs.drop f0.offset).take (P.cellsOf f0.type)) = some y0 ∧
      DataW.trod enc P w base spare held n f1.type ((cs.drop f1.offset).take (P.cellsOf f1.type)) = some y1 ∧ DataW.trod enc P w base spare held n f2.type ((cs.drop f2.offset).take (P.cellsOf f2.type)) = some y2 ∧
      DataW.trod enc P w base spare held n f3.type ((cs.drop f3.offset).take (P.cellsOf f3.type)) = some y3 := by
  obtain ⟨xs, n, _, rfl, hl, hlen, hf⟩ := DataW.trod_struct ht h
  match xs, hlen with
  | [y0, y1, y2, y3], _ => exact ⟨y0, y1, y2, y3, n, hl, by simpa using hf 0 f0 rfl, by simpa using hf 1 f1 rfl, by simpa using hf 2 f2 rfl, by simpa using hf 3 f3 rfl⟩
end
theorem cIntL : Tryz.prog.cellsOf 3 = 1 := by kernel_rfl
theorem cU8L : Tryz.prog.cellsOf 5 = 1 := by kernel_rfl
theorem cStrL : Tryz.prog.cellsOf 9 = 1 := by kernel_rfl
theorem cOpnL : Tryz.prog.cellsOf 34 = 4 := by kernel_rfl
theorem cEntryL : Tryz.prog.cellsOf 36 = 7 := by kernel_rfl
theorem cBalL : Tryz.prog.cellsOf 32 = 2 := by kernel_rfl
theorem cPutL : Tryz.prog.cellsOf 48 = 10 := by kernel_rfl
theorem list10L {α : Type} {l : List α} (h : l.length = 10) : ∃ a0 a1 a2 a3 a4 a5 a6 a7 a8 a9, l = [a0, a1, a2, a3, a4, a5, a6, a7, a8, a9] := by
  match l, h with
  | [a0, a1, a2, a3, a4, a5, a6, a7, a8, a9], _ => exact ⟨a0, a1, a2, a3, a4, a5, a6, a7, a8, a9, rfl⟩
theorem flat_rangeL {α : Type} {fc : α → List Value} {n : Nat} (hn : 0 < n) (hlen : ∀ x, (fc x).length = n) (f : Nat → α) (len i : Nat) (u : Value) (h : (((List.range len).map f).flatMap fc)[i]? = some u) : ∃ j r, j < len ∧ r < n ∧ i = j * n + r ∧ (fc (f j))[r]? = some u := by
  have hi := (List.getElem?_eq_some_iff.1 h).1
  rw [flat_len hlen, List.length_map, List.length_range] at hi
  have hj : i / n < len := Nat.div_lt_of_lt_mul hi
  have hget : ((List.range len).map f)[i / n]? = some (f (i / n)) := by simp [hj]
  have hr : i % n < n := Nat.mod_lt _ hn
  obtain ⟨v, hv⟩ : ∃ v, (fc (f (i / n)))[i % n]? = some v := ⟨_, List.getElem?_eq_getElem (by rw [hlen]; exact hr)⟩
  have e : i / n * n + i % n = i := by rw [Nat.mul_comm]; exact Nat.div_add_mod i n
  have := flat_at hlen hget (i % n) v hv
  rw [e, h] at this
  refine ⟨i / n, i % n, hj, hr, e.symm, ?_⟩
  rw [hv, ← this]
theorem structs_ofL {H : Type} {enc : TypeId × Value → H} {W : World} {sp : Nat → Bool} {hd : Bool} {b0 fuel : Nat} {cs : List Value} {x : DataW H × List MemPlace} {T E : TypeId} {α : Type} [Inhabited α] {fc : α → List Value} {ok : α → Prop} {k : Nat} (hk : 0 < k) (hfc : ∀ x, (fc x).length = k) (hT : Tryz.prog.underlying T = some (.slice E)) (hE : Tryz.prog.cellsOf E = k)
    (hone : ∀ (fuel : Nat) (cs : List Value) (x : DataW H × List MemPlace), DataW.trod enc Tryz.prog W b0 sp hd fuel E cs = some x → ∃ e : α, cs = fc e ∧ ok e)
    (hf : DataW.trod enc Tryz.prog W b0 sp hd fuel T cs = some x) : ∃ (a : Option Addr) (l : List α) (cap : Nat), cs = [.slice a l.length cap] ∧ Row W a (l.flatMap fc) ∧ l.length ≤ cap ∧ cap ≤ maxLen ∧ ∀ y ∈ l, ok y := by
  rcases Go.Deep.open_slice hT hf with ⟨hcs, hx⟩ | ⟨a, len', cap', m, n, D, Pl, hcs, _, hl, hm, hmm, hx, hel⟩
  · exact ⟨none, [], 0, hcs, .inl rfl, Nat.le_refl _, by simp [maxLen], fun y hy => by simp at hy⟩
  · have hlm : len' ≤ m := by rw [hmm]; split <;> omega
    have hstr : ∀ i, i < len' → ∃ c : α, ok c ∧ ∀ r u, (fc c)[r]? = some u → W.cell? (a.add (i * k + r)) = some u := by
      intro i hi
      obtain ⟨cs', hc, ht⟩ := hel i (by omega)
      rw [hE] at hc
      obtain ⟨_, hlen2, hat⟩ := World.cells?_some hc
      obtain ⟨c, rfl, hok⟩ := hone _ _ _ ht
      refine ⟨c, hok, fun r u hr => ?_⟩
      have hlt := (List.getElem?_eq_some_iff.1 hr).1
      have := hat r (by rw [hfc] at hlt; exact hlt)
      rw [Go.Deep.add_add] at this
      rw [this, ← hr, List.getElem?_eq_getElem hlt]
    obtain ⟨f, hf2⟩ := Go.Deep.choose_lt hstr
    refine ⟨some a, (List.range len').map f, cap', by simpa using hcs, ?_, by simpa using hl, hm, fun y hy => ?_⟩
    · by_cases h0 : len' = 0
      · left
        subst h0
        rfl
      · right
        obtain ⟨b, off, spot⟩ := a
        have hspot : spot = none := by
          obtain ⟨v, hv⟩ : ∃ v, (fc (f 0))[0]? = some v := ⟨_, List.getElem?_eq_getElem (by rw [hfc]; exact hk)⟩
          have := World.cell?_spot ((hf2 0 (by omega)).2 0 _ hv)
          simpa [Addr.add] using this
        subst hspot
        refine ⟨b, off, rfl, fun i u hu => ?_⟩
        obtain ⟨j, r, hj, _, rfl, hr⟩ := flat_rangeL hk hfc f len' i u hu
        have := (hf2 j hj).2 r u hr
        rw [addr_add] at this
        exact this
    · obtain ⟨i, hi, rfl⟩ := List.mem_map.1 hy
      exact (hf2 i (List.mem_range.1 hi)).1
theorem u8_wfL {n : Int} (h : (Lit.int .u8 n).wf = true) : ∃ k : Nat, n = k ∧ k ≤ 255 := by
  have e1 : IntKind.u8.min = 0 := by decide
  have e2 : IntKind.u8.max = 255 := by decide
  simp [Lit.wf, e1, e2] at h
  exact ⟨n.toNat, by omega, by omega⟩
instance : Inhabited PutL := ⟨⟨0, ⟨0, 0⟩, zeroE 0⟩⟩
def okP (p : PutL) : Prop := p.at' ≤ 255
set_option maxRecDepth 100000 in
theorem put_ofL {H : Type} {enc : TypeId × Value → H} {W : World} {sp : Nat → Bool} {hd : Bool} {b0 fuel : Nat} {cs : List Value} {x : DataW H × List MemPlace}
    (h : DataW.trod enc Tryz.prog W b0 sp hd fuel 48 cs = some x) : ∃ p : PutL, cs = ptC p ∧ okP p := by
  obtain ⟨z0, z1, z2, n0, hl, g0, g1, g2⟩ := trod_strL3 Tryz.underlying48 h
  rw [cPutL] at hl
  obtain ⟨p0, p1, p2, a0, a1, a2, a3, a4, a5, a6, rfl⟩ := list10L hl
  obtain ⟨b0', b1', m, _, f0, f1⟩ := trod_strL2 Tryz.underlying32 g1
  obtain ⟨y0, y1, y2, y3, n, _, h0, h1, h2, h3⟩ := trod_strL4 Tryz.underlying36 g2
  obtain ⟨u0, u1, u2, u3, k, _, e0, e1, e2, e3⟩ := trod_strL4 Tryz.underlying34 h3
  simp [cBalL, cEntryL, cOpnL, cIntL, cU8L, cStrL] at g0 f0 f1 h0 h1 h2 e0 e1 e2 e3
  obtain ⟨at', q7, _, hwf⟩ := DataW.trod_int Tryz.underlying5 g0
  obtain ⟨rn, q8, _⟩ := DataW.trod_int Tryz.underlying3 f0
  obtain ⟨rp, q9, _⟩ := DataW.trod_int Tryz.underlying3 f1
  obtain ⟨kd, q0, _⟩ := DataW.trod_int Tryz.underlying5 h0
  obtain ⟨cl, q1, _⟩ := DataW.trod_int Tryz.underlying3 h1
  obtain ⟨sq, q2, _⟩ := DataW.trod_int Tryz.underlying3 h2
  obtain ⟨ok, q3, _⟩ := DataW.trod_int Tryz.underlying5 e0
  obtain ⟨s1, q4, _⟩ := DataW.trod_string Tryz.underlying9 e1
  obtain ⟨s2, q5, _⟩ := DataW.trod_string Tryz.underlying9 e2
  obtain ⟨s3, q6, _⟩ := DataW.trod_string Tryz.underlying9 e3
  simp at q0 q1 q2 q3 q4 q5 q6 q7 q8 q9
  subst q0 q1 q2 q3 q4 q5 q6 q7 q8 q9
  obtain ⟨at2, rfl, hle⟩ := u8_wfL hwf
  exact ⟨⟨at2, ⟨rn, rp⟩, ⟨kd, cl, sq, ⟨ok, s1, s2, s3⟩⟩⟩, rfl, hle⟩
set_option maxRecDepth 100000 in
theorem open_putsL {H : Type} {enc : TypeId × Value → H} {W : World} {base : Nat} {sp : Nat → Bool} {hd : Bool} {b0 : Nat} {v : Value} {d : DataW H} {p : List MemPlace}
    (hv : Value.okWide Tryz.prog W .any base 46 v) (h : DataW.Trod enc Tryz.prog W b0 sp hd 46 v d p) : ∃ (a : Option Addr) (l : List PutL) (cap : Nat), v = .slice a l.length cap ∧ Row W a (l.flatMap ptC) ∧ l.length ≤ cap ∧ cap ≤ maxLen ∧ ∀ y ∈ l, okP y := by
  obtain ⟨a0, len, cap, rfl⟩ := okWide_slice Tryz.underlying46 hv
  obtain ⟨fuel, hf⟩ := h
  obtain ⟨a, l, c, hcs, hr, h1, h2, h3⟩ := structs_ofL (ok := okP) (by decide) ptC_len Tryz.underlying46 cPutL (fun _ _ _ h => put_ofL h) hf
  simp [Value.cells] at hcs
  obtain ⟨rfl, rfl, rfl⟩ := hcs
  exact ⟨_, l, _, rfl, hr, h1, h2, h3⟩
end Go.Proofs.YtknchbhobopkeaaGreatDoor
namespace Go.Proofs.YtknchbhobopkeaaGreatDoor
open Go.RowKit
section
variable {P : Program}
end
end Go.Proofs.YtknchbhobopkeaaGreatDoor
namespace Go.Proofs.YtknchbhobopkeaaGreatDoor
open Go.RowKit
theorem ru_at (p : SRec) (f : Nat → SCp) (i : Int) (g q1 q2 : Nat) : (∀ w, (Instr.index 164 (.agg (ruA p f i g q1 q2)) (.int .i64 0)).run Tryz.prog w = .ok (.agg #[r2V g, isV q1]) w) ∧ (∀ w, (Instr.index 164 (.agg (ruA p f i g q1 q2)) (.int .i64 1)).run Tryz.prog w = .ok (.agg #[byV p f i, isV q2]) w) ∧ (∀ w, (Instr.index 164 (.agg (ruA p f i g q1 q2)) (.int .i64 2)).run Tryz.prog w = .ok (.agg #[r3V g, r4V g]) w) ∧ ∀ w, (Instr.index 164 (.agg (ruA p f i g q1 q2)) (.int .i64 3)).run Tryz.prog w = .ok (.agg #[r5V, r6V g]) w :=
  ⟨fun _ => by kernel_rfl, fun _ => by kernel_rfl, fun _ => by kernel_rfl, fun _ => by kernel_rfl⟩
theorem rl_new (x y : Value) (hx : x.oneCell' = true) (hy : y.oneCell' = true) : (Value.agg #[x, y]).cells = #[x, y] ∧ (#[x, y] : Array Value).size = 2 ∧ ∀ u ∈ (#[x, y] : Array Value).toList, u.oneCell' = true := ⟨rfl, rfl, by intro u hu; simp at hu; rcases hu with rfl | rfl <;> assumption⟩
theorem rl_0 {w : World} {b : Nat} {T : TypeId} {x y : Value} (h : w.heap[b]? = some (.cells #[x, y] T (0, 0))) : w.cell? ⟨b, 0, none⟩ = some x := blk_cell h 0 _ rfl
theorem rl_1 {w : World} {b : Nat} {T : TypeId} {x y : Value} (h : w.heap[b]? = some (.cells #[x, y] T (0, 0))) : w.cell? ⟨b, 1, none⟩ = some y := blk_cell h 1 _ rfl
theorem rp_k (i st : Int) : (Value.agg #[.int .i64 i, .int .u8 st, .int .i64 0, .int .i64 0, .int .u8 0, .int .i64 0, .int .i64 0, .int .u8 0, .string ⟨#[]⟩, .string ⟨#[]⟩, .string ⟨#[]⟩]).cells = rpA i st zeroL (zeroE 0) ∧ (rpA i st zeroL (zeroE 0)).size = 11 ∧ ∀ u ∈ (rpA i st zeroL (zeroE 0)).toList, u.oneCell' = true := ⟨rfl, rfl, by simp [rpA, Value.oneCell']⟩
theorem rp_bal (i st : Int) (b b' : Bal) (e : En) : 2 + 2 ≤ (rpA i st b e).size ∧ (Value.agg (blA b')).cells.size = 2 ∧ (∀ u ∈ (Value.agg (blA b')).cells.toList, u.oneCell' = true) ∧ ((rpA i st b e).toList.take 2 ++ (Value.agg (blA b')).cells.toList ++ (rpA i st b e).toList.drop (2 + 2)).toArray = rpA i st b' e :=
  ⟨by show _ ≤ 11; omega, rfl, by simp [Value.cells, blA, Value.oneCell'], rfl⟩
theorem rc_bal (p : SRec) : 2 + 2 ≤ (recA p).size ∧ (recA p).extract 2 (2 + 2) = blA p.bal := ⟨by show _ ≤ 5; omega, rfl⟩
section
variable {w : World} {p : SRec} {f : Nat → SCp} {i : Int}
set_option maxRecDepth 100000 in
set_option maxHeartbeats 1000000 in
theorem what_lost (hw : p.wh = 0 ∨ p.wh = 1) (hk : intactS p f i = none) (h1 : p.st = 1 ∧ p.idx = i) (w : World) : Calls Tryz.prog 68 #[.agg (recA p), .agg (ffA f), .int .i64 i] w fun e w' => e = .returned (.tuple #[.int .u8 2, .agg (rpA i 3 p.bal (zeroE 0)), .int .i64 (-1)]) ∧ Below w.heap.size w w' := by
  have hin := fun w => intact_any2 hw _ hk w
  have hr2 := fun g w h => r2_any (w := w) (g := g) (p := p) (f := f) (i := i) h true (decide_eq_true h1)
  clear hk hw h1
  go_enter Tryz.func68, Tryz.ntmps68
  refine wp_seq_k (fun K hK => ?_)
  have HK := Lib.hid hK
  clear hK
  go_wp2
  refine HK.out _ _ ?_
  clear HK
  have hbp := blw w (Obj.cells (recA p) 79)
  have hbq := hbp.trans ((blw (w.alloc (Obj.cells (recA p) 79)) (Obj.cells (ffA f) 82)).mono hbp.size)
  have hb1 := hbq.trans ((blw ((w.alloc (Obj.cells (recA p) 79)).alloc (Obj.cells (ffA f) 82)) (Obj.cells #[.int .i64 0, .int .u8 0, .int .i64 0, .int .i64 0, .int .u8 0, .int .i64 0, .int .i64 0, .int .u8 0, .string ⟨#[]⟩, .string ⟨#[]⟩, .string ⟨#[]⟩] 44)).mono hbq.size)
  have e1 : (w.alloc (Obj.cells (recA p) 79)).heap.size = w.heap.size + 1 := by simp
  have e2 : ((w.alloc (Obj.cells (recA p) 79)).alloc (Obj.cells (ffA f) 82)).heap.size = w.heap.size + 1 + 1 := by simp
  have P1 : (((w.alloc (Obj.cells (recA p) 79)).alloc (Obj.cells (ffA f) 82)).alloc (Obj.cells #[.int .i64 0, .int .u8 0, .int .i64 0, .int .i64 0, .int .u8 0, .int .i64 0, .int .i64 0, .int .u8 0, .string ⟨#[]⟩, .string ⟨#[]⟩, .string ⟨#[]⟩] 44)).heap[w.heap.size]? = some (.cells (recA p) 79 (0, 0)) := tr_al (Obj.cells #[.int .i64 0, .int .u8 0, .int .i64 0, .int .i64 0, .int .u8 0, .int .i64 0, .int .i64 0, .int .u8 0, .string ⟨#[]⟩, .string ⟨#[]⟩, .string ⟨#[]⟩] 44) (tr_al (Obj.cells (ffA f) 82) (heap_alloc_new w (Obj.cells (recA p) 79)))
  have F1 : (((w.alloc (Obj.cells (recA p) 79)).alloc (Obj.cells (ffA f) 82)).alloc (Obj.cells #[.int .i64 0, .int .u8 0, .int .i64 0, .int .i64 0, .int .u8 0, .int .i64 0, .int .i64 0, .int .u8 0, .string ⟨#[]⟩, .string ⟨#[]⟩, .string ⟨#[]⟩] 44)).heap[w.heap.size + 1]? = some (.cells (ffA f) 82 (0, 0)) := tr_al (Obj.cells #[.int .i64 0, .int .u8 0, .int .i64 0, .int .i64 0, .int .u8 0, .int .i64 0, .int .i64 0, .int .u8 0, .string ⟨#[]⟩, .string ⟨#[]⟩, .string ⟨#[]⟩] 44) (e1 ▸ heap_alloc_new (w.alloc (Obj.cells (recA p) 79)) (Obj.cells (ffA f) 82))
  have R1 : (((w.alloc (Obj.cells (recA p) 79)).alloc (Obj.cells (ffA f) 82)).alloc (Obj.cells #[.int .i64 0, .int .u8 0, .int .i64 0, .int .i64 0, .int .u8 0, .int .i64 0, .int .i64 0, .int .u8 0, .string ⟨#[]⟩, .string ⟨#[]⟩, .string ⟨#[]⟩] 44)).heap[w.heap.size + 1 + 1]? = some (.cells (rpA 0 0 zeroL (zeroE 0)) 44 (0, 0)) := e2 ▸ heap_alloc_new ((w.alloc (Obj.cells (recA p) 79)).alloc (Obj.cells (ffA f) 82)) (Obj.cells #[.int .i64 0, .int .u8 0, .int .i64 0, .int .i64 0, .int .u8 0, .int .i64 0, .int .i64 0, .int .u8 0, .string ⟨#[]⟩, .string ⟨#[]⟩, .string ⟨#[]⟩] 44)
  have hn1 : w.heap.size < w.heap.size + 1 := by omega
  have hn2 : w.heap.size + 1 < w.heap.size + 1 + 1 := by omega
  clear hbp hbq e1 e2
  generalize ((w.alloc (Obj.cells (recA p) 79)).alloc (Obj.cells (ffA f) 82)).alloc (Obj.cells #[.int .i64 0, .int .u8 0, .int .i64 0, .int .i64 0, .int .u8 0, .int .i64 0, .int .i64 0, .int .u8 0, .string ⟨#[]⟩, .string ⟨#[]⟩, .string ⟨#[]⟩] 44) = w1 at *
  generalize w.heap.size + 1 + 1 = rb at *
  generalize w.heap.size + 1 = fb at *
  refine wp_seq_k (fun K hK => ?_)
  have HK := Lib.hid hK
  clear hK
  go_wp2_with (first
    | ((with_reducible refine wpList_ldB 79 _ ?_); refine ⟨rfl, _, ⟨_, _, _, _, _, Tryz.isAgg79, Tryz.sizeOf79, rfl, ‹_›, arr_all rfl⟩, ?_⟩)
    | ((with_reducible refine wpList_ldB 82 _ ?_); refine ⟨rfl, _, ⟨_, _, _, _, _, Tryz.isAgg82, Tryz.sizeOf82, rfl, ‹_›, arr_all rfl⟩, ?_⟩)
    | (with_reducible refine wpList_bpr (p := p) (f := f) (i := i) _ _ _ (by simp [Act.eval]) (by simp [Act.eval]) (by simp [Act.eval]) ?_)
    | ((first | (with_reducible refine wpList_stNew 120 _ _ ?_) | (with_reducible refine wp_stNew 120 _ _ ?_)); refine ⟨_, _, ⟨Tryz.sizeOf120, rfl, pr_new _ _ _⟩, rfl, ?_⟩))
  refine HK.out _ _ ?_
  clear HK
  have hbx := blw w1 (Obj.cells (prA p f i) 120)
  have X2 := heap_alloc_new w1 (Obj.cells (prA p f i) 120)
  have P2 := tr_bl hbx P1
  have R2 := tr_bl hbx R1
  have hb2 := hb1.trans (hbx.mono hb1.size)
  clear hb1 P1 F1 R1 hbx
  generalize w1.alloc (Obj.cells (prA p f i) 120) = w2 at *
  generalize w1.heap.size = xb at *
  refine wp_seq_k (fun K hK => ?_)
  have HK := Lib.hid hK
  clear hK
  refine wp_seq_k (fun K hK => ?_)
  have HK := Lib.hid hK
  clear hK
  go_wp2_with (first
    | ((with_reducible refine wpList_ldB 120 _ ?_); refine ⟨rfl, _, ⟨_, _, _, _, _, Tryz.isAgg120, Tryz.sizeOf120, rfl, ‹_›, arr_all rfl⟩, ?_⟩)
    | (go_at_call 60; refine (hin _).mono ?_; rintro e w3 ⟨rfl, hb3⟩))
  refine HK.out _ _ ?_
  clear HK
  have P3 := tr_bl hb3 P2
  have R3 := tr_bl hb3 R2
  have X3 := tr_bl hb3 X2
  have hb4 := hb2.trans (hb3.mono hb2.size)
  clear hb2 hb3 P2 R2 X2 hin
  rw [show outV none = .int .i64 (-1) from rfl]
  go_wp2
  refine HK.out _ _ ?_
  clear HK
  refine wp_seq_k (fun K hK => ?_)
  have HK := Lib.hid hK
  clear hK
  refine wp_seq_k (fun K hK => ?_)
  have HK := Lib.hid hK
  clear hK
  go_wp2_with (first
    | ((with_reducible refine wpList_ldB 120 _ ?_); refine ⟨rfl, _, ⟨_, _, _, _, _, Tryz.isAgg120, Tryz.sizeOf120, rfl, ‹_›, arr_all rfl⟩, ?_⟩)
    | (go_at_call 93; refine (rules_any _).mono ?_; rintro e w5 ⟨g, q1, q2, rfl, G5, a0, a1, b0, b1, hb5⟩))
  refine HK.out _ _ ?_
  clear HK
  have P5 := tr_bl hb5 P3
  have R5 := tr_bl hb5 R3
  have hb6 := hb4.trans (hb5.mono hb4.size)
  clear hb4 hb5 P3 R3 X3
  obtain ⟨i0, i1, i2, i3⟩ := ru_at p f i g q1 q2
  go_wp2
  go_loopw [37, 12] (fun i' _ wr => ∃ j : Nat, j ≤ 0 ∧ i' = .int .i64 (j : Nat) ∧ Below w5.heap.size w5 wr) (fun i' _ _ => 4 - (intOf i').toNat)
  case atStart => exact ⟨0, by omega, rfl, Below.refl _ _⟩
  case' round => obtain ⟨j, hj, rfl, hbr⟩ := hrel
  obtain rfl : j = 0 := by omega
  have G6 := tr_bl hbr G5
  have P6 := tr_bl hbr P5
  have R6 := tr_bl hbr R5
  have x0 := (hbr.cell (World.block_lt_of_cell? _ _ a0)).trans a0
  have x1 := (hbr.cell (World.block_lt_of_cell? _ _ a1)).trans a1
  have y0 := (hbr.cell (World.block_lt_of_cell? _ _ b0)).trans b0
  have y1 := (hbr.cell (World.block_lt_of_cell? _ _ b1)).trans b1
  have hbw := hb6.trans (hbr.mono hb6.size)
  have hbB := blw wr ((Obj.cells #[r2V g, isV q1] 163))
  have d0 := rl_0 (heap_alloc_new wr ((Obj.cells #[r2V g, isV q1] 163)))
  have d1 := rl_1 (heap_alloc_new wr ((Obj.cells #[r2V g, isV q1] 163)))
  have D := heap_alloc_new wr ((Obj.cells #[r2V g, isV q1] 163))
  have G7 := tr_bl hbB G6
  have P7 := tr_bl hbB P6
  have R7 := tr_bl hbB R6
  have x2 := (hbB.cell (World.block_lt_of_cell? _ _ x0)).trans x0
  have x3 := (hbB.cell (World.block_lt_of_cell? _ _ x1)).trans x1
  have y2 := (hbB.cell (World.block_lt_of_cell? _ _ y0)).trans y0
  have y3 := (hbB.cell (World.block_lt_of_cell? _ _ y1)).trans y1
  have hb7 := hbw.trans (hbB.mono hbw.size)
  have hbrB := hbr.trans (hbB.mono hbr.size)
  clear G6 P6 R6 x0 x1 y0 y1 hbw
  skip
  skip
  go_wp2_with (first
    | ((first | (with_reducible refine wpList_stNew 163 _ _ ?_) | (with_reducible refine wp_stNew 163 _ _ ?_)); refine ⟨_, _, ⟨Tryz.sizeOf163, rfl, rl_new _ _ rfl rfl⟩, rfl, ?_⟩)
    | (go_at_call 110; refine (hr2 _ _ G7).mono ?_; rintro e w8 ⟨rfl, hb8⟩; have d1 := (hb8.cell (World.block_lt_of_cell? _ _ d1)).trans d1; have x2 := (hb8.cell (World.block_lt_of_cell? _ _ x2)).trans x2; have x3 := (hb8.cell (World.block_lt_of_cell? _ _ x3)).trans x3; have y2 := (hb8.cell (World.block_lt_of_cell? _ _ y2)).trans y2; have y3 := (hb8.cell (World.block_lt_of_cell? _ _ y3)).trans y3; have P8 := tr_bl hb8 P7; have R8 := tr_bl hb8 R7; have G8 := tr_bl hb8 G7))
  have hb8' := hb7.trans (hb8.mono hb7.size)
  refine (is1_any q1 2 3 _ x2 x3).mono ?_
  rintro e w9 ⟨rfl, hb9⟩
  have P9 := tr_bl hb9 P8
  have R9 := tr_bl hb9 R8
  have hb10 := hb8'.trans (hb9.mono hb8'.size)
  have hbo := blw w9 (Obj.cells (rpA i 3 zeroL (zeroE 0)) 44)
  have OZ := heap_alloc_new w9 (Obj.cells (rpA i 3 zeroL (zeroE 0)) 44)
  have PZ := tr_bl hbo P9
  have RZ := tr_bl hbo R9
  have hbz := hb10.trans (hbo.mono hb10.size)
  have hob0 := lt_blk R9
  have hob1 := lt_blk P9
  clear d0 d1 D G7 P7 R7 x2 x3 y2 y3 hb7 hbrB G8 hb8 hb8' P8 R8 hb9 P9 R9 hb10 hbB
  go_wp2_with (first
    | ((first | (with_reducible refine wpList_stNew 44 _ _ ?_) | (with_reducible refine wp_stNew 44 _ _ ?_)); refine ⟨_, _, ⟨Tryz.sizeOf44, rfl, rp_k _ _⟩, rfl, ?_⟩)
    | ((with_reducible refine wpList_ldB 32 _ ?_); refine ⟨rfl, _, ⟨_, _, _, _, _, Tryz.isAgg32, Tryz.sizeOf32, rfl, ‹_›, rc_bal _⟩, ?_⟩)
    | ((first | (with_reducible refine wpList_stB 32 _ _ ?_) | (with_reducible refine wp_stB 32 _ _ ?_)); refine ⟨_, _, _, ⟨_, _, _, Tryz.sizeOf32, rfl, ‹_›, rp_bal _ _ _ _ _⟩, ?_⟩; intro wz O10 g10))
  have RZ := tr_st g10 RZ (by omega)
  have hbz := bls hbz (Nat.le_refl _) g10 (by omega)
  have hob : rb ≠ w9.heap.size := by omega
  clear OZ PZ hbo g10
  have OZ := O10
  clear O10
  generalize w9.heap.size = ob at *
  have hbd := (Below.refl wz.heap.size wz).drew
  have O8 := tr_bl hbd OZ
  have R8 := tr_bl hbd RZ
  have hb13 := hbz.trans (hbd.mono hbz.size)
  clear hbz OZ RZ hbd
  refine wp_region_held_drew (S := fun w' => w'.heap[ob]? = some (.cells (rpA i 3 (p.bal) (zeroE 0)) 44 (0, 0))) (by kernel_rfl) O8 (fun hS0 => ?_)
  generalize wz.drew = x0 at *
  refine wpAnyH_take (i := 0) (oi := ⟨_, _, _, _, _, _⟩) (v := ?_) rfl (by kernel_rfl) (by kernel_rfl) (by kernel_rfl) (fun _ _ _ h => h) (Or.inl ⟨by rfl, ?_⟩) (by assumption) ?_
  rotate_left
  · intro wS hSw; go_simp; (try with_reducible rfl)
  (try simp only [Act.put]); (try simp only [List.setIfInBounds_toArray]); (try simp only [List.set_cons_succ]); (try simp only [List.set_cons_zero])
  refine wpAnyH_take (i := 1) (oi := ⟨_, _, _, _, _, _⟩) (v := .agg (rpA i 3 (p.bal) (zeroE 0))) rfl (by kernel_rfl) (by kernel_rfl) (by kernel_rfl) (fun _ _ _ h => h) (Or.inl ⟨by rfl, fun wS hSw => ?_⟩) (by assumption) ?_
  · exact exec_ldB 44 _ ⟨_, _, _, _, _, Tryz.isAgg44, Tryz.sizeOf44, rfl, hSw, arr_all rfl⟩
  (try simp only [Act.put]); (try simp only [List.setIfInBounds_toArray]); (try simp only [List.set_cons_succ]); (try simp only [List.set_cons_zero])
  refine wpAnyH_take (i := 2) (oi := ⟨_, _, _, _, _, _⟩) (v := ?_) rfl (by kernel_rfl) (by kernel_rfl) (by kernel_rfl) (fun _ _ _ h => h) (Or.inl ⟨by rfl, ?_⟩) (by assumption) ?_
  rotate_left
  · intro wS hSw; go_simp; (try with_reducible rfl)
  (try simp only [Act.put]); (try simp only [List.setIfInBounds_toArray]); (try simp only [List.set_cons_succ]); (try simp only [List.set_cons_zero])
  refine wpAnyH_ready (rs := [3]) (by kernel_rfl) (by simp) ?_
  refine AllReadyH.cons (o := ⟨_, _, _, _, _, _⟩) rfl (fun K' hK' => ?_) AllReadyH.nil
  refine (if_pos (by rfl)).mpr ?_
  refine wp_stB 44 _ _ ?_
  refine ⟨_, _, _, ⟨_, _, _, Tryz.sizeOf44, rfl, R8, rp_over _ _ _ _ i 3 (p.bal) (zeroE 0)⟩, ?_⟩
  intro w13 R13 g13
  refine hK'.out _ _ (tr_st g13 O8 hob) (fun _ => ?_)
  clear hK'
  (try simp only [Act.put]); (try simp only [List.setIfInBounds_toArray]); (try simp only [List.set_cons_succ]); (try simp only [List.set_cons_zero])
  refine wpAnyH_take (i := 4) (oi := ⟨_, _, _, _, _, _⟩) (v := ?_) rfl (by kernel_rfl) (by kernel_rfl) (by kernel_rfl) (fun _ _ _ h => h) (Or.inl ⟨by rfl, ?_⟩) (by assumption) ?_
  rotate_left
  · intro wS hSw; go_simp; (try with_reducible rfl)
  (try simp only [Act.put]); (try simp only [List.setIfInBounds_toArray]); (try simp only [List.set_cons_succ]); (try simp only [List.set_cons_zero])
  refine wpAnyH_done (by kernel_rfl) ?_ _
  go_wp2
  refine bodyPost_ret (results_t1c1t1' rfl rfl (run_loadVar_all Tryz.isAgg44 Tryz.sizeOf44 R13 rfl)) rfl ⟨rfl, bls hb13 (Nat.le_refl _) g13 (by omega)⟩
set_option maxRecDepth 100000 in
set_option maxHeartbeats 1000000 in
theorem what_blind (hw : p.wh = 0 ∨ p.wh = 1) (hk : intactS p f i = none) (h1 : ¬ (p.st = 1 ∧ p.idx = i)) (h2 : beyondS p f i = true) (w : World) : Calls Tryz.prog 68 #[.agg (recA p), .agg (ffA f), .int .i64 i] w fun e w' => e = .returned (.tuple #[.int .u8 2, .agg (rpA i 4 zeroL (zeroE 0)), .int .i64 (-1)]) ∧ Below w.heap.size w w' := by
  have hin := fun w => intact_any2 hw _ hk w
  have hr2 := fun g w h => r2_any (w := w) (g := g) (p := p) (f := f) (i := i) h false (decide_eq_false h1)
  have hby := fun w => beyond_any2 (p := p) (f := f) (i := i) _ h2 w
  clear hk hw h1 h2
  go_enter Tryz.func68, Tryz.ntmps68
  refine wp_seq_k (fun K hK => ?_)
  have HK := Lib.hid hK
  clear hK
  go_wp2
  refine HK.out _ _ ?_
  clear HK
  have hbp := blw w (Obj.cells (recA p) 79)
  have hbq := hbp.trans ((blw (w.alloc (Obj.cells (recA p) 79)) (Obj.cells (ffA f) 82)).mono hbp.size)
  have hb1 := hbq.trans ((blw ((w.alloc (Obj.cells (recA p) 79)).alloc (Obj.cells (ffA f) 82)) (Obj.cells #[.int .i64 0, .int .u8 0, .int .i64 0, .int .i64 0, .int .u8 0, .int .i64 0, .int .i64 0, .int .u8 0, .string ⟨#[]⟩, .string ⟨#[]⟩, .string ⟨#[]⟩] 44)).mono hbq.size)
  have e1 : (w.alloc (Obj.cells (recA p) 79)).heap.size = w.heap.size + 1 := by simp
  have e2 : ((w.alloc (Obj.cells (recA p) 79)).alloc (Obj.cells (ffA f) 82)).heap.size = w.heap.size + 1 + 1 := by simp
  have P1 : (((w.alloc (Obj.cells (recA p) 79)).alloc (Obj.cells (ffA f) 82)).alloc (Obj.cells #[.int .i64 0, .int .u8 0, .int .i64 0, .int .i64 0, .int .u8 0, .int .i64 0, .int .i64 0, .int .u8 0, .string ⟨#[]⟩, .string ⟨#[]⟩, .string ⟨#[]⟩] 44)).heap[w.heap.size]? = some (.cells (recA p) 79 (0, 0)) := tr_al (Obj.cells #[.int .i64 0, .int .u8 0, .int .i64 0, .int .i64 0, .int .u8 0, .int .i64 0, .int .i64 0, .int .u8 0, .string ⟨#[]⟩, .string ⟨#[]⟩, .string ⟨#[]⟩] 44) (tr_al (Obj.cells (ffA f) 82) (heap_alloc_new w (Obj.cells (recA p) 79)))
  have F1 : (((w.alloc (Obj.cells (recA p) 79)).alloc (Obj.cells (ffA f) 82)).alloc (Obj.cells #[.int .i64 0, .int .u8 0, .int .i64 0, .int .i64 0, .int .u8 0, .int .i64 0, .int .i64 0, .int .u8 0, .string ⟨#[]⟩, .string ⟨#[]⟩, .string ⟨#[]⟩] 44)).heap[w.heap.size + 1]? = some (.cells (ffA f) 82 (0, 0)) := tr_al (Obj.cells #[.int .i64 0, .int .u8 0, .int .i64 0, .int .i64 0, .int .u8 0, .int .i64 0, .int .i64 0, .int .u8 0, .string ⟨#[]⟩, .string ⟨#[]⟩, .string ⟨#[]⟩] 44) (e1 ▸ heap_alloc_new (w.alloc (Obj.cells (recA p) 79)) (Obj.cells (ffA f) 82))
  have R1 : (((w.alloc (Obj.cells (recA p) 79)).alloc (Obj.cells (ffA f) 82)).alloc (Obj.cells #[.int .i64 0, .int .u8 0, .int .i64 0, .int .i64 0, .int .u8 0, .int .i64 0, .int .i64 0, .int .u8 0, .string ⟨#[]⟩, .string ⟨#[]⟩, .string ⟨#[]⟩] 44)).heap[w.heap.size + 1 + 1]? = some (.cells (rpA 0 0 zeroL (zeroE 0)) 44 (0, 0)) := e2 ▸ heap_alloc_new ((w.alloc (Obj.cells (recA p) 79)).alloc (Obj.cells (ffA f) 82)) (Obj.cells #[.int .i64 0, .int .u8 0, .int .i64 0, .int .i64 0, .int .u8 0, .int .i64 0, .int .i64 0, .int .u8 0, .string ⟨#[]⟩, .string ⟨#[]⟩, .string ⟨#[]⟩] 44)
  have hn1 : w.heap.size < w.heap.size + 1 := by omega
  have hn2 : w.heap.size + 1 < w.heap.size + 1 + 1 := by omega
  clear hbp hbq e1 e2
  generalize ((w.alloc (Obj.cells (recA p) 79)).alloc (Obj.cells (ffA f) 82)).alloc (Obj.cells #[.int .i64 0, .int .u8 0, .int .i64 0, .int .i64 0, .int .u8 0, .int .i64 0, .int .i64 0, .int .u8 0, .string ⟨#[]⟩, .string ⟨#[]⟩, .string ⟨#[]⟩] 44) = w1 at *
  generalize w.heap.size + 1 + 1 = rb at *
  generalize w.heap.size + 1 = fb at *
  refine wp_seq_k (fun K hK => ?_)
  have HK := Lib.hid hK
  clear hK
  go_wp2_with (first
    | ((with_reducible refine wpList_ldB 79 _ ?_); refine ⟨rfl, _, ⟨_, _, _, _, _, Tryz.isAgg79, Tryz.sizeOf79, rfl, ‹_›, arr_all rfl⟩, ?_⟩)
    | ((with_reducible refine wpList_ldB 82 _ ?_); refine ⟨rfl, _, ⟨_, _, _, _, _, Tryz.isAgg82, Tryz.sizeOf82, rfl, ‹_›, arr_all rfl⟩, ?_⟩)
    | (with_reducible refine wpList_bpr (p := p) (f := f) (i := i) _ _ _ (by simp [Act.eval]) (by simp [Act.eval]) (by simp [Act.eval]) ?_)
    | ((first | (with_reducible refine wpList_stNew 120 _ _ ?_) | (with_reducible refine wp_stNew 120 _ _ ?_)); refine ⟨_, _, ⟨Tryz.sizeOf120, rfl, pr_new _ _ _⟩, rfl, ?_⟩))
  refine HK.out _ _ ?_
  clear HK
  have hbx := blw w1 (Obj.cells (prA p f i) 120)
  have X2 := heap_alloc_new w1 (Obj.cells (prA p f i) 120)
  have P2 := tr_bl hbx P1
  have R2 := tr_bl hbx R1
  have hb2 := hb1.trans (hbx.mono hb1.size)
  clear hb1 P1 F1 R1 hbx
  generalize w1.alloc (Obj.cells (prA p f i) 120) = w2 at *
  generalize w1.heap.size = xb at *
  refine wp_seq_k (fun K hK => ?_)
  have HK := Lib.hid hK
  clear hK
  refine wp_seq_k (fun K hK => ?_)
  have HK := Lib.hid hK
  clear hK
  go_wp2_with (first
    | ((with_reducible refine wpList_ldB 120 _ ?_); refine ⟨rfl, _, ⟨_, _, _, _, _, Tryz.isAgg120, Tryz.sizeOf120, rfl, ‹_›, arr_all rfl⟩, ?_⟩)
    | (go_at_call 60; refine (hin _).mono ?_; rintro e w3 ⟨rfl, hb3⟩))
  refine HK.out _ _ ?_
  clear HK
  have P3 := tr_bl hb3 P2
  have R3 := tr_bl hb3 R2
  have X3 := tr_bl hb3 X2
  have hb4 := hb2.trans (hb3.mono hb2.size)
  clear hb2 hb3 P2 R2 X2 hin
  rw [show outV none = .int .i64 (-1) from rfl]
  go_wp2
  refine HK.out _ _ ?_
  clear HK
  refine wp_seq_k (fun K hK => ?_)
  have HK := Lib.hid hK
  clear hK
  refine wp_seq_k (fun K hK => ?_)
  have HK := Lib.hid hK
  clear hK
  go_wp2_with (first
    | ((with_reducible refine wpList_ldB 120 _ ?_); refine ⟨rfl, _, ⟨_, _, _, _, _, Tryz.isAgg120, Tryz.sizeOf120, rfl, ‹_›, arr_all rfl⟩, ?_⟩)
    | (go_at_call 93; refine (rules_any _).mono ?_; rintro e w5 ⟨g, q1, q2, rfl, G5, a0, a1, b0, b1, hb5⟩))
  refine HK.out _ _ ?_
  clear HK
  have P5 := tr_bl hb5 P3
  have R5 := tr_bl hb5 R3
  have hb6 := hb4.trans (hb5.mono hb4.size)
  clear hb4 hb5 P3 R3 X3
  obtain ⟨i0, i1, i2, i3⟩ := ru_at p f i g q1 q2
  go_wp2
  go_loopw [37, 12] (fun i' _ wr => ∃ j : Nat, j ≤ 1 ∧ i' = .int .i64 (j : Nat) ∧ Below w5.heap.size w5 wr) (fun i' _ _ => 4 - (intOf i').toNat)
  case atStart => exact ⟨0, by omega, rfl, Below.refl _ _⟩
  case' round => obtain ⟨j, hj, rfl, hbr⟩ := hrel
  rcases (show j = 0 ∨ j = 1 by omega) with rfl | rfl
  · skip
    have G6 := tr_bl hbr G5
    have P6 := tr_bl hbr P5
    have R6 := tr_bl hbr R5
    have x0 := (hbr.cell (World.block_lt_of_cell? _ _ a0)).trans a0
    have x1 := (hbr.cell (World.block_lt_of_cell? _ _ a1)).trans a1
    have y0 := (hbr.cell (World.block_lt_of_cell? _ _ b0)).trans b0
    have y1 := (hbr.cell (World.block_lt_of_cell? _ _ b1)).trans b1
    have hbw := hb6.trans (hbr.mono hb6.size)
    have hbB := blw wr ((Obj.cells #[r2V g, isV q1] 163))
    have d0 := rl_0 (heap_alloc_new wr ((Obj.cells #[r2V g, isV q1] 163)))
    have d1 := rl_1 (heap_alloc_new wr ((Obj.cells #[r2V g, isV q1] 163)))
    have D := heap_alloc_new wr ((Obj.cells #[r2V g, isV q1] 163))
    have G7 := tr_bl hbB G6
    have P7 := tr_bl hbB P6
    have R7 := tr_bl hbB R6
    have x2 := (hbB.cell (World.block_lt_of_cell? _ _ x0)).trans x0
    have x3 := (hbB.cell (World.block_lt_of_cell? _ _ x1)).trans x1
    have y2 := (hbB.cell (World.block_lt_of_cell? _ _ y0)).trans y0
    have y3 := (hbB.cell (World.block_lt_of_cell? _ _ y1)).trans y1
    have hb7 := hbw.trans (hbB.mono hbw.size)
    have hbrB := hbr.trans (hbB.mono hbr.size)
    clear G6 P6 R6 x0 x1 y0 y1 hbw
    skip
    skip
    go_wp2_with (first
      | ((first | (with_reducible refine wpList_stNew 163 _ _ ?_) | (with_reducible refine wp_stNew 163 _ _ ?_)); refine ⟨_, _, ⟨Tryz.sizeOf163, rfl, rl_new _ _ rfl rfl⟩, rfl, ?_⟩)
      | (go_at_call 110; refine (hr2 _ _ G7).mono ?_; rintro e w8 ⟨rfl, hb8⟩))
    go_roundw
    case rel => exact ⟨0 + 1, by omega, by rfl, hbrB.trans (hb8.mono hbrB.size)⟩
    case measure => simp [intOf]
  · skip
    have G6 := tr_bl hbr G5
    have P6 := tr_bl hbr P5
    have R6 := tr_bl hbr R5
    have x0 := (hbr.cell (World.block_lt_of_cell? _ _ a0)).trans a0
    have x1 := (hbr.cell (World.block_lt_of_cell? _ _ a1)).trans a1
    have y0 := (hbr.cell (World.block_lt_of_cell? _ _ b0)).trans b0
    have y1 := (hbr.cell (World.block_lt_of_cell? _ _ b1)).trans b1
    have hbw := hb6.trans (hbr.mono hb6.size)
    have hbB := blw wr ((Obj.cells #[byV p f i, isV q2] 163))
    have d0 := rl_0 (heap_alloc_new wr ((Obj.cells #[byV p f i, isV q2] 163)))
    have d1 := rl_1 (heap_alloc_new wr ((Obj.cells #[byV p f i, isV q2] 163)))
    have D := heap_alloc_new wr ((Obj.cells #[byV p f i, isV q2] 163))
    have G7 := tr_bl hbB G6
    have P7 := tr_bl hbB P6
    have R7 := tr_bl hbB R6
    have x2 := (hbB.cell (World.block_lt_of_cell? _ _ x0)).trans x0
    have x3 := (hbB.cell (World.block_lt_of_cell? _ _ x1)).trans x1
    have y2 := (hbB.cell (World.block_lt_of_cell? _ _ y0)).trans y0
    have y3 := (hbB.cell (World.block_lt_of_cell? _ _ y1)).trans y1
    have hb7 := hbw.trans (hbB.mono hbw.size)
    have hbrB := hbr.trans (hbB.mono hbr.size)
    clear G6 P6 R6 x0 x1 y0 y1 hbw
    skip
    skip
    go_wp2_with (first
      | ((first | (with_reducible refine wpList_stNew 163 _ _ ?_) | (with_reducible refine wp_stNew 163 _ _ ?_)); refine ⟨_, _, ⟨Tryz.sizeOf163, rfl, rl_new _ _ rfl rfl⟩, rfl, ?_⟩)
      | (go_at_call 84; refine (hby _).mono ?_; rintro e w8 ⟨rfl, hb8⟩; have d1 := (hb8.cell (World.block_lt_of_cell? _ _ d1)).trans d1; have x2 := (hb8.cell (World.block_lt_of_cell? _ _ x2)).trans x2; have x3 := (hb8.cell (World.block_lt_of_cell? _ _ x3)).trans x3; have y2 := (hb8.cell (World.block_lt_of_cell? _ _ y2)).trans y2; have y3 := (hb8.cell (World.block_lt_of_cell? _ _ y3)).trans y3; have P8 := tr_bl hb8 P7; have R8 := tr_bl hb8 R7; have G8 := tr_bl hb8 G7))
    have hb8' := hb7.trans (hb8.mono hb7.size)
    refine (is1_any q2 2 4 _ y2 y3).mono ?_
    rintro e w9 ⟨rfl, hb9⟩
    have P9 := tr_bl hb9 P8
    have R9 := tr_bl hb9 R8
    have hb10 := hb8'.trans (hb9.mono hb8'.size)
    have hbo := blw w9 (Obj.cells (rpA i 4 zeroL (zeroE 0)) 44)
    have OZ := heap_alloc_new w9 (Obj.cells (rpA i 4 zeroL (zeroE 0)) 44)
    have PZ := tr_bl hbo P9
    have RZ := tr_bl hbo R9
    have hbz := hb10.trans (hbo.mono hb10.size)
    have hob0 := lt_blk R9
    have hob1 := lt_blk P9
    clear d0 d1 D G7 P7 R7 x2 x3 y2 y3 hb7 hbrB G8 hb8 hb8' P8 R8 hb9 P9 R9 hb10 hbB
    go_wp2_with ((first | (with_reducible refine wpList_stNew 44 _ _ ?_) | (with_reducible refine wp_stNew 44 _ _ ?_)); refine ⟨_, _, ⟨Tryz.sizeOf44, rfl, rp_k _ _⟩, rfl, ?_⟩)
    have hob : rb ≠ w9.heap.size := by omega
    generalize w9.alloc (Obj.cells (rpA i 4 zeroL (zeroE 0)) 44) = wz at *
    generalize w9.heap.size = ob at *
    clear PZ hbo hob0 hob1
    have hbd := (Below.refl wz.heap.size wz).drew
    have O8 := tr_bl hbd OZ
    have R8 := tr_bl hbd RZ
    have hb13 := hbz.trans (hbd.mono hbz.size)
    clear hbz OZ RZ hbd
    refine wp_region_held_drew (S := fun w' => w'.heap[ob]? = some (.cells (rpA i 4 (zeroL) (zeroE 0)) 44 (0, 0))) (by kernel_rfl) O8 (fun hS0 => ?_)
    generalize wz.drew = x0 at *
    refine wpAnyH_take (i := 0) (oi := ⟨_, _, _, _, _, _⟩) (v := ?_) rfl (by kernel_rfl) (by kernel_rfl) (by kernel_rfl) (fun _ _ _ h => h) (Or.inl ⟨by rfl, ?_⟩) (by assumption) ?_
    rotate_left
    · intro wS hSw; go_simp; (try with_reducible rfl)
    (try simp only [Act.put]); (try simp only [List.setIfInBounds_toArray]); (try simp only [List.set_cons_succ]); (try simp only [List.set_cons_zero])
    refine wpAnyH_take (i := 1) (oi := ⟨_, _, _, _, _, _⟩) (v := .agg (rpA i 4 (zeroL) (zeroE 0))) rfl (by kernel_rfl) (by kernel_rfl) (by kernel_rfl) (fun _ _ _ h => h) (Or.inl ⟨by rfl, fun wS hSw => ?_⟩) (by assumption) ?_
    · exact exec_ldB 44 _ ⟨_, _, _, _, _, Tryz.isAgg44, Tryz.sizeOf44, rfl, hSw, arr_all rfl⟩
    (try simp only [Act.put]); (try simp only [List.setIfInBounds_toArray]); (try simp only [List.set_cons_succ]); (try simp only [List.set_cons_zero])
    refine wpAnyH_take (i := 2) (oi := ⟨_, _, _, _, _, _⟩) (v := ?_) rfl (by kernel_rfl) (by kernel_rfl) (by kernel_rfl) (fun _ _ _ h => h) (Or.inl ⟨by rfl, ?_⟩) (by assumption) ?_
    rotate_left
    · intro wS hSw; go_simp; (try with_reducible rfl)
    (try simp only [Act.put]); (try simp only [List.setIfInBounds_toArray]); (try simp only [List.set_cons_succ]); (try simp only [List.set_cons_zero])
    refine wpAnyH_ready (rs := [3]) (by kernel_rfl) (by simp) ?_
    refine AllReadyH.cons (o := ⟨_, _, _, _, _, _⟩) rfl (fun K' hK' => ?_) AllReadyH.nil
    refine (if_pos (by rfl)).mpr ?_
    refine wp_stB 44 _ _ ?_
    refine ⟨_, _, _, ⟨_, _, _, Tryz.sizeOf44, rfl, R8, rp_over _ _ _ _ i 4 (zeroL) (zeroE 0)⟩, ?_⟩
    intro w13 R13 g13
    refine hK'.out _ _ (tr_st g13 O8 hob) (fun _ => ?_)
    clear hK'
    (try simp only [Act.put]); (try simp only [List.setIfInBounds_toArray]); (try simp only [List.set_cons_succ]); (try simp only [List.set_cons_zero])
    refine wpAnyH_take (i := 4) (oi := ⟨_, _, _, _, _, _⟩) (v := ?_) rfl (by kernel_rfl) (by kernel_rfl) (by kernel_rfl) (fun _ _ _ h => h) (Or.inl ⟨by rfl, ?_⟩) (by assumption) ?_
    rotate_left
    · intro wS hSw; go_simp; (try with_reducible rfl)
    (try simp only [Act.put]); (try simp only [List.setIfInBounds_toArray]); (try simp only [List.set_cons_succ]); (try simp only [List.set_cons_zero])
    refine wpAnyH_done (by kernel_rfl) ?_ _
    go_wp2
    refine bodyPost_ret (results_t1c1t1' rfl rfl (run_loadVar_all Tryz.isAgg44 Tryz.sizeOf44 R13 rfl)) rfl ⟨rfl, bls hb13 (Nat.le_refl _) g13 (by omega)⟩
set_option maxRecDepth 100000 in
set_option maxHeartbeats 1000000 in
theorem what_farT (hw : p.wh = 0 ∨ p.wh = 1) (hk : intactS p f i = none) (h1 : ¬ (p.st = 1 ∧ p.idx = i)) (h2 : beyondS p f i = false) (h3 : p.st ≠ 2) (h4 : badS f = true) (w : World) : Calls Tryz.prog 68 #[.agg (recA p), .agg (ffA f), .int .i64 i] w fun e w' => e = .returned (.tuple #[.int .u8 1, .agg (rpA i 1 zeroL (zeroE 0)), .int .i64 (-1)]) ∧ Below w.heap.size w w' := by
  have hin := fun w => intact_any2 hw _ hk w
  have hr2 := fun g w h => r2_any (w := w) (g := g) (p := p) (f := f) (i := i) h false (decide_eq_false h1)
  have hby := fun w => beyond_any2 (p := p) (f := f) (i := i) _ h2 w
  have hr3 := fun g w h => r3_any (w := w) (g := g) (p := p) (f := f) (i := i) h true (decide_eq_true h3)
  have hr4 := fun g w h => r4_any (w := w) (g := g) (p := p) (f := f) (i := i) h _ h4
  simp only [if_true] at hr4
  clear hk hw h1 h2 h3 h4
  go_enter Tryz.func68, Tryz.ntmps68
  refine wp_seq_k (fun K hK => ?_)
  have HK := Lib.hid hK
  clear hK
  go_wp2
  refine HK.out _ _ ?_
  clear HK
  have hbp := blw w (Obj.cells (recA p) 79)
  have hbq := hbp.trans ((blw (w.alloc (Obj.cells (recA p) 79)) (Obj.cells (ffA f) 82)).mono hbp.size)
  have hb1 := hbq.trans ((blw ((w.alloc (Obj.cells (recA p) 79)).alloc (Obj.cells (ffA f) 82)) (Obj.cells #[.int .i64 0, .int .u8 0, .int .i64 0, .int .i64 0, .int .u8 0, .int .i64 0, .int .i64 0, .int .u8 0, .string ⟨#[]⟩, .string ⟨#[]⟩, .string ⟨#[]⟩] 44)).mono hbq.size)
  have e1 : (w.alloc (Obj.cells (recA p) 79)).heap.size = w.heap.size + 1 := by simp
  have e2 : ((w.alloc (Obj.cells (recA p) 79)).alloc (Obj.cells (ffA f) 82)).heap.size = w.heap.size + 1 + 1 := by simp
  have P1 : (((w.alloc (Obj.cells (recA p) 79)).alloc (Obj.cells (ffA f) 82)).alloc (Obj.cells #[.int .i64 0, .int .u8 0, .int .i64 0, .int .i64 0, .int .u8 0, .int .i64 0, .int .i64 0, .int .u8 0, .string ⟨#[]⟩, .string ⟨#[]⟩, .string ⟨#[]⟩] 44)).heap[w.heap.size]? = some (.cells (recA p) 79 (0, 0)) := tr_al (Obj.cells #[.int .i64 0, .int .u8 0, .int .i64 0, .int .i64 0, .int .u8 0, .int .i64 0, .int .i64 0, .int .u8 0, .string ⟨#[]⟩, .string ⟨#[]⟩, .string ⟨#[]⟩] 44) (tr_al (Obj.cells (ffA f) 82) (heap_alloc_new w (Obj.cells (recA p) 79)))
  have F1 : (((w.alloc (Obj.cells (recA p) 79)).alloc (Obj.cells (ffA f) 82)).alloc (Obj.cells #[.int .i64 0, .int .u8 0, .int .i64 0, .int .i64 0, .int .u8 0, .int .i64 0, .int .i64 0, .int .u8 0, .string ⟨#[]⟩, .string ⟨#[]⟩, .string ⟨#[]⟩] 44)).heap[w.heap.size + 1]? = some (.cells (ffA f) 82 (0, 0)) := tr_al (Obj.cells #[.int .i64 0, .int .u8 0, .int .i64 0, .int .i64 0, .int .u8 0, .int .i64 0, .int .i64 0, .int .u8 0, .string ⟨#[]⟩, .string ⟨#[]⟩, .string ⟨#[]⟩] 44) (e1 ▸ heap_alloc_new (w.alloc (Obj.cells (recA p) 79)) (Obj.cells (ffA f) 82))
  have R1 : (((w.alloc (Obj.cells (recA p) 79)).alloc (Obj.cells (ffA f) 82)).alloc (Obj.cells #[.int .i64 0, .int .u8 0, .int .i64 0, .int .i64 0, .int .u8 0, .int .i64 0, .int .i64 0, .int .u8 0, .string ⟨#[]⟩, .string ⟨#[]⟩, .string ⟨#[]⟩] 44)).heap[w.heap.size + 1 + 1]? = some (.cells (rpA 0 0 zeroL (zeroE 0)) 44 (0, 0)) := e2 ▸ heap_alloc_new ((w.alloc (Obj.cells (recA p) 79)).alloc (Obj.cells (ffA f) 82)) (Obj.cells #[.int .i64 0, .int .u8 0, .int .i64 0, .int .i64 0, .int .u8 0, .int .i64 0, .int .i64 0, .int .u8 0, .string ⟨#[]⟩, .string ⟨#[]⟩, .string ⟨#[]⟩] 44)
  have hn1 : w.heap.size < w.heap.size + 1 := by omega
  have hn2 : w.heap.size + 1 < w.heap.size + 1 + 1 := by omega
  clear hbp hbq e1 e2
  generalize ((w.alloc (Obj.cells (recA p) 79)).alloc (Obj.cells (ffA f) 82)).alloc (Obj.cells #[.int .i64 0, .int .u8 0, .int .i64 0, .int .i64 0, .int .u8 0, .int .i64 0, .int .i64 0, .int .u8 0, .string ⟨#[]⟩, .string ⟨#[]⟩, .string ⟨#[]⟩] 44) = w1 at *
  generalize w.heap.size + 1 + 1 = rb at *
  generalize w.heap.size + 1 = fb at *
  refine wp_seq_k (fun K hK => ?_)
  have HK := Lib.hid hK
  clear hK
  go_wp2_with (first
    | ((with_reducible refine wpList_ldB 79 _ ?_); refine ⟨rfl, _, ⟨_, _, _, _, _, Tryz.isAgg79, Tryz.sizeOf79, rfl, ‹_›, arr_all rfl⟩, ?_⟩)
    | ((with_reducible refine wpList_ldB 82 _ ?_); refine ⟨rfl, _, ⟨_, _, _, _, _, Tryz.isAgg82, Tryz.sizeOf82, rfl, ‹_›, arr_all rfl⟩, ?_⟩)
    | (with_reducible refine wpList_bpr (p := p) (f := f) (i := i) _ _ _ (by simp [Act.eval]) (by simp [Act.eval]) (by simp [Act.eval]) ?_)
    | ((first | (with_reducible refine wpList_stNew 120 _ _ ?_) | (with_reducible refine wp_stNew 120 _ _ ?_)); refine ⟨_, _, ⟨Tryz.sizeOf120, rfl, pr_new _ _ _⟩, rfl, ?_⟩))
  refine HK.out _ _ ?_
  clear HK
  have hbx := blw w1 (Obj.cells (prA p f i) 120)
  have X2 := heap_alloc_new w1 (Obj.cells (prA p f i) 120)
  have P2 := tr_bl hbx P1
  have R2 := tr_bl hbx R1
  have hb2 := hb1.trans (hbx.mono hb1.size)
  clear hb1 P1 F1 R1 hbx
  generalize w1.alloc (Obj.cells (prA p f i) 120) = w2 at *
  generalize w1.heap.size = xb at *
  refine wp_seq_k (fun K hK => ?_)
  have HK := Lib.hid hK
  clear hK
  refine wp_seq_k (fun K hK => ?_)
  have HK := Lib.hid hK
  clear hK
  go_wp2_with (first
    | ((with_reducible refine wpList_ldB 120 _ ?_); refine ⟨rfl, _, ⟨_, _, _, _, _, Tryz.isAgg120, Tryz.sizeOf120, rfl, ‹_›, arr_all rfl⟩, ?_⟩)
    | (go_at_call 60; refine (hin _).mono ?_; rintro e w3 ⟨rfl, hb3⟩))
  refine HK.out _ _ ?_
  clear HK
  have P3 := tr_bl hb3 P2
  have R3 := tr_bl hb3 R2
  have X3 := tr_bl hb3 X2
  have hb4 := hb2.trans (hb3.mono hb2.size)
  clear hb2 hb3 P2 R2 X2 hin
  rw [show outV none = .int .i64 (-1) from rfl]
  go_wp2
  refine HK.out _ _ ?_
  clear HK
  refine wp_seq_k (fun K hK => ?_)
  have HK := Lib.hid hK
  clear hK
  refine wp_seq_k (fun K hK => ?_)
  have HK := Lib.hid hK
  clear hK
  go_wp2_with (first
    | ((with_reducible refine wpList_ldB 120 _ ?_); refine ⟨rfl, _, ⟨_, _, _, _, _, Tryz.isAgg120, Tryz.sizeOf120, rfl, ‹_›, arr_all rfl⟩, ?_⟩)
    | (go_at_call 93; refine (rules_any _).mono ?_; rintro e w5 ⟨g, q1, q2, rfl, G5, a0, a1, b0, b1, hb5⟩))
  refine HK.out _ _ ?_
  clear HK
  have P5 := tr_bl hb5 P3
  have R5 := tr_bl hb5 R3
  have hb6 := hb4.trans (hb5.mono hb4.size)
  clear hb4 hb5 P3 R3 X3
  obtain ⟨i0, i1, i2, i3⟩ := ru_at p f i g q1 q2
  go_wp2
  go_loopw [37, 12] (fun i' _ wr => ∃ j : Nat, j ≤ 2 ∧ i' = .int .i64 (j : Nat) ∧ Below w5.heap.size w5 wr) (fun i' _ _ => 4 - (intOf i').toNat)
  case atStart => exact ⟨0, by omega, rfl, Below.refl _ _⟩
  case' round => obtain ⟨j, hj, rfl, hbr⟩ := hrel
  rcases (show j = 0 ∨ j = 1 ∨ j = 2 by omega) with rfl | rfl | rfl
  · skip
    have G6 := tr_bl hbr G5
    have P6 := tr_bl hbr P5
    have R6 := tr_bl hbr R5
    have x0 := (hbr.cell (World.block_lt_of_cell? _ _ a0)).trans a0
    have x1 := (hbr.cell (World.block_lt_of_cell? _ _ a1)).trans a1
    have y0 := (hbr.cell (World.block_lt_of_cell? _ _ b0)).trans b0
    have y1 := (hbr.cell (World.block_lt_of_cell? _ _ b1)).trans b1
    have hbw := hb6.trans (hbr.mono hb6.size)
    have hbB := blw wr ((Obj.cells #[r2V g, isV q1] 163))
    have d0 := rl_0 (heap_alloc_new wr ((Obj.cells #[r2V g, isV q1] 163)))
    have d1 := rl_1 (heap_alloc_new wr ((Obj.cells #[r2V g, isV q1] 163)))
    have D := heap_alloc_new wr ((Obj.cells #[r2V g, isV q1] 163))
    have G7 := tr_bl hbB G6
    have P7 := tr_bl hbB P6
    have R7 := tr_bl hbB R6
    have x2 := (hbB.cell (World.block_lt_of_cell? _ _ x0)).trans x0
    have x3 := (hbB.cell (World.block_lt_of_cell? _ _ x1)).trans x1
    have y2 := (hbB.cell (World.block_lt_of_cell? _ _ y0)).trans y0
    have y3 := (hbB.cell (World.block_lt_of_cell? _ _ y1)).trans y1
    have hb7 := hbw.trans (hbB.mono hbw.size)
    have hbrB := hbr.trans (hbB.mono hbr.size)
    clear G6 P6 R6 x0 x1 y0 y1 hbw
    skip
    skip
    go_wp2_with (first
      | ((first | (with_reducible refine wpList_stNew 163 _ _ ?_) | (with_reducible refine wp_stNew 163 _ _ ?_)); refine ⟨_, _, ⟨Tryz.sizeOf163, rfl, rl_new _ _ rfl rfl⟩, rfl, ?_⟩)
      | (go_at_call 110; refine (hr2 _ _ G7).mono ?_; rintro e w8 ⟨rfl, hb8⟩))
    go_roundw
    case rel => exact ⟨0 + 1, by omega, by rfl, hbrB.trans (hb8.mono hbrB.size)⟩
    case measure => simp [intOf]
  · skip
    have G6 := tr_bl hbr G5
    have P6 := tr_bl hbr P5
    have R6 := tr_bl hbr R5
    have x0 := (hbr.cell (World.block_lt_of_cell? _ _ a0)).trans a0
    have x1 := (hbr.cell (World.block_lt_of_cell? _ _ a1)).trans a1
    have y0 := (hbr.cell (World.block_lt_of_cell? _ _ b0)).trans b0
    have y1 := (hbr.cell (World.block_lt_of_cell? _ _ b1)).trans b1
    have hbw := hb6.trans (hbr.mono hb6.size)
    have hbB := blw wr ((Obj.cells #[byV p f i, isV q2] 163))
    have d0 := rl_0 (heap_alloc_new wr ((Obj.cells #[byV p f i, isV q2] 163)))
    have d1 := rl_1 (heap_alloc_new wr ((Obj.cells #[byV p f i, isV q2] 163)))
    have D := heap_alloc_new wr ((Obj.cells #[byV p f i, isV q2] 163))
    have G7 := tr_bl hbB G6
    have P7 := tr_bl hbB P6
    have R7 := tr_bl hbB R6
    have x2 := (hbB.cell (World.block_lt_of_cell? _ _ x0)).trans x0
    have x3 := (hbB.cell (World.block_lt_of_cell? _ _ x1)).trans x1
    have y2 := (hbB.cell (World.block_lt_of_cell? _ _ y0)).trans y0
    have y3 := (hbB.cell (World.block_lt_of_cell? _ _ y1)).trans y1
    have hb7 := hbw.trans (hbB.mono hbw.size)
    have hbrB := hbr.trans (hbB.mono hbr.size)
    clear G6 P6 R6 x0 x1 y0 y1 hbw
    skip
    skip
    go_wp2_with (first
      | ((first | (with_reducible refine wpList_stNew 163 _ _ ?_) | (with_reducible refine wp_stNew 163 _ _ ?_)); refine ⟨_, _, ⟨Tryz.sizeOf163, rfl, rl_new _ _ rfl rfl⟩, rfl, ?_⟩)
      | (go_at_call 84; refine (hby _).mono ?_; rintro e w8 ⟨rfl, hb8⟩))
    go_roundw
    case rel => exact ⟨1 + 1, by omega, by rfl, hbrB.trans (hb8.mono hbrB.size)⟩
    case measure => simp [intOf]
  · skip
    have G6 := tr_bl hbr G5
    have P6 := tr_bl hbr P5
    have R6 := tr_bl hbr R5
    have x0 := (hbr.cell (World.block_lt_of_cell? _ _ a0)).trans a0
    have x1 := (hbr.cell (World.block_lt_of_cell? _ _ a1)).trans a1
    have y0 := (hbr.cell (World.block_lt_of_cell? _ _ b0)).trans b0
    have y1 := (hbr.cell (World.block_lt_of_cell? _ _ b1)).trans b1
    have hbw := hb6.trans (hbr.mono hb6.size)
    have hbB := blw wr ((Obj.cells #[r3V g, r4V g] 163))
    have d0 := rl_0 (heap_alloc_new wr ((Obj.cells #[r3V g, r4V g] 163)))
    have d1 := rl_1 (heap_alloc_new wr ((Obj.cells #[r3V g, r4V g] 163)))
    have D := heap_alloc_new wr ((Obj.cells #[r3V g, r4V g] 163))
    have G7 := tr_bl hbB G6
    have P7 := tr_bl hbB P6
    have R7 := tr_bl hbB R6
    have x2 := (hbB.cell (World.block_lt_of_cell? _ _ x0)).trans x0
    have x3 := (hbB.cell (World.block_lt_of_cell? _ _ x1)).trans x1
    have y2 := (hbB.cell (World.block_lt_of_cell? _ _ y0)).trans y0
    have y3 := (hbB.cell (World.block_lt_of_cell? _ _ y1)).trans y1
    have hb7 := hbw.trans (hbB.mono hbw.size)
    have hbrB := hbr.trans (hbB.mono hbr.size)
    clear G6 P6 R6 x0 x1 y0 y1 hbw
    skip
    skip
    go_wp2_with (first
      | ((first | (with_reducible refine wpList_stNew 163 _ _ ?_) | (with_reducible refine wp_stNew 163 _ _ ?_)); refine ⟨_, _, ⟨Tryz.sizeOf163, rfl, rl_new _ _ rfl rfl⟩, rfl, ?_⟩)
      | (go_at_call 111; refine (hr3 _ _ G7).mono ?_; rintro e w8 ⟨rfl, hb8⟩; have d1 := (hb8.cell (World.block_lt_of_cell? _ _ d1)).trans d1; have x2 := (hb8.cell (World.block_lt_of_cell? _ _ x2)).trans x2; have x3 := (hb8.cell (World.block_lt_of_cell? _ _ x3)).trans x3; have y2 := (hb8.cell (World.block_lt_of_cell? _ _ y2)).trans y2; have y3 := (hb8.cell (World.block_lt_of_cell? _ _ y3)).trans y3; have P8 := tr_bl hb8 P7; have R8 := tr_bl hb8 R7; have G8 := tr_bl hb8 G7))
    have hb8' := hb7.trans (hb8.mono hb7.size)
    refine (hr4 _ _ G8).mono ?_
    rintro e w9 ⟨rfl, hb9⟩
    have P9 := tr_bl hb9 P8
    have R9 := tr_bl hb9 R8
    have hb10 := hb8'.trans (hb9.mono hb8'.size)
    have hbo := blw w9 (Obj.cells (rpA i 1 zeroL (zeroE 0)) 44)
    have OZ := heap_alloc_new w9 (Obj.cells (rpA i 1 zeroL (zeroE 0)) 44)
    have PZ := tr_bl hbo P9
    have RZ := tr_bl hbo R9
    have hbz := hb10.trans (hbo.mono hb10.size)
    have hob0 := lt_blk R9
    have hob1 := lt_blk P9
    clear d0 d1 D G7 P7 R7 x2 x3 y2 y3 hb7 hbrB G8 hb8 hb8' P8 R8 hb9 P9 R9 hb10 hbB
    go_wp2_with ((first | (with_reducible refine wpList_stNew 44 _ _ ?_) | (with_reducible refine wp_stNew 44 _ _ ?_)); refine ⟨_, _, ⟨Tryz.sizeOf44, rfl, rp_k _ _⟩, rfl, ?_⟩)
    have hob : rb ≠ w9.heap.size := by omega
    generalize w9.alloc (Obj.cells (rpA i 1 zeroL (zeroE 0)) 44) = wz at *
    generalize w9.heap.size = ob at *
    clear PZ hbo hob0 hob1
    have hbd := (Below.refl wz.heap.size wz).drew
    have O8 := tr_bl hbd OZ
    have R8 := tr_bl hbd RZ
    have hb13 := hbz.trans (hbd.mono hbz.size)
    clear hbz OZ RZ hbd
    refine wp_region_held_drew (S := fun w' => w'.heap[ob]? = some (.cells (rpA i 1 (zeroL) (zeroE 0)) 44 (0, 0))) (by kernel_rfl) O8 (fun hS0 => ?_)
    generalize wz.drew = x0 at *
    refine wpAnyH_take (i := 0) (oi := ⟨_, _, _, _, _, _⟩) (v := ?_) rfl (by kernel_rfl) (by kernel_rfl) (by kernel_rfl) (fun _ _ _ h => h) (Or.inl ⟨by rfl, ?_⟩) (by assumption) ?_
    rotate_left
    · intro wS hSw; go_simp; (try with_reducible rfl)
    (try simp only [Act.put]); (try simp only [List.setIfInBounds_toArray]); (try simp only [List.set_cons_succ]); (try simp only [List.set_cons_zero])
    refine wpAnyH_take (i := 1) (oi := ⟨_, _, _, _, _, _⟩) (v := .agg (rpA i 1 (zeroL) (zeroE 0))) rfl (by kernel_rfl) (by kernel_rfl) (by kernel_rfl) (fun _ _ _ h => h) (Or.inl ⟨by rfl, fun wS hSw => ?_⟩) (by assumption) ?_
    · exact exec_ldB 44 _ ⟨_, _, _, _, _, Tryz.isAgg44, Tryz.sizeOf44, rfl, hSw, arr_all rfl⟩
    (try simp only [Act.put]); (try simp only [List.setIfInBounds_toArray]); (try simp only [List.set_cons_succ]); (try simp only [List.set_cons_zero])
    refine wpAnyH_take (i := 2) (oi := ⟨_, _, _, _, _, _⟩) (v := ?_) rfl (by kernel_rfl) (by kernel_rfl) (by kernel_rfl) (fun _ _ _ h => h) (Or.inl ⟨by rfl, ?_⟩) (by assumption) ?_
    rotate_left
    · intro wS hSw; go_simp; (try with_reducible rfl)
    (try simp only [Act.put]); (try simp only [List.setIfInBounds_toArray]); (try simp only [List.set_cons_succ]); (try simp only [List.set_cons_zero])
    refine wpAnyH_ready (rs := [3]) (by kernel_rfl) (by simp) ?_
    refine AllReadyH.cons (o := ⟨_, _, _, _, _, _⟩) rfl (fun K' hK' => ?_) AllReadyH.nil
    refine (if_pos (by rfl)).mpr ?_
    refine wp_stB 44 _ _ ?_
    refine ⟨_, _, _, ⟨_, _, _, Tryz.sizeOf44, rfl, R8, rp_over _ _ _ _ i 1 (zeroL) (zeroE 0)⟩, ?_⟩
    intro w13 R13 g13
    refine hK'.out _ _ (tr_st g13 O8 hob) (fun _ => ?_)
    clear hK'
    (try simp only [Act.put]); (try simp only [List.setIfInBounds_toArray]); (try simp only [List.set_cons_succ]); (try simp only [List.set_cons_zero])
    refine wpAnyH_take (i := 4) (oi := ⟨_, _, _, _, _, _⟩) (v := ?_) rfl (by kernel_rfl) (by kernel_rfl) (by kernel_rfl) (fun _ _ _ h => h) (Or.inl ⟨by rfl, ?_⟩) (by assumption) ?_
    rotate_left
    · intro wS hSw; go_simp; (try with_reducible rfl)
    (try simp only [Act.put]); (try simp only [List.setIfInBounds_toArray]); (try simp only [List.set_cons_succ]); (try simp only [List.set_cons_zero])
    refine wpAnyH_done (by kernel_rfl) ?_ _
    go_wp2
    refine bodyPost_ret (results_t1c1t1' rfl rfl (run_loadVar_all Tryz.isAgg44 Tryz.sizeOf44 R13 rfl)) rfl ⟨rfl, bls hb13 (Nat.le_refl _) g13 (by omega)⟩
set_option maxRecDepth 100000 in
set_option maxHeartbeats 1000000 in
theorem what_farF (hw : p.wh = 0 ∨ p.wh = 1) (hk : intactS p f i = none) (h1 : ¬ (p.st = 1 ∧ p.idx = i)) (h2 : beyondS p f i = false) (h3 : p.st ≠ 2) (h4 : badS f = false) (w : World) : Calls Tryz.prog 68 #[.agg (recA p), .agg (ffA f), .int .i64 i] w fun e w' => e = .returned (.tuple #[.int .u8 0, .agg (rpA i 1 zeroL (zeroE 0)), .int .i64 (-1)]) ∧ Below w.heap.size w w' := by
  have hin := fun w => intact_any2 hw _ hk w
  have hr2 := fun g w h => r2_any (w := w) (g := g) (p := p) (f := f) (i := i) h false (decide_eq_false h1)
  have hby := fun w => beyond_any2 (p := p) (f := f) (i := i) _ h2 w
  have hr3 := fun g w h => r3_any (w := w) (g := g) (p := p) (f := f) (i := i) h true (decide_eq_true h3)
  have hr4 := fun g w h => r4_any (w := w) (g := g) (p := p) (f := f) (i := i) h _ h4
  simp only [Bool.false_eq_true, if_false] at hr4
  clear hk hw h1 h2 h3 h4
  go_enter Tryz.func68, Tryz.ntmps68
  refine wp_seq_k (fun K hK => ?_)
  have HK := Lib.hid hK
  clear hK
  go_wp2
  refine HK.out _ _ ?_
  clear HK
  have hbp := blw w (Obj.cells (recA p) 79)
  have hbq := hbp.trans ((blw (w.alloc (Obj.cells (recA p) 79)) (Obj.cells (ffA f) 82)).mono hbp.size)
  have hb1 := hbq.trans ((blw ((w.alloc (Obj.cells (recA p) 79)).alloc (Obj.cells (ffA f) 82)) (Obj.cells #[.int .i64 0, .int .u8 0, .int .i64 0, .int .i64 0, .int .u8 0, .int .i64 0, .int .i64 0, .int .u8 0, .string ⟨#[]⟩, .string ⟨#[]⟩, .string ⟨#[]⟩] 44)).mono hbq.size)
  have e1 : (w.alloc (Obj.cells (recA p) 79)).heap.size = w.heap.size + 1 := by simp
  have e2 : ((w.alloc (Obj.cells (recA p) 79)).alloc (Obj.cells (ffA f) 82)).heap.size = w.heap.size + 1 + 1 := by simp
  have P1 : (((w.alloc (Obj.cells (recA p) 79)).alloc (Obj.cells (ffA f) 82)).alloc (Obj.cells #[.int .i64 0, .int .u8 0, .int .i64 0, .int .i64 0, .int .u8 0, .int .i64 0, .int .i64 0, .int .u8 0, .string ⟨#[]⟩, .string ⟨#[]⟩, .string ⟨#[]⟩] 44)).heap[w.heap.size]? = some (.cells (recA p) 79 (0, 0)) := tr_al (Obj.cells #[.int .i64 0, .int .u8 0, .int .i64 0, .int .i64 0, .int .u8 0, .int .i64 0, .int .i64 0, .int .u8 0, .string ⟨#[]⟩, .string ⟨#[]⟩, .string ⟨#[]⟩] 44) (tr_al (Obj.cells (ffA f) 82) (heap_alloc_new w (Obj.cells (recA p) 79)))
  have F1 : (((w.alloc (Obj.cells (recA p) 79)).alloc (Obj.cells (ffA f) 82)).alloc (Obj.cells #[.int .i64 0, .int .u8 0, .int .i64 0, .int .i64 0, .int .u8 0, .int .i64 0, .int .i64 0, .int .u8 0, .string ⟨#[]⟩, .string ⟨#[]⟩, .string ⟨#[]⟩] 44)).heap[w.heap.size + 1]? = some (.cells (ffA f) 82 (0, 0)) := tr_al (Obj.cells #[.int .i64 0, .int .u8 0, .int .i64 0, .int .i64 0, .int .u8 0, .int .i64 0, .int .i64 0, .int .u8 0, .string ⟨#[]⟩, .string ⟨#[]⟩, .string ⟨#[]⟩] 44) (e1 ▸ heap_alloc_new (w.alloc (Obj.cells (recA p) 79)) (Obj.cells (ffA f) 82))
  have R1 : (((w.alloc (Obj.cells (recA p) 79)).alloc (Obj.cells (ffA f) 82)).alloc (Obj.cells #[.int .i64 0, .int .u8 0, .int .i64 0, .int .i64 0, .int .u8 0, .int .i64 0, .int .i64 0, .int .u8 0, .string ⟨#[]⟩, .string ⟨#[]⟩, .string ⟨#[]⟩] 44)).heap[w.heap.size + 1 + 1]? = some (.cells (rpA 0 0 zeroL (zeroE 0)) 44 (0, 0)) := e2 ▸ heap_alloc_new ((w.alloc (Obj.cells (recA p) 79)).alloc (Obj.cells (ffA f) 82)) (Obj.cells #[.int .i64 0, .int .u8 0, .int .i64 0, .int .i64 0, .int .u8 0, .int .i64 0, .int .i64 0, .int .u8 0, .string ⟨#[]⟩, .string ⟨#[]⟩, .string ⟨#[]⟩] 44)
  have hn1 : w.heap.size < w.heap.size + 1 := by omega
  have hn2 : w.heap.size + 1 < w.heap.size + 1 + 1 := by omega
  clear hbp hbq e1 e2
  generalize ((w.alloc (Obj.cells (recA p) 79)).alloc (Obj.cells (ffA f) 82)).alloc (Obj.cells #[.int .i64 0, .int .u8 0, .int .i64 0, .int .i64 0, .int .u8 0, .int .i64 0, .int .i64 0, .int .u8 0, .string ⟨#[]⟩, .string ⟨#[]⟩, .string ⟨#[]⟩] 44) = w1 at *
  generalize w.heap.size + 1 + 1 = rb at *
  generalize w.heap.size + 1 = fb at *
  refine wp_seq_k (fun K hK => ?_)
  have HK := Lib.hid hK
  clear hK
  go_wp2_with (first
    | ((with_reducible refine wpList_ldB 79 _ ?_); refine ⟨rfl, _, ⟨_, _, _, _, _, Tryz.isAgg79, Tryz.sizeOf79, rfl, ‹_›, arr_all rfl⟩, ?_⟩)
    | ((with_reducible refine wpList_ldB 82 _ ?_); refine ⟨rfl, _, ⟨_, _, _, _, _, Tryz.isAgg82, Tryz.sizeOf82, rfl, ‹_›, arr_all rfl⟩, ?_⟩)
    | (with_reducible refine wpList_bpr (p := p) (f := f) (i := i) _ _ _ (by simp [Act.eval]) (by simp [Act.eval]) (by simp [Act.eval]) ?_)
    | ((first | (with_reducible refine wpList_stNew 120 _ _ ?_) | (with_reducible refine wp_stNew 120 _ _ ?_)); refine ⟨_, _, ⟨Tryz.sizeOf120, rfl, pr_new _ _ _⟩, rfl, ?_⟩))
  refine HK.out _ _ ?_
  clear HK
  have hbx := blw w1 (Obj.cells (prA p f i) 120)
  have X2 := heap_alloc_new w1 (Obj.cells (prA p f i) 120)
  have P2 := tr_bl hbx P1
  have R2 := tr_bl hbx R1
  have hb2 := hb1.trans (hbx.mono hb1.size)
  clear hb1 P1 F1 R1 hbx
  generalize w1.alloc (Obj.cells (prA p f i) 120) = w2 at *
  generalize w1.heap.size = xb at *
  refine wp_seq_k (fun K hK => ?_)
  have HK := Lib.hid hK
  clear hK
  refine wp_seq_k (fun K hK => ?_)
  have HK := Lib.hid hK
  clear hK
  go_wp2_with (first
    | ((with_reducible refine wpList_ldB 120 _ ?_); refine ⟨rfl, _, ⟨_, _, _, _, _, Tryz.isAgg120, Tryz.sizeOf120, rfl, ‹_›, arr_all rfl⟩, ?_⟩)
    | (go_at_call 60; refine (hin _).mono ?_; rintro e w3 ⟨rfl, hb3⟩))
  refine HK.out _ _ ?_
  clear HK
  have P3 := tr_bl hb3 P2
  have R3 := tr_bl hb3 R2
  have X3 := tr_bl hb3 X2
  have hb4 := hb2.trans (hb3.mono hb2.size)
  clear hb2 hb3 P2 R2 X2 hin
  rw [show outV none = .int .i64 (-1) from rfl]
  go_wp2
  refine HK.out _ _ ?_
  clear HK
  refine wp_seq_k (fun K hK => ?_)
  have HK := Lib.hid hK
  clear hK
  refine wp_seq_k (fun K hK => ?_)
  have HK := Lib.hid hK
  clear hK
  go_wp2_with (first
    | ((with_reducible refine wpList_ldB 120 _ ?_); refine ⟨rfl, _, ⟨_, _, _, _, _, Tryz.isAgg120, Tryz.sizeOf120, rfl, ‹_›, arr_all rfl⟩, ?_⟩)
    | (go_at_call 93; refine (rules_any _).mono ?_; rintro e w5 ⟨g, q1, q2, rfl, G5, a0, a1, b0, b1, hb5⟩))
  refine HK.out _ _ ?_
  clear HK
  have P5 := tr_bl hb5 P3
  have R5 := tr_bl hb5 R3
  have hb6 := hb4.trans (hb5.mono hb4.size)
  clear hb4 hb5 P3 R3 X3
  obtain ⟨i0, i1, i2, i3⟩ := ru_at p f i g q1 q2
  go_wp2
  go_loopw [37, 12] (fun i' _ wr => ∃ j : Nat, j ≤ 2 ∧ i' = .int .i64 (j : Nat) ∧ Below w5.heap.size w5 wr) (fun i' _ _ => 4 - (intOf i').toNat)
  case atStart => exact ⟨0, by omega, rfl, Below.refl _ _⟩
  case' round => obtain ⟨j, hj, rfl, hbr⟩ := hrel
  rcases (show j = 0 ∨ j = 1 ∨ j = 2 by omega) with rfl | rfl | rfl
  · skip
    have G6 := tr_bl hbr G5
    have P6 := tr_bl hbr P5
    have R6 := tr_bl hbr R5
    have x0 := (hbr.cell (World.block_lt_of_cell? _ _ a0)).trans a0
    have x1 := (hbr.cell (World.block_lt_of_cell? _ _ a1)).trans a1
    have y0 := (hbr.cell (World.block_lt_of_cell? _ _ b0)).trans b0
    have y1 := (hbr.cell (World.block_lt_of_cell? _ _ b1)).trans b1
    have hbw := hb6.trans (hbr.mono hb6.size)
    have hbB := blw wr ((Obj.cells #[r2V g, isV q1] 163))
    have d0 := rl_0 (heap_alloc_new wr ((Obj.cells #[r2V g, isV q1] 163)))
    have d1 := rl_1 (heap_alloc_new wr ((Obj.cells #[r2V g, isV q1] 163)))
    have D := heap_alloc_new wr ((Obj.cells #[r2V g, isV q1] 163))
    have G7 := tr_bl hbB G6
    have P7 := tr_bl hbB P6
    have R7 := tr_bl hbB R6
    have x2 := (hbB.cell (World.block_lt_of_cell? _ _ x0)).trans x0
    have x3 := (hbB.cell (World.block_lt_of_cell? _ _ x1)).trans x1
    have y2 := (hbB.cell (World.block_lt_of_cell? _ _ y0)).trans y0
    have y3 := (hbB.cell (World.block_lt_of_cell? _ _ y1)).trans y1
    have hb7 := hbw.trans (hbB.mono hbw.size)
    have hbrB := hbr.trans (hbB.mono hbr.size)
    clear G6 P6 R6 x0 x1 y0 y1 hbw
    skip
    skip
    go_wp2_with (first
      | ((first | (with_reducible refine wpList_stNew 163 _ _ ?_) | (with_reducible refine wp_stNew 163 _ _ ?_)); refine ⟨_, _, ⟨Tryz.sizeOf163, rfl, rl_new _ _ rfl rfl⟩, rfl, ?_⟩)
      | (go_at_call 110; refine (hr2 _ _ G7).mono ?_; rintro e w8 ⟨rfl, hb8⟩))
    go_roundw
    case rel => exact ⟨0 + 1, by omega, by rfl, hbrB.trans (hb8.mono hbrB.size)⟩
    case measure => simp [intOf]
  · skip
    have G6 := tr_bl hbr G5
    have P6 := tr_bl hbr P5
    have R6 := tr_bl hbr R5
    have x0 := (hbr.cell (World.block_lt_of_cell? _ _ a0)).trans a0
    have x1 := (hbr.cell (World.block_lt_of_cell? _ _ a1)).trans a1
    have y0 := (hbr.cell (World.block_lt_of_cell? _ _ b0)).trans b0
    have y1 := (hbr.cell (World.block_lt_of_cell? _ _ b1)).trans b1
    have hbw := hb6.trans (hbr.mono hb6.size)
    have hbB := blw wr ((Obj.cells #[byV p f i, isV q2] 163))
    have d0 := rl_0 (heap_alloc_new wr ((Obj.cells #[byV p f i, isV q2] 163)))
    have d1 := rl_1 (heap_alloc_new wr ((Obj.cells #[byV p f i, isV q2] 163)))
    have D := heap_alloc_new wr ((Obj.cells #[byV p f i, isV q2] 163))
    have G7 := tr_bl hbB G6
    have P7 := tr_bl hbB P6
    have R7 := tr_bl hbB R6
    have x2 := (hbB.cell (World.block_lt_of_cell? _ _ x0)).trans x0
    have x3 := (hbB.cell (World.block_lt_of_cell? _ _ x1)).trans x1
    have y2 := (hbB.cell (World.block_lt_of_cell? _ _ y0)).trans y0
    have y3 := (hbB.cell (World.block_lt_of_cell? _ _ y1)).trans y1
    have hb7 := hbw.trans (hbB.mono hbw.size)
    have hbrB := hbr.trans (hbB.mono hbr.size)
    clear G6 P6 R6 x0 x1 y0 y1 hbw
    skip
    skip
    go_wp2_with (first
      | ((first | (with_reducible refine wpList_stNew 163 _ _ ?_) | (with_reducible refine wp_stNew 163 _ _ ?_)); refine ⟨_, _, ⟨Tryz.sizeOf163, rfl, rl_new _ _ rfl rfl⟩, rfl, ?_⟩)
      | (go_at_call 84; refine (hby _).mono ?_; rintro e w8 ⟨rfl, hb8⟩))
    go_roundw
    case rel => exact ⟨1 + 1, by omega, by rfl, hbrB.trans (hb8.mono hbrB.size)⟩
    case measure => simp [intOf]
  · skip
    have G6 := tr_bl hbr G5
    have P6 := tr_bl hbr P5
    have R6 := tr_bl hbr R5
    have x0 := (hbr.cell (World.block_lt_of_cell? _ _ a0)).trans a0
    have x1 := (hbr.cell (World.block_lt_of_cell? _ _ a1)).trans a1
    have y0 := (hbr.cell (World.block_lt_of_cell? _ _ b0)).trans b0
    have y1 := (hbr.cell (World.block_lt_of_cell? _ _ b1)).trans b1
    have hbw := hb6.trans (hbr.mono hb6.size)
    have hbB := blw wr ((Obj.cells #[r3V g, r4V g] 163))
    have d0 := rl_0 (heap_alloc_new wr ((Obj.cells #[r3V g, r4V g] 163)))
    have d1 := rl_1 (heap_alloc_new wr ((Obj.cells #[r3V g, r4V g] 163)))
    have D := heap_alloc_new wr ((Obj.cells #[r3V g, r4V g] 163))
    have G7 := tr_bl hbB G6
    have P7 := tr_bl hbB P6
    have R7 := tr_bl hbB R6
    have x2 := (hbB.cell (World.block_lt_of_cell? _ _ x0)).trans x0
    have x3 := (hbB.cell (World.block_lt_of_cell? _ _ x1)).trans x1
    have y2 := (hbB.cell (World.block_lt_of_cell? _ _ y0)).trans y0
    have y3 := (hbB.cell (World.block_lt_of_cell? _ _ y1)).trans y1
    have hb7 := hbw.trans (hbB.mono hbw.size)
    have hbrB := hbr.trans (hbB.mono hbr.size)
    clear G6 P6 R6 x0 x1 y0 y1 hbw
    skip
    skip
    go_wp2_with (first
      | ((first | (with_reducible refine wpList_stNew 163 _ _ ?_) | (with_reducible refine wp_stNew 163 _ _ ?_)); refine ⟨_, _, ⟨Tryz.sizeOf163, rfl, rl_new _ _ rfl rfl⟩, rfl, ?_⟩)
      | (go_at_call 111; refine (hr3 _ _ G7).mono ?_; rintro e w8 ⟨rfl, hb8⟩; have d1 := (hb8.cell (World.block_lt_of_cell? _ _ d1)).trans d1; have x2 := (hb8.cell (World.block_lt_of_cell? _ _ x2)).trans x2; have x3 := (hb8.cell (World.block_lt_of_cell? _ _ x3)).trans x3; have y2 := (hb8.cell (World.block_lt_of_cell? _ _ y2)).trans y2; have y3 := (hb8.cell (World.block_lt_of_cell? _ _ y3)).trans y3; have P8 := tr_bl hb8 P7; have R8 := tr_bl hb8 R7; have G8 := tr_bl hb8 G7))
    have hb8' := hb7.trans (hb8.mono hb7.size)
    refine (hr4 _ _ G8).mono ?_
    rintro e w9 ⟨rfl, hb9⟩
    have P9 := tr_bl hb9 P8
    have R9 := tr_bl hb9 R8
    have hb10 := hb8'.trans (hb9.mono hb8'.size)
    have hbo := blw w9 (Obj.cells (rpA i 1 zeroL (zeroE 0)) 44)
    have OZ := heap_alloc_new w9 (Obj.cells (rpA i 1 zeroL (zeroE 0)) 44)
    have PZ := tr_bl hbo P9
    have RZ := tr_bl hbo R9
    have hbz := hb10.trans (hbo.mono hb10.size)
    have hob0 := lt_blk R9
    have hob1 := lt_blk P9
    clear d0 d1 D G7 P7 R7 x2 x3 y2 y3 hb7 hbrB G8 hb8 hb8' P8 R8 hb9 P9 R9 hb10 hbB
    go_wp2_with ((first | (with_reducible refine wpList_stNew 44 _ _ ?_) | (with_reducible refine wp_stNew 44 _ _ ?_)); refine ⟨_, _, ⟨Tryz.sizeOf44, rfl, rp_k _ _⟩, rfl, ?_⟩)
    have hob : rb ≠ w9.heap.size := by omega
    generalize w9.alloc (Obj.cells (rpA i 1 zeroL (zeroE 0)) 44) = wz at *
    generalize w9.heap.size = ob at *
    clear PZ hbo hob0 hob1
    have hbd := (Below.refl wz.heap.size wz).drew
    have O8 := tr_bl hbd OZ
    have R8 := tr_bl hbd RZ
    have hb13 := hbz.trans (hbd.mono hbz.size)
    clear hbz OZ RZ hbd
    refine wp_region_held_drew (S := fun w' => w'.heap[ob]? = some (.cells (rpA i 1 (zeroL) (zeroE 0)) 44 (0, 0))) (by kernel_rfl) O8 (fun hS0 => ?_)
    generalize wz.drew = x0 at *
    refine wpAnyH_take (i := 0) (oi := ⟨_, _, _, _, _, _⟩) (v := ?_) rfl (by kernel_rfl) (by kernel_rfl) (by kernel_rfl) (fun _ _ _ h => h) (Or.inl ⟨by rfl, ?_⟩) (by assumption) ?_
    rotate_left
    · intro wS hSw; go_simp; (try with_reducible rfl)
    (try simp only [Act.put]); (try simp only [List.setIfInBounds_toArray]); (try simp only [List.set_cons_succ]); (try simp only [List.set_cons_zero])
    refine wpAnyH_take (i := 1) (oi := ⟨_, _, _, _, _, _⟩) (v := .agg (rpA i 1 (zeroL) (zeroE 0))) rfl (by kernel_rfl) (by kernel_rfl) (by kernel_rfl) (fun _ _ _ h => h) (Or.inl ⟨by rfl, fun wS hSw => ?_⟩) (by assumption) ?_
    · exact exec_ldB 44 _ ⟨_, _, _, _, _, Tryz.isAgg44, Tryz.sizeOf44, rfl, hSw, arr_all rfl⟩
    (try simp only [Act.put]); (try simp only [List.setIfInBounds_toArray]); (try simp only [List.set_cons_succ]); (try simp only [List.set_cons_zero])
    refine wpAnyH_take (i := 2) (oi := ⟨_, _, _, _, _, _⟩) (v := ?_) rfl (by kernel_rfl) (by kernel_rfl) (by kernel_rfl) (fun _ _ _ h => h) (Or.inl ⟨by rfl, ?_⟩) (by assumption) ?_
    rotate_left
    · intro wS hSw; go_simp; (try with_reducible rfl)
    (try simp only [Act.put]); (try simp only [List.setIfInBounds_toArray]); (try simp only [List.set_cons_succ]); (try simp only [List.set_cons_zero])
    refine wpAnyH_ready (rs := [3]) (by kernel_rfl) (by simp) ?_
    refine AllReadyH.cons (o := ⟨_, _, _, _, _, _⟩) rfl (fun K' hK' => ?_) AllReadyH.nil
    refine (if_pos (by rfl)).mpr ?_
    refine wp_stB 44 _ _ ?_
    refine ⟨_, _, _, ⟨_, _, _, Tryz.sizeOf44, rfl, R8, rp_over _ _ _ _ i 1 (zeroL) (zeroE 0)⟩, ?_⟩
    intro w13 R13 g13
    refine hK'.out _ _ (tr_st g13 O8 hob) (fun _ => ?_)
    clear hK'
    (try simp only [Act.put]); (try simp only [List.setIfInBounds_toArray]); (try simp only [List.set_cons_succ]); (try simp only [List.set_cons_zero])
    refine wpAnyH_take (i := 4) (oi := ⟨_, _, _, _, _, _⟩) (v := ?_) rfl (by kernel_rfl) (by kernel_rfl) (by kernel_rfl) (fun _ _ _ h => h) (Or.inl ⟨by rfl, ?_⟩) (by assumption) ?_
    rotate_left
    · intro wS hSw; go_simp; (try with_reducible rfl)
    (try simp only [Act.put]); (try simp only [List.setIfInBounds_toArray]); (try simp only [List.set_cons_succ]); (try simp only [List.set_cons_zero])
    refine wpAnyH_done (by kernel_rfl) ?_ _
    go_wp2
    refine bodyPost_ret (results_t1c1t1' rfl rfl (run_loadVar_all Tryz.isAgg44 Tryz.sizeOf44 R13 rfl)) rfl ⟨rfl, bls hb13 (Nat.le_refl _) g13 (by omega)⟩
set_option maxRecDepth 100000 in
set_option maxHeartbeats 1000000 in
theorem what_badT (hw : p.wh = 0 ∨ p.wh = 1) (hk : intactS p f i = none) (h1 : ¬ (p.st = 1 ∧ p.idx = i)) (h2 : beyondS p f i = false) (h3 : ¬ p.st ≠ 2) (h4 : badS f = true) (w : World) : Calls Tryz.prog 68 #[.agg (recA p), .agg (ffA f), .int .i64 i] w fun e w' => e = .returned (.tuple #[.int .u8 2, .agg (rpA i 4 zeroL (zeroE 0)), .int .i64 (-1)]) ∧ Below w.heap.size w w' := by
  have hin := fun w => intact_any2 hw _ hk w
  have hr2 := fun g w h => r2_any (w := w) (g := g) (p := p) (f := f) (i := i) h false (decide_eq_false h1)
  have hby := fun w => beyond_any2 (p := p) (f := f) (i := i) _ h2 w
  have hr3 := fun g w h => r3_any (w := w) (g := g) (p := p) (f := f) (i := i) h false (decide_eq_false h3)
  have hr6 := fun g w h => r6_any (w := w) (g := g) (p := p) (f := f) (i := i) h _ h4
  simp only [if_true] at hr6
  clear hk hw h1 h2 h3 h4
  go_enter Tryz.func68, Tryz.ntmps68
  refine wp_seq_k (fun K hK => ?_)
  have HK := Lib.hid hK
  clear hK
  go_wp2
  refine HK.out _ _ ?_
  clear HK
  have hbp := blw w (Obj.cells (recA p) 79)
  have hbq := hbp.trans ((blw (w.alloc (Obj.cells (recA p) 79)) (Obj.cells (ffA f) 82)).mono hbp.size)
  have hb1 := hbq.trans ((blw ((w.alloc (Obj.cells (recA p) 79)).alloc (Obj.cells (ffA f) 82)) (Obj.cells #[.int .i64 0, .int .u8 0, .int .i64 0, .int .i64 0, .int .u8 0, .int .i64 0, .int .i64 0, .int .u8 0, .string ⟨#[]⟩, .string ⟨#[]⟩, .string ⟨#[]⟩] 44)).mono hbq.size)
  have e1 : (w.alloc (Obj.cells (recA p) 79)).heap.size = w.heap.size + 1 := by simp
  have e2 : ((w.alloc (Obj.cells (recA p) 79)).alloc (Obj.cells (ffA f) 82)).heap.size = w.heap.size + 1 + 1 := by simp
  have P1 : (((w.alloc (Obj.cells (recA p) 79)).alloc (Obj.cells (ffA f) 82)).alloc (Obj.cells #[.int .i64 0, .int .u8 0, .int .i64 0, .int .i64 0, .int .u8 0, .int .i64 0, .int .i64 0, .int .u8 0, .string ⟨#[]⟩, .string ⟨#[]⟩, .string ⟨#[]⟩] 44)).heap[w.heap.size]? = some (.cells (recA p) 79 (0, 0)) := tr_al (Obj.cells #[.int .i64 0, .int .u8 0, .int .i64 0, .int .i64 0, .int .u8 0, .int .i64 0, .int .i64 0, .int .u8 0, .string ⟨#[]⟩, .string ⟨#[]⟩, .string ⟨#[]⟩] 44) (tr_al (Obj.cells (ffA f) 82) (heap_alloc_new w (Obj.cells (recA p) 79)))
  have F1 : (((w.alloc (Obj.cells (recA p) 79)).alloc (Obj.cells (ffA f) 82)).alloc (Obj.cells #[.int .i64 0, .int .u8 0, .int .i64 0, .int .i64 0, .int .u8 0, .int .i64 0, .int .i64 0, .int .u8 0, .string ⟨#[]⟩, .string ⟨#[]⟩, .string ⟨#[]⟩] 44)).heap[w.heap.size + 1]? = some (.cells (ffA f) 82 (0, 0)) := tr_al (Obj.cells #[.int .i64 0, .int .u8 0, .int .i64 0, .int .i64 0, .int .u8 0, .int .i64 0, .int .i64 0, .int .u8 0, .string ⟨#[]⟩, .string ⟨#[]⟩, .string ⟨#[]⟩] 44) (e1 ▸ heap_alloc_new (w.alloc (Obj.cells (recA p) 79)) (Obj.cells (ffA f) 82))
  have R1 : (((w.alloc (Obj.cells (recA p) 79)).alloc (Obj.cells (ffA f) 82)).alloc (Obj.cells #[.int .i64 0, .int .u8 0, .int .i64 0, .int .i64 0, .int .u8 0, .int .i64 0, .int .i64 0, .int .u8 0, .string ⟨#[]⟩, .string ⟨#[]⟩, .string ⟨#[]⟩] 44)).heap[w.heap.size + 1 + 1]? = some (.cells (rpA 0 0 zeroL (zeroE 0)) 44 (0, 0)) := e2 ▸ heap_alloc_new ((w.alloc (Obj.cells (recA p) 79)).alloc (Obj.cells (ffA f) 82)) (Obj.cells #[.int .i64 0, .int .u8 0, .int .i64 0, .int .i64 0, .int .u8 0, .int .i64 0, .int .i64 0, .int .u8 0, .string ⟨#[]⟩, .string ⟨#[]⟩, .string ⟨#[]⟩] 44)
  have hn1 : w.heap.size < w.heap.size + 1 := by omega
  have hn2 : w.heap.size + 1 < w.heap.size + 1 + 1 := by omega
  clear hbp hbq e1 e2
  generalize ((w.alloc (Obj.cells (recA p) 79)).alloc (Obj.cells (ffA f) 82)).alloc (Obj.cells #[.int .i64 0, .int .u8 0, .int .i64 0, .int .i64 0, .int .u8 0, .int .i64 0, .int .i64 0, .int .u8 0, .string ⟨#[]⟩, .string ⟨#[]⟩, .string ⟨#[]⟩] 44) = w1 at *
  generalize w.heap.size + 1 + 1 = rb at *
  generalize w.heap.size + 1 = fb at *
  refine wp_seq_k (fun K hK => ?_)
  have HK := Lib.hid hK
  clear hK
  go_wp2_with (first
    | ((with_reducible refine wpList_ldB 79 _ ?_); refine ⟨rfl, _, ⟨_, _, _, _, _, Tryz.isAgg79, Tryz.sizeOf79, rfl, ‹_›, arr_all rfl⟩, ?_⟩)
    | ((with_reducible refine wpList_ldB 82 _ ?_); refine ⟨rfl, _, ⟨_, _, _, _, _, Tryz.isAgg82, Tryz.sizeOf82, rfl, ‹_›, arr_all rfl⟩, ?_⟩)
    | (with_reducible refine wpList_bpr (p := p) (f := f) (i := i) _ _ _ (by simp [Act.eval]) (by simp [Act.eval]) (by simp [Act.eval]) ?_)
    | ((first | (with_reducible refine wpList_stNew 120 _ _ ?_) | (with_reducible refine wp_stNew 120 _ _ ?_)); refine ⟨_, _, ⟨Tryz.sizeOf120, rfl, pr_new _ _ _⟩, rfl, ?_⟩))
  refine HK.out _ _ ?_
  clear HK
  have hbx := blw w1 (Obj.cells (prA p f i) 120)
  have X2 := heap_alloc_new w1 (Obj.cells (prA p f i) 120)
  have P2 := tr_bl hbx P1
  have R2 := tr_bl hbx R1
  have hb2 := hb1.trans (hbx.mono hb1.size)
  clear hb1 P1 F1 R1 hbx
  generalize w1.alloc (Obj.cells (prA p f i) 120) = w2 at *
  generalize w1.heap.size = xb at *
  refine wp_seq_k (fun K hK => ?_)
  have HK := Lib.hid hK
  clear hK
  refine wp_seq_k (fun K hK => ?_)
  have HK := Lib.hid hK
  clear hK
  go_wp2_with (first
    | ((with_reducible refine wpList_ldB 120 _ ?_); refine ⟨rfl, _, ⟨_, _, _, _, _, Tryz.isAgg120, Tryz.sizeOf120, rfl, ‹_›, arr_all rfl⟩, ?_⟩)
    | (go_at_call 60; refine (hin _).mono ?_; rintro e w3 ⟨rfl, hb3⟩))
  refine HK.out _ _ ?_
  clear HK
  have P3 := tr_bl hb3 P2
  have R3 := tr_bl hb3 R2
  have X3 := tr_bl hb3 X2
  have hb4 := hb2.trans (hb3.mono hb2.size)
  clear hb2 hb3 P2 R2 X2 hin
  rw [show outV none = .int .i64 (-1) from rfl]
  go_wp2
  refine HK.out _ _ ?_
  clear HK
  refine wp_seq_k (fun K hK => ?_)
  have HK := Lib.hid hK
  clear hK
  refine wp_seq_k (fun K hK => ?_)
  have HK := Lib.hid hK
  clear hK
  go_wp2_with (first
    | ((with_reducible refine wpList_ldB 120 _ ?_); refine ⟨rfl, _, ⟨_, _, _, _, _, Tryz.isAgg120, Tryz.sizeOf120, rfl, ‹_›, arr_all rfl⟩, ?_⟩)
    | (go_at_call 93; refine (rules_any _).mono ?_; rintro e w5 ⟨g, q1, q2, rfl, G5, a0, a1, b0, b1, hb5⟩))
  refine HK.out _ _ ?_
  clear HK
  have P5 := tr_bl hb5 P3
  have R5 := tr_bl hb5 R3
  have hb6 := hb4.trans (hb5.mono hb4.size)
  clear hb4 hb5 P3 R3 X3
  obtain ⟨i0, i1, i2, i3⟩ := ru_at p f i g q1 q2
  go_wp2
  go_loopw [37, 12] (fun i' _ wr => ∃ j : Nat, j ≤ 3 ∧ i' = .int .i64 (j : Nat) ∧ Below w5.heap.size w5 wr) (fun i' _ _ => 4 - (intOf i').toNat)
  case atStart => exact ⟨0, by omega, rfl, Below.refl _ _⟩
  case' round => obtain ⟨j, hj, rfl, hbr⟩ := hrel
  rcases (show j = 0 ∨ j = 1 ∨ j = 2 ∨ j = 3 by omega) with rfl | rfl | rfl | rfl
  · skip
    have G6 := tr_bl hbr G5
    have P6 := tr_bl hbr P5
    have R6 := tr_bl hbr R5
    have x0 := (hbr.cell (World.block_lt_of_cell? _ _ a0)).trans a0
    have x1 := (hbr.cell (World.block_lt_of_cell? _ _ a1)).trans a1
    have y0 := (hbr.cell (World.block_lt_of_cell? _ _ b0)).trans b0
    have y1 := (hbr.cell (World.block_lt_of_cell? _ _ b1)).trans b1
    have hbw := hb6.trans (hbr.mono hb6.size)
    have hbB := blw wr ((Obj.cells #[r2V g, isV q1] 163))
    have d0 := rl_0 (heap_alloc_new wr ((Obj.cells #[r2V g, isV q1] 163)))
    have d1 := rl_1 (heap_alloc_new wr ((Obj.cells #[r2V g, isV q1] 163)))
    have D := heap_alloc_new wr ((Obj.cells #[r2V g, isV q1] 163))
    have G7 := tr_bl hbB G6
    have P7 := tr_bl hbB P6
    have R7 := tr_bl hbB R6
    have x2 := (hbB.cell (World.block_lt_of_cell? _ _ x0)).trans x0
    have x3 := (hbB.cell (World.block_lt_of_cell? _ _ x1)).trans x1
    have y2 := (hbB.cell (World.block_lt_of_cell? _ _ y0)).trans y0
    have y3 := (hbB.cell (World.block_lt_of_cell? _ _ y1)).trans y1
    have hb7 := hbw.trans (hbB.mono hbw.size)
    have hbrB := hbr.trans (hbB.mono hbr.size)
    clear G6 P6 R6 x0 x1 y0 y1 hbw
    skip
    skip
    go_wp2_with (first
      | ((first | (with_reducible refine wpList_stNew 163 _ _ ?_) | (with_reducible refine wp_stNew 163 _ _ ?_)); refine ⟨_, _, ⟨Tryz.sizeOf163, rfl, rl_new _ _ rfl rfl⟩, rfl, ?_⟩)
      | (go_at_call 110; refine (hr2 _ _ G7).mono ?_; rintro e w8 ⟨rfl, hb8⟩))
    go_roundw
    case rel => exact ⟨0 + 1, by omega, by rfl, hbrB.trans (hb8.mono hbrB.size)⟩
    case measure => simp [intOf]
  · skip
    have G6 := tr_bl hbr G5
    have P6 := tr_bl hbr P5
    have R6 := tr_bl hbr R5
    have x0 := (hbr.cell (World.block_lt_of_cell? _ _ a0)).trans a0
    have x1 := (hbr.cell (World.block_lt_of_cell? _ _ a1)).trans a1
    have y0 := (hbr.cell (World.block_lt_of_cell? _ _ b0)).trans b0
    have y1 := (hbr.cell (World.block_lt_of_cell? _ _ b1)).trans b1
    have hbw := hb6.trans (hbr.mono hb6.size)
    have hbB := blw wr ((Obj.cells #[byV p f i, isV q2] 163))
    have d0 := rl_0 (heap_alloc_new wr ((Obj.cells #[byV p f i, isV q2] 163)))
    have d1 := rl_1 (heap_alloc_new wr ((Obj.cells #[byV p f i, isV q2] 163)))
    have D := heap_alloc_new wr ((Obj.cells #[byV p f i, isV q2] 163))
    have G7 := tr_bl hbB G6
    have P7 := tr_bl hbB P6
    have R7 := tr_bl hbB R6
    have x2 := (hbB.cell (World.block_lt_of_cell? _ _ x0)).trans x0
    have x3 := (hbB.cell (World.block_lt_of_cell? _ _ x1)).trans x1
    have y2 := (hbB.cell (World.block_lt_of_cell? _ _ y0)).trans y0
    have y3 := (hbB.cell (World.block_lt_of_cell? _ _ y1)).trans y1
    have hb7 := hbw.trans (hbB.mono hbw.size)
    have hbrB := hbr.trans (hbB.mono hbr.size)
    clear G6 P6 R6 x0 x1 y0 y1 hbw
    skip
    skip
    go_wp2_with (first
      | ((first | (with_reducible refine wpList_stNew 163 _ _ ?_) | (with_reducible refine wp_stNew 163 _ _ ?_)); refine ⟨_, _, ⟨Tryz.sizeOf163, rfl, rl_new _ _ rfl rfl⟩, rfl, ?_⟩)
      | (go_at_call 84; refine (hby _).mono ?_; rintro e w8 ⟨rfl, hb8⟩))
    go_roundw
    case rel => exact ⟨1 + 1, by omega, by rfl, hbrB.trans (hb8.mono hbrB.size)⟩
    case measure => simp [intOf]
  · skip
    have G6 := tr_bl hbr G5
    have P6 := tr_bl hbr P5
    have R6 := tr_bl hbr R5
    have x0 := (hbr.cell (World.block_lt_of_cell? _ _ a0)).trans a0
    have x1 := (hbr.cell (World.block_lt_of_cell? _ _ a1)).trans a1
    have y0 := (hbr.cell (World.block_lt_of_cell? _ _ b0)).trans b0
    have y1 := (hbr.cell (World.block_lt_of_cell? _ _ b1)).trans b1
    have hbw := hb6.trans (hbr.mono hb6.size)
    have hbB := blw wr ((Obj.cells #[r3V g, r4V g] 163))
    have d0 := rl_0 (heap_alloc_new wr ((Obj.cells #[r3V g, r4V g] 163)))
    have d1 := rl_1 (heap_alloc_new wr ((Obj.cells #[r3V g, r4V g] 163)))
    have D := heap_alloc_new wr ((Obj.cells #[r3V g, r4V g] 163))
    have G7 := tr_bl hbB G6
    have P7 := tr_bl hbB P6
    have R7 := tr_bl hbB R6
    have x2 := (hbB.cell (World.block_lt_of_cell? _ _ x0)).trans x0
    have x3 := (hbB.cell (World.block_lt_of_cell? _ _ x1)).trans x1
    have y2 := (hbB.cell (World.block_lt_of_cell? _ _ y0)).trans y0
    have y3 := (hbB.cell (World.block_lt_of_cell? _ _ y1)).trans y1
    have hb7 := hbw.trans (hbB.mono hbw.size)
    have hbrB := hbr.trans (hbB.mono hbr.size)
    clear G6 P6 R6 x0 x1 y0 y1 hbw
    skip
    skip
    go_wp2_with (first
      | ((first | (with_reducible refine wpList_stNew 163 _ _ ?_) | (with_reducible refine wp_stNew 163 _ _ ?_)); refine ⟨_, _, ⟨Tryz.sizeOf163, rfl, rl_new _ _ rfl rfl⟩, rfl, ?_⟩)
      | (go_at_call 111; refine (hr3 _ _ G7).mono ?_; rintro e w8 ⟨rfl, hb8⟩))
    go_roundw
    case rel => exact ⟨2 + 1, by omega, by rfl, hbrB.trans (hb8.mono hbrB.size)⟩
    case measure => simp [intOf]
  · skip
    have G6 := tr_bl hbr G5
    have P6 := tr_bl hbr P5
    have R6 := tr_bl hbr R5
    have x0 := (hbr.cell (World.block_lt_of_cell? _ _ a0)).trans a0
    have x1 := (hbr.cell (World.block_lt_of_cell? _ _ a1)).trans a1
    have y0 := (hbr.cell (World.block_lt_of_cell? _ _ b0)).trans b0
    have y1 := (hbr.cell (World.block_lt_of_cell? _ _ b1)).trans b1
    have hbw := hb6.trans (hbr.mono hb6.size)
    have hbB := blw wr ((Obj.cells #[r5V, r6V g] 163))
    have d0 := rl_0 (heap_alloc_new wr ((Obj.cells #[r5V, r6V g] 163)))
    have d1 := rl_1 (heap_alloc_new wr ((Obj.cells #[r5V, r6V g] 163)))
    have D := heap_alloc_new wr ((Obj.cells #[r5V, r6V g] 163))
    have G7 := tr_bl hbB G6
    have P7 := tr_bl hbB P6
    have R7 := tr_bl hbB R6
    have x2 := (hbB.cell (World.block_lt_of_cell? _ _ x0)).trans x0
    have x3 := (hbB.cell (World.block_lt_of_cell? _ _ x1)).trans x1
    have y2 := (hbB.cell (World.block_lt_of_cell? _ _ y0)).trans y0
    have y3 := (hbB.cell (World.block_lt_of_cell? _ _ y1)).trans y1
    have hb7 := hbw.trans (hbB.mono hbw.size)
    have hbrB := hbr.trans (hbB.mono hbr.size)
    clear G6 P6 R6 x0 x1 y0 y1 hbw
    skip
    skip
    go_wp2_with (first
      | ((first | (with_reducible refine wpList_stNew 163 _ _ ?_) | (with_reducible refine wp_stNew 163 _ _ ?_)); refine ⟨_, _, ⟨Tryz.sizeOf163, rfl, rl_new _ _ rfl rfl⟩, rfl, ?_⟩)
      | (go_at_call 113; refine (r5_any _).mono ?_; rintro e w8 ⟨rfl, hb8⟩; have d1 := (hb8.cell (World.block_lt_of_cell? _ _ d1)).trans d1; have x2 := (hb8.cell (World.block_lt_of_cell? _ _ x2)).trans x2; have x3 := (hb8.cell (World.block_lt_of_cell? _ _ x3)).trans x3; have y2 := (hb8.cell (World.block_lt_of_cell? _ _ y2)).trans y2; have y3 := (hb8.cell (World.block_lt_of_cell? _ _ y3)).trans y3; have P8 := tr_bl hb8 P7; have R8 := tr_bl hb8 R7; have G8 := tr_bl hb8 G7))
    have hb8' := hb7.trans (hb8.mono hb7.size)
    refine (hr6 _ _ G8).mono ?_
    rintro e w9 ⟨rfl, hb9⟩
    have P9 := tr_bl hb9 P8
    have R9 := tr_bl hb9 R8
    have hb10 := hb8'.trans (hb9.mono hb8'.size)
    have hbo := blw w9 (Obj.cells (rpA i 4 zeroL (zeroE 0)) 44)
    have OZ := heap_alloc_new w9 (Obj.cells (rpA i 4 zeroL (zeroE 0)) 44)
    have PZ := tr_bl hbo P9
    have RZ := tr_bl hbo R9
    have hbz := hb10.trans (hbo.mono hb10.size)
    have hob0 := lt_blk R9
    have hob1 := lt_blk P9
    clear d0 d1 D G7 P7 R7 x2 x3 y2 y3 hb7 hbrB G8 hb8 hb8' P8 R8 hb9 P9 R9 hb10 hbB
    go_wp2_with ((first | (with_reducible refine wpList_stNew 44 _ _ ?_) | (with_reducible refine wp_stNew 44 _ _ ?_)); refine ⟨_, _, ⟨Tryz.sizeOf44, rfl, rp_k _ _⟩, rfl, ?_⟩)
    have hob : rb ≠ w9.heap.size := by omega
    generalize w9.alloc (Obj.cells (rpA i 4 zeroL (zeroE 0)) 44) = wz at *
    generalize w9.heap.size = ob at *
    clear PZ hbo hob0 hob1
    have hbd := (Below.refl wz.heap.size wz).drew
    have O8 := tr_bl hbd OZ
    have R8 := tr_bl hbd RZ
    have hb13 := hbz.trans (hbd.mono hbz.size)
    clear hbz OZ RZ hbd
    refine wp_region_held_drew (S := fun w' => w'.heap[ob]? = some (.cells (rpA i 4 (zeroL) (zeroE 0)) 44 (0, 0))) (by kernel_rfl) O8 (fun hS0 => ?_)
    generalize wz.drew = x0 at *
    refine wpAnyH_take (i := 0) (oi := ⟨_, _, _, _, _, _⟩) (v := ?_) rfl (by kernel_rfl) (by kernel_rfl) (by kernel_rfl) (fun _ _ _ h => h) (Or.inl ⟨by rfl, ?_⟩) (by assumption) ?_
    rotate_left
    · intro wS hSw; go_simp; (try with_reducible rfl)
    (try simp only [Act.put]); (try simp only [List.setIfInBounds_toArray]); (try simp only [List.set_cons_succ]); (try simp only [List.set_cons_zero])
    refine wpAnyH_take (i := 1) (oi := ⟨_, _, _, _, _, _⟩) (v := .agg (rpA i 4 (zeroL) (zeroE 0))) rfl (by kernel_rfl) (by kernel_rfl) (by kernel_rfl) (fun _ _ _ h => h) (Or.inl ⟨by rfl, fun wS hSw => ?_⟩) (by assumption) ?_
    · exact exec_ldB 44 _ ⟨_, _, _, _, _, Tryz.isAgg44, Tryz.sizeOf44, rfl, hSw, arr_all rfl⟩
    (try simp only [Act.put]); (try simp only [List.setIfInBounds_toArray]); (try simp only [List.set_cons_succ]); (try simp only [List.set_cons_zero])
    refine wpAnyH_take (i := 2) (oi := ⟨_, _, _, _, _, _⟩) (v := ?_) rfl (by kernel_rfl) (by kernel_rfl) (by kernel_rfl) (fun _ _ _ h => h) (Or.inl ⟨by rfl, ?_⟩) (by assumption) ?_
    rotate_left
    · intro wS hSw; go_simp; (try with_reducible rfl)
    (try simp only [Act.put]); (try simp only [List.setIfInBounds_toArray]); (try simp only [List.set_cons_succ]); (try simp only [List.set_cons_zero])
    refine wpAnyH_ready (rs := [3]) (by kernel_rfl) (by simp) ?_
    refine AllReadyH.cons (o := ⟨_, _, _, _, _, _⟩) rfl (fun K' hK' => ?_) AllReadyH.nil
    refine (if_pos (by rfl)).mpr ?_
    refine wp_stB 44 _ _ ?_
    refine ⟨_, _, _, ⟨_, _, _, Tryz.sizeOf44, rfl, R8, rp_over _ _ _ _ i 4 (zeroL) (zeroE 0)⟩, ?_⟩
    intro w13 R13 g13
    refine hK'.out _ _ (tr_st g13 O8 hob) (fun _ => ?_)
    clear hK'
    (try simp only [Act.put]); (try simp only [List.setIfInBounds_toArray]); (try simp only [List.set_cons_succ]); (try simp only [List.set_cons_zero])
    refine wpAnyH_take (i := 4) (oi := ⟨_, _, _, _, _, _⟩) (v := ?_) rfl (by kernel_rfl) (by kernel_rfl) (by kernel_rfl) (fun _ _ _ h => h) (Or.inl ⟨by rfl, ?_⟩) (by assumption) ?_
    rotate_left
    · intro wS hSw; go_simp; (try with_reducible rfl)
    (try simp only [Act.put]); (try simp only [List.setIfInBounds_toArray]); (try simp only [List.set_cons_succ]); (try simp only [List.set_cons_zero])
    refine wpAnyH_done (by kernel_rfl) ?_ _
    go_wp2
    refine bodyPost_ret (results_t1c1t1' rfl rfl (run_loadVar_all Tryz.isAgg44 Tryz.sizeOf44 R13 rfl)) rfl ⟨rfl, bls hb13 (Nat.le_refl _) g13 (by omega)⟩
set_option maxRecDepth 100000 in
set_option maxHeartbeats 1000000 in
theorem what_badF (hw : p.wh = 0 ∨ p.wh = 1) (hk : intactS p f i = none) (h1 : ¬ (p.st = 1 ∧ p.idx = i)) (h2 : beyondS p f i = false) (h3 : ¬ p.st ≠ 2) (h4 : badS f = false) (w : World) : Calls Tryz.prog 68 #[.agg (recA p), .agg (ffA f), .int .i64 i] w fun e w' => e = .returned (.tuple #[.int .u8 0, .agg (rpA i 1 zeroL (zeroE 0)), .int .i64 (-1)]) ∧ Below w.heap.size w w' := by
  have hin := fun w => intact_any2 hw _ hk w
  have hr2 := fun g w h => r2_any (w := w) (g := g) (p := p) (f := f) (i := i) h false (decide_eq_false h1)
  have hby := fun w => beyond_any2 (p := p) (f := f) (i := i) _ h2 w
  have hr3 := fun g w h => r3_any (w := w) (g := g) (p := p) (f := f) (i := i) h false (decide_eq_false h3)
  have hr6 := fun g w h => r6_any (w := w) (g := g) (p := p) (f := f) (i := i) h _ h4
  simp only [Bool.false_eq_true, if_false] at hr6
  clear hk hw h1 h2 h3 h4
  go_enter Tryz.func68, Tryz.ntmps68
  refine wp_seq_k (fun K hK => ?_)
  have HK := Lib.hid hK
  clear hK
  go_wp2
  refine HK.out _ _ ?_
  clear HK
  have hbp := blw w (Obj.cells (recA p) 79)
  have hbq := hbp.trans ((blw (w.alloc (Obj.cells (recA p) 79)) (Obj.cells (ffA f) 82)).mono hbp.size)
  have hb1 := hbq.trans ((blw ((w.alloc (Obj.cells (recA p) 79)).alloc (Obj.cells (ffA f) 82)) (Obj.cells #[.int .i64 0, .int .u8 0, .int .i64 0, .int .i64 0, .int .u8 0, .int .i64 0, .int .i64 0, .int .u8 0, .string ⟨#[]⟩, .string ⟨#[]⟩, .string ⟨#[]⟩] 44)).mono hbq.size)
  have e1 : (w.alloc (Obj.cells (recA p) 79)).heap.size = w.heap.size + 1 := by simp
  have e2 : ((w.alloc (Obj.cells (recA p) 79)).alloc (Obj.cells (ffA f) 82)).heap.size = w.heap.size + 1 + 1 := by simp
  have P1 : (((w.alloc (Obj.cells (recA p) 79)).alloc (Obj.cells (ffA f) 82)).alloc (Obj.cells #[.int .i64 0, .int .u8 0, .int .i64 0, .int .i64 0, .int .u8 0, .int .i64 0, .int .i64 0, .int .u8 0, .string ⟨#[]⟩, .string ⟨#[]⟩, .string ⟨#[]⟩] 44)).heap[w.heap.size]? = some (.cells (recA p) 79 (0, 0)) := tr_al (Obj.cells #[.int .i64 0, .int .u8 0, .int .i64 0, .int .i64 0, .int .u8 0, .int .i64 0, .int .i64 0, .int .u8 0, .string ⟨#[]⟩, .string ⟨#[]⟩, .string ⟨#[]⟩] 44) (tr_al (Obj.cells (ffA f) 82) (heap_alloc_new w (Obj.cells (recA p) 79)))
  have F1 : (((w.alloc (Obj.cells (recA p) 79)).alloc (Obj.cells (ffA f) 82)).alloc (Obj.cells #[.int .i64 0, .int .u8 0, .int .i64 0, .int .i64 0, .int .u8 0, .int .i64 0, .int .i64 0, .int .u8 0, .string ⟨#[]⟩, .string ⟨#[]⟩, .string ⟨#[]⟩] 44)).heap[w.heap.size + 1]? = some (.cells (ffA f) 82 (0, 0)) := tr_al (Obj.cells #[.int .i64 0, .int .u8 0, .int .i64 0, .int .i64 0, .int .u8 0, .int .i64 0, .int .i64 0, .int .u8 0, .string ⟨#[]⟩, .string ⟨#[]⟩, .string ⟨#[]⟩] 44) (e1 ▸ heap_alloc_new (w.alloc (Obj.cells (recA p) 79)) (Obj.cells (ffA f) 82))
  have R1 : (((w.alloc (Obj.cells (recA p) 79)).alloc (Obj.cells (ffA f) 82)).alloc (Obj.cells #[.int .i64 0, .int .u8 0, .int .i64 0, .int .i64 0, .int .u8 0, .int .i64 0, .int .i64 0, .int .u8 0, .string ⟨#[]⟩, .string ⟨#[]⟩, .string ⟨#[]⟩] 44)).heap[w.heap.size + 1 + 1]? = some (.cells (rpA 0 0 zeroL (zeroE 0)) 44 (0, 0)) := e2 ▸ heap_alloc_new ((w.alloc (Obj.cells (recA p) 79)).alloc (Obj.cells (ffA f) 82)) (Obj.cells #[.int .i64 0, .int .u8 0, .int .i64 0, .int .i64 0, .int .u8 0, .int .i64 0, .int .i64 0, .int .u8 0, .string ⟨#[]⟩, .string ⟨#[]⟩, .string ⟨#[]⟩] 44)
  have hn1 : w.heap.size < w.heap.size + 1 := by omega
  have hn2 : w.heap.size + 1 < w.heap.size + 1 + 1 := by omega
  clear hbp hbq e1 e2
  generalize ((w.alloc (Obj.cells (recA p) 79)).alloc (Obj.cells (ffA f) 82)).alloc (Obj.cells #[.int .i64 0, .int .u8 0, .int .i64 0, .int .i64 0, .int .u8 0, .int .i64 0, .int .i64 0, .int .u8 0, .string ⟨#[]⟩, .string ⟨#[]⟩, .string ⟨#[]⟩] 44) = w1 at *
  generalize w.heap.size + 1 + 1 = rb at *
  generalize w.heap.size + 1 = fb at *
  refine wp_seq_k (fun K hK => ?_)
  have HK := Lib.hid hK
  clear hK
  go_wp2_with (first
    | ((with_reducible refine wpList_ldB 79 _ ?_); refine ⟨rfl, _, ⟨_, _, _, _, _, Tryz.isAgg79, Tryz.sizeOf79, rfl, ‹_›, arr_all rfl⟩, ?_⟩)
    | ((with_reducible refine wpList_ldB 82 _ ?_); refine ⟨rfl, _, ⟨_, _, _, _, _, Tryz.isAgg82, Tryz.sizeOf82, rfl, ‹_›, arr_all rfl⟩, ?_⟩)
    | (with_reducible refine wpList_bpr (p := p) (f := f) (i := i) _ _ _ (by simp [Act.eval]) (by simp [Act.eval]) (by simp [Act.eval]) ?_)
    | ((first | (with_reducible refine wpList_stNew 120 _ _ ?_) | (with_reducible refine wp_stNew 120 _ _ ?_)); refine ⟨_, _, ⟨Tryz.sizeOf120, rfl, pr_new _ _ _⟩, rfl, ?_⟩))
  refine HK.out _ _ ?_
  clear HK
  have hbx := blw w1 (Obj.cells (prA p f i) 120)
  have X2 := heap_alloc_new w1 (Obj.cells (prA p f i) 120)
  have P2 := tr_bl hbx P1
  have R2 := tr_bl hbx R1
  have hb2 := hb1.trans (hbx.mono hb1.size)
  clear hb1 P1 F1 R1 hbx
  generalize w1.alloc (Obj.cells (prA p f i) 120) = w2 at *
  generalize w1.heap.size = xb at *
  refine wp_seq_k (fun K hK => ?_)
  have HK := Lib.hid hK
  clear hK
  refine wp_seq_k (fun K hK => ?_)
  have HK := Lib.hid hK
  clear hK
  go_wp2_with (first
    | ((with_reducible refine wpList_ldB 120 _ ?_); refine ⟨rfl, _, ⟨_, _, _, _, _, Tryz.isAgg120, Tryz.sizeOf120, rfl, ‹_›, arr_all rfl⟩, ?_⟩)
    | (go_at_call 60; refine (hin _).mono ?_; rintro e w3 ⟨rfl, hb3⟩))
  refine HK.out _ _ ?_
  clear HK
  have P3 := tr_bl hb3 P2
  have R3 := tr_bl hb3 R2
  have X3 := tr_bl hb3 X2
  have hb4 := hb2.trans (hb3.mono hb2.size)
  clear hb2 hb3 P2 R2 X2 hin
  rw [show outV none = .int .i64 (-1) from rfl]
  go_wp2
  refine HK.out _ _ ?_
  clear HK
  refine wp_seq_k (fun K hK => ?_)
  have HK := Lib.hid hK
  clear hK
  refine wp_seq_k (fun K hK => ?_)
  have HK := Lib.hid hK
  clear hK
  go_wp2_with (first
    | ((with_reducible refine wpList_ldB 120 _ ?_); refine ⟨rfl, _, ⟨_, _, _, _, _, Tryz.isAgg120, Tryz.sizeOf120, rfl, ‹_›, arr_all rfl⟩, ?_⟩)
    | (go_at_call 93; refine (rules_any _).mono ?_; rintro e w5 ⟨g, q1, q2, rfl, G5, a0, a1, b0, b1, hb5⟩))
  refine HK.out _ _ ?_
  clear HK
  have P5 := tr_bl hb5 P3
  have R5 := tr_bl hb5 R3
  have hb6 := hb4.trans (hb5.mono hb4.size)
  clear hb4 hb5 P3 R3 X3
  obtain ⟨i0, i1, i2, i3⟩ := ru_at p f i g q1 q2
  go_wp2
  go_loopw [37, 12] (fun i' _ wr => ∃ j : Nat, j ≤ 3 ∧ i' = .int .i64 (j : Nat) ∧ Below w5.heap.size w5 wr) (fun i' _ _ => 4 - (intOf i').toNat)
  case atStart => exact ⟨0, by omega, rfl, Below.refl _ _⟩
  case' round => obtain ⟨j, hj, rfl, hbr⟩ := hrel
  rcases (show j = 0 ∨ j = 1 ∨ j = 2 ∨ j = 3 by omega) with rfl | rfl | rfl | rfl
  · skip
    have G6 := tr_bl hbr G5
    have P6 := tr_bl hbr P5
    have R6 := tr_bl hbr R5
    have x0 := (hbr.cell (World.block_lt_of_cell? _ _ a0)).trans a0
    have x1 := (hbr.cell (World.block_lt_of_cell? _ _ a1)).trans a1
    have y0 := (hbr.cell (World.block_lt_of_cell? _ _ b0)).trans b0
    have y1 := (hbr.cell (World.block_lt_of_cell? _ _ b1)).trans b1
    have hbw := hb6.trans (hbr.mono hb6.size)
    have hbB := blw wr ((Obj.cells #[r2V g, isV q1] 163))
    have d0 := rl_0 (heap_alloc_new wr ((Obj.cells #[r2V g, isV q1] 163)))
    have d1 := rl_1 (heap_alloc_new wr ((Obj.cells #[r2V g, isV q1] 163)))
    have D := heap_alloc_new wr ((Obj.cells #[r2V g, isV q1] 163))
    have G7 := tr_bl hbB G6
    have P7 := tr_bl hbB P6
    have R7 := tr_bl hbB R6
    have x2 := (hbB.cell (World.block_lt_of_cell? _ _ x0)).trans x0
    have x3 := (hbB.cell (World.block_lt_of_cell? _ _ x1)).trans x1
    have y2 := (hbB.cell (World.block_lt_of_cell? _ _ y0)).trans y0
    have y3 := (hbB.cell (World.block_lt_of_cell? _ _ y1)).trans y1
    have hb7 := hbw.trans (hbB.mono hbw.size)
    have hbrB := hbr.trans (hbB.mono hbr.size)
    clear G6 P6 R6 x0 x1 y0 y1 hbw
    skip
    skip
    go_wp2_with (first
      | ((first | (with_reducible refine wpList_stNew 163 _ _ ?_) | (with_reducible refine wp_stNew 163 _ _ ?_)); refine ⟨_, _, ⟨Tryz.sizeOf163, rfl, rl_new _ _ rfl rfl⟩, rfl, ?_⟩)
      | (go_at_call 110; refine (hr2 _ _ G7).mono ?_; rintro e w8 ⟨rfl, hb8⟩))
    go_roundw
    case rel => exact ⟨0 + 1, by omega, by rfl, hbrB.trans (hb8.mono hbrB.size)⟩
    case measure => simp [intOf]
  · skip
    have G6 := tr_bl hbr G5
    have P6 := tr_bl hbr P5
    have R6 := tr_bl hbr R5
    have x0 := (hbr.cell (World.block_lt_of_cell? _ _ a0)).trans a0
    have x1 := (hbr.cell (World.block_lt_of_cell? _ _ a1)).trans a1
    have y0 := (hbr.cell (World.block_lt_of_cell? _ _ b0)).trans b0
    have y1 := (hbr.cell (World.block_lt_of_cell? _ _ b1)).trans b1
    have hbw := hb6.trans (hbr.mono hb6.size)
    have hbB := blw wr ((Obj.cells #[byV p f i, isV q2] 163))
    have d0 := rl_0 (heap_alloc_new wr ((Obj.cells #[byV p f i, isV q2] 163)))
    have d1 := rl_1 (heap_alloc_new wr ((Obj.cells #[byV p f i, isV q2] 163)))
    have D := heap_alloc_new wr ((Obj.cells #[byV p f i, isV q2] 163))
    have G7 := tr_bl hbB G6
    have P7 := tr_bl hbB P6
    have R7 := tr_bl hbB R6
    have x2 := (hbB.cell (World.block_lt_of_cell? _ _ x0)).trans x0
    have x3 := (hbB.cell (World.block_lt_of_cell? _ _ x1)).trans x1
    have y2 := (hbB.cell (World.block_lt_of_cell? _ _ y0)).trans y0
    have y3 := (hbB.cell (World.block_lt_of_cell? _ _ y1)).trans y1
    have hb7 := hbw.trans (hbB.mono hbw.size)
    have hbrB := hbr.trans (hbB.mono hbr.size)
    clear G6 P6 R6 x0 x1 y0 y1 hbw
    skip
    skip
    go_wp2_with (first
      | ((first | (with_reducible refine wpList_stNew 163 _ _ ?_) | (with_reducible refine wp_stNew 163 _ _ ?_)); refine ⟨_, _, ⟨Tryz.sizeOf163, rfl, rl_new _ _ rfl rfl⟩, rfl, ?_⟩)
      | (go_at_call 84; refine (hby _).mono ?_; rintro e w8 ⟨rfl, hb8⟩))
    go_roundw
    case rel => exact ⟨1 + 1, by omega, by rfl, hbrB.trans (hb8.mono hbrB.size)⟩
    case measure => simp [intOf]
  · skip
    have G6 := tr_bl hbr G5
    have P6 := tr_bl hbr P5
    have R6 := tr_bl hbr R5
    have x0 := (hbr.cell (World.block_lt_of_cell? _ _ a0)).trans a0
    have x1 := (hbr.cell (World.block_lt_of_cell? _ _ a1)).trans a1
    have y0 := (hbr.cell (World.block_lt_of_cell? _ _ b0)).trans b0
    have y1 := (hbr.cell (World.block_lt_of_cell? _ _ b1)).trans b1
    have hbw := hb6.trans (hbr.mono hb6.size)
    have hbB := blw wr ((Obj.cells #[r3V g, r4V g] 163))
    have d0 := rl_0 (heap_alloc_new wr ((Obj.cells #[r3V g, r4V g] 163)))
    have d1 := rl_1 (heap_alloc_new wr ((Obj.cells #[r3V g, r4V g] 163)))
    have D := heap_alloc_new wr ((Obj.cells #[r3V g, r4V g] 163))
    have G7 := tr_bl hbB G6
    have P7 := tr_bl hbB P6
    have R7 := tr_bl hbB R6
    have x2 := (hbB.cell (World.block_lt_of_cell? _ _ x0)).trans x0
    have x3 := (hbB.cell (World.block_lt_of_cell? _ _ x1)).trans x1
    have y2 := (hbB.cell (World.block_lt_of_cell? _ _ y0)).trans y0
    have y3 := (hbB.cell (World.block_lt_of_cell? _ _ y1)).trans y1
    have hb7 := hbw.trans (hbB.mono hbw.size)
    have hbrB := hbr.trans (hbB.mono hbr.size)
    clear G6 P6 R6 x0 x1 y0 y1 hbw
    skip
    skip
    go_wp2_with (first
      | ((first | (with_reducible refine wpList_stNew 163 _ _ ?_) | (with_reducible refine wp_stNew 163 _ _ ?_)); refine ⟨_, _, ⟨Tryz.sizeOf163, rfl, rl_new _ _ rfl rfl⟩, rfl, ?_⟩)
      | (go_at_call 111; refine (hr3 _ _ G7).mono ?_; rintro e w8 ⟨rfl, hb8⟩))
    go_roundw
    case rel => exact ⟨2 + 1, by omega, by rfl, hbrB.trans (hb8.mono hbrB.size)⟩
    case measure => simp [intOf]
  · skip
    have G6 := tr_bl hbr G5
    have P6 := tr_bl hbr P5
    have R6 := tr_bl hbr R5
    have x0 := (hbr.cell (World.block_lt_of_cell? _ _ a0)).trans a0
    have x1 := (hbr.cell (World.block_lt_of_cell? _ _ a1)).trans a1
    have y0 := (hbr.cell (World.block_lt_of_cell? _ _ b0)).trans b0
    have y1 := (hbr.cell (World.block_lt_of_cell? _ _ b1)).trans b1
    have hbw := hb6.trans (hbr.mono hb6.size)
    have hbB := blw wr ((Obj.cells #[r5V, r6V g] 163))
    have d0 := rl_0 (heap_alloc_new wr ((Obj.cells #[r5V, r6V g] 163)))
    have d1 := rl_1 (heap_alloc_new wr ((Obj.cells #[r5V, r6V g] 163)))
    have D := heap_alloc_new wr ((Obj.cells #[r5V, r6V g] 163))
    have G7 := tr_bl hbB G6
    have P7 := tr_bl hbB P6
    have R7 := tr_bl hbB R6
    have x2 := (hbB.cell (World.block_lt_of_cell? _ _ x0)).trans x0
    have x3 := (hbB.cell (World.block_lt_of_cell? _ _ x1)).trans x1
    have y2 := (hbB.cell (World.block_lt_of_cell? _ _ y0)).trans y0
    have y3 := (hbB.cell (World.block_lt_of_cell? _ _ y1)).trans y1
    have hb7 := hbw.trans (hbB.mono hbw.size)
    have hbrB := hbr.trans (hbB.mono hbr.size)
    clear G6 P6 R6 x0 x1 y0 y1 hbw
    skip
    skip
    go_wp2_with (first
      | ((first | (with_reducible refine wpList_stNew 163 _ _ ?_) | (with_reducible refine wp_stNew 163 _ _ ?_)); refine ⟨_, _, ⟨Tryz.sizeOf163, rfl, rl_new _ _ rfl rfl⟩, rfl, ?_⟩)
      | (go_at_call 113; refine (r5_any _).mono ?_; rintro e w8 ⟨rfl, hb8⟩; have d1 := (hb8.cell (World.block_lt_of_cell? _ _ d1)).trans d1; have x2 := (hb8.cell (World.block_lt_of_cell? _ _ x2)).trans x2; have x3 := (hb8.cell (World.block_lt_of_cell? _ _ x3)).trans x3; have y2 := (hb8.cell (World.block_lt_of_cell? _ _ y2)).trans y2; have y3 := (hb8.cell (World.block_lt_of_cell? _ _ y3)).trans y3; have P8 := tr_bl hb8 P7; have R8 := tr_bl hb8 R7; have G8 := tr_bl hb8 G7))
    have hb8' := hb7.trans (hb8.mono hb7.size)
    refine (hr6 _ _ G8).mono ?_
    rintro e w9 ⟨rfl, hb9⟩
    have P9 := tr_bl hb9 P8
    have R9 := tr_bl hb9 R8
    have hb10 := hb8'.trans (hb9.mono hb8'.size)
    have hbo := blw w9 (Obj.cells (rpA i 1 zeroL (zeroE 0)) 44)
    have OZ := heap_alloc_new w9 (Obj.cells (rpA i 1 zeroL (zeroE 0)) 44)
    have PZ := tr_bl hbo P9
    have RZ := tr_bl hbo R9
    have hbz := hb10.trans (hbo.mono hb10.size)
    have hob0 := lt_blk R9
    have hob1 := lt_blk P9
    clear d0 d1 D G7 P7 R7 x2 x3 y2 y3 hb7 hbrB G8 hb8 hb8' P8 R8 hb9 P9 R9 hb10 hbB
    go_wp2_with ((first | (with_reducible refine wpList_stNew 44 _ _ ?_) | (with_reducible refine wp_stNew 44 _ _ ?_)); refine ⟨_, _, ⟨Tryz.sizeOf44, rfl, rp_k _ _⟩, rfl, ?_⟩)
    have hob : rb ≠ w9.heap.size := by omega
    generalize w9.alloc (Obj.cells (rpA i 1 zeroL (zeroE 0)) 44) = wz at *
    generalize w9.heap.size = ob at *
    clear PZ hbo hob0 hob1
    have hbd := (Below.refl wz.heap.size wz).drew
    have O8 := tr_bl hbd OZ
    have R8 := tr_bl hbd RZ
    have hb13 := hbz.trans (hbd.mono hbz.size)
    clear hbz OZ RZ hbd
    refine wp_region_held_drew (S := fun w' => w'.heap[ob]? = some (.cells (rpA i 1 (zeroL) (zeroE 0)) 44 (0, 0))) (by kernel_rfl) O8 (fun hS0 => ?_)
    generalize wz.drew = x0 at *
    refine wpAnyH_take (i := 0) (oi := ⟨_, _, _, _, _, _⟩) (v := ?_) rfl (by kernel_rfl) (by kernel_rfl) (by kernel_rfl) (fun _ _ _ h => h) (Or.inl ⟨by rfl, ?_⟩) (by assumption) ?_
    rotate_left
    · intro wS hSw; go_simp; (try with_reducible rfl)
    (try simp only [Act.put]); (try simp only [List.setIfInBounds_toArray]); (try simp only [List.set_cons_succ]); (try simp only [List.set_cons_zero])
    refine wpAnyH_take (i := 1) (oi := ⟨_, _, _, _, _, _⟩) (v := .agg (rpA i 1 (zeroL) (zeroE 0))) rfl (by kernel_rfl) (by kernel_rfl) (by kernel_rfl) (fun _ _ _ h => h) (Or.inl ⟨by rfl, fun wS hSw => ?_⟩) (by assumption) ?_
    · exact exec_ldB 44 _ ⟨_, _, _, _, _, Tryz.isAgg44, Tryz.sizeOf44, rfl, hSw, arr_all rfl⟩
    (try simp only [Act.put]); (try simp only [List.setIfInBounds_toArray]); (try simp only [List.set_cons_succ]); (try simp only [List.set_cons_zero])
    refine wpAnyH_take (i := 2) (oi := ⟨_, _, _, _, _, _⟩) (v := ?_) rfl (by kernel_rfl) (by kernel_rfl) (by kernel_rfl) (fun _ _ _ h => h) (Or.inl ⟨by rfl, ?_⟩) (by assumption) ?_
    rotate_left
    · intro wS hSw; go_simp; (try with_reducible rfl)
    (try simp only [Act.put]); (try simp only [List.setIfInBounds_toArray]); (try simp only [List.set_cons_succ]); (try simp only [List.set_cons_zero])
    refine wpAnyH_ready (rs := [3]) (by kernel_rfl) (by simp) ?_
    refine AllReadyH.cons (o := ⟨_, _, _, _, _, _⟩) rfl (fun K' hK' => ?_) AllReadyH.nil
    refine (if_pos (by rfl)).mpr ?_
    refine wp_stB 44 _ _ ?_
    refine ⟨_, _, _, ⟨_, _, _, Tryz.sizeOf44, rfl, R8, rp_over _ _ _ _ i 1 (zeroL) (zeroE 0)⟩, ?_⟩
    intro w13 R13 g13
    refine hK'.out _ _ (tr_st g13 O8 hob) (fun _ => ?_)
    clear hK'
    (try simp only [Act.put]); (try simp only [List.setIfInBounds_toArray]); (try simp only [List.set_cons_succ]); (try simp only [List.set_cons_zero])
    refine wpAnyH_take (i := 4) (oi := ⟨_, _, _, _, _, _⟩) (v := ?_) rfl (by kernel_rfl) (by kernel_rfl) (by kernel_rfl) (fun _ _ _ h => h) (Or.inl ⟨by rfl, ?_⟩) (by assumption) ?_
    rotate_left
    · intro wS hSw; go_simp; (try with_reducible rfl)
    (try simp only [Act.put]); (try simp only [List.setIfInBounds_toArray]); (try simp only [List.set_cons_succ]); (try simp only [List.set_cons_zero])
    refine wpAnyH_done (by kernel_rfl) ?_ _
    go_wp2
    refine bodyPost_ret (results_t1c1t1' rfl rfl (run_loadVar_all Tryz.isAgg44 Tryz.sizeOf44 R13 rfl)) rfl ⟨rfl, bls hb13 (Nat.le_refl _) g13 (by omega)⟩
end
end Go.Proofs.YtknchbhobopkeaaGreatDoor
