/- Texts that the claim leans on, part 16: Rng, Rng2, Rng4, V11, V12, X12, X13, X14. -/
import Derived.Test.YtknchbhobopkeaaGreatDoorZ1
import Derived.Test.YtknchbhobopkeaaGreatDoorZ2
import Derived.Test.YtknchbhobopkeaaGreatDoorZ3
import Derived.Test.YtknchbhobopkeaaGreatDoorZ4
import Derived.Test.YtknchbhobopkeaaGreatDoorZ5
import Derived.Test.YtknchbhobopkeaaGreatDoorZ6
import Derived.Test.YtknchbhobopkeaaGreatDoorZ7
import Derived.Test.YtknchbhobopkeaaGreatDoorZ8
import Derived.Test.YtknchbhobopkeaaGreatDoorZ9
import Derived.Test.YtknchbhobopkeaaGreatDoorZ10
import Derived.Test.YtknchbhobopkeaaGreatDoorZ11
import Derived.Test.YtknchbhobopkeaaGreatDoorZ12
import Derived.Test.YtknchbhobopkeaaGreatDoorZ13
import Derived.Test.YtknchbhobopkeaaGreatDoorZ14
import Derived.Test.YtknchbhobopkeaaGreatDoorZ15
import Derived.RangeFuncNested
import Derived.RangeFuncBound
import Derived.RangeFuncCalls
import Derived.RangeFuncLeaves
import Derived.RangeFuncBox
import Derived.RangeFuncRecord
import Derived.Test.YtknchbhobopkeaaGreatDoorRows
import Derived.WalkKit
import Derived.WalkSpells
import Derived.WalkLawsBesides
import Derived.Handy
import Derived.Deep.QuietTactic
import Derived.BigQuiet
import Derived.Deep.DeepCutAuto
import Derived.Lib.Hide
import Derived.RegionTactic
import Derived.ChangeAlike
import Derived.Shelf.Abstract
import Derived.Shelf.RegionOpen
import Derived.OwnWalkIn
import Derived.TacticsInMore
import Derived.LoopNIn
import Derived.LoopIn
import Derived.Laws.ResultCell
import Derived.Outline
import Derived.IntWalk
import Derived.Maps.AppendAt
import Derived.Maps.OwnIn
import Derived.Laws.IdiomStrings
import Derived.Laws.BytesArg
import Derived.LoopN
import Derived.ChangeSlices
import Derived.ProofKit
import Derived.Deep.Slices
import Derived.Deep.Strs
import Derived.OpenShut
import Derived.Lib.SmallJoins
import Derived.Laws.MakeOwn
import Derived.Lib.SliceRun
import Derived.Laws.BitsAllLaws
import Derived.Great.BuildSlice
import Derived.Great.FillDense
import Derived.Laws.Rows
import Derived.Deep.Quiet
import Derived.Deep.RegionHeld3
import Derived.Lib.AppendStr
import Derived.Laws.Strings
import Derived.Laws.CopyOwn
import Derived.Laws.CopyRow
import Derived.Laws.NewBlocks
import Derived.Deep.RegionLaw
namespace Go.Proofs.YtknchbhobopkeaaGreatDoor
open Go.RowKit
theorem calls_marks {P : Program} {f : FuncId} {fn : Func} {c : Code} {args : Array Value} {w : World} {R : Ending → World → Prop} (hf : P.funcs[f]? = some fn) (hb : fn.body = some c)
    (h : c.wp P (bodyPostM Fence.wide 3 P fn R) { tmps := args ++ Array.replicate (fn.ntmps - args.size) undef, defers := [] } w) : Calls P f args w R :=
  callsIn_wide.1 (callsIn_of_wp_marks (F := Fence.wide) (n := 3) hf hb trivial (wpIn_wide.2 h))
theorem wp_range {α : Type} {P : Program} {g : Operand} {ps : Array Tmp} {assign body : Code} {Q : Exit → Act → World → Prop} {a : Act} {w : World}
    {gf : Nat} {lb : Array Value} (hg : a.eval g = .func (.func gf) #[] lb) (eg : ∀ args w, (callFunc gf args).run P w = .ok (.enter gf args) w)
    {encs : α → Array Value} {Kp : World → World → Prop} {S Sp : List α → Prop} {N : Nat} (hseq : SeqStopsK Fence.wide 2 P gf lb encs Kp S Sp N w)
    (hKt : ∀ {A B C : World}, Kp A B → Kp B C → Kp A C) (hKb : ∀ (W : World) (l : Nat) (o o' : Obj), w.heap.size ≤ l → W.heap[l]? = some o → o.isCells = false → o.isWalk = false → Kp W (W.putObj l o')) (hps : ∀ x, (encs x).size = ps.size)
    (I : List α → World → Prop) (Ix : Code → List α → World → Prop) (hI : OwnFrom w.heap.size I) (hIx : ∀ c, OwnFrom w.heap.size (Ix c)) (h0 : I [] w) (a₁ : α → Act)
    (hassign : ∀ (l : Nat) (x : α) (W : World) (K : Act → World → Prop), K (a₁ x) W →
      assign.wpIn (Fence.wide.inRound l) (3 - 1 - 1) P (Exit.then K (fun _ _ _ => False)) { tmps := (ps.zip (encs x)).foldl (fun t (p, v) => t.setIfInBounds p v) a.tmps, defers := [] } W)
    (hbody : ∀ (l : Nat) (pre : List α) (x : α) (W : World), I pre W → pre.length < N → body.wpIn (Fence.wide.inRound l) (3 - 1 - 1) P (ownPostG w.heap.size Kp I Ix (pre ++ [x]) W) (a₁ x) W)
    (hdone : ∀ (D : Nat) (xs : List α) (W : World), w.heap.size ≤ D → S xs → I xs W → W.heap[D]? = some (.deferred (some [])) → Q .normal { a with defers := { target := .collected D, args := #[] } :: a.defers } W)
    (hstop : ∀ (D : Nat) (c : Code) (pre : List α) (W : World), w.heap.size ≤ D → Sp pre → Ix c pre W → W.heap[D]? = some (.deferred (some [])) → c.wp P Q { a with defers := { target := .collected D, args := #[] } :: a.defers } W) :
    (Code.rangeFunc g ps assign body).wp P Q a w :=
  wpIn_wide.1 (wpIn_rangeFunc_ownG (F := Fence.wide) (n := 3) rfl (by decide) hg trivial eg hseq hKt hKb (Below.refl _ _) hps I Ix hI hIx h0 a₁ hassign hbody hdone (fun D c pre W h1 h2 h3 h4 => wpIn_wide.2 (hstop D c pre W h1 h2 h3 h4)))
theorem wp_range_skip {α : Type} {P : Program} {g : Operand} {ps : Array Tmp} {body : Code} {Q : Exit → Act → World → Prop} {a : Act} {w : World}
    {gf : Nat} {lb : Array Value} (hg : a.eval g = .func (.func gf) #[] lb) (eg : ∀ args w, (callFunc gf args).run P w = .ok (.enter gf args) w)
    {encs : α → Array Value} {Kp : World → World → Prop} {S Sp : List α → Prop} {N : Nat} (hseq : SeqStopsK Fence.wide 2 P gf lb encs Kp S Sp N w)
    (hKt : ∀ {A B C : World}, Kp A B → Kp B C → Kp A C) (hKb : ∀ (W : World) (l : Nat) (o o' : Obj), w.heap.size ≤ l → W.heap[l]? = some o → o.isCells = false → o.isWalk = false → Kp W (W.putObj l o')) (hps : ∀ x, (encs x).size = ps.size)
    (I : List α → World → Prop) (Ix : Code → List α → World → Prop) (hI : OwnFrom w.heap.size I) (hIx : ∀ c, OwnFrom w.heap.size (Ix c)) (h0 : I [] w)
    (hbody : ∀ (l : Nat) (pre : List α) (x : α) (W : World), I pre W → pre.length < N → body.wpIn (Fence.wide.inRound l) (3 - 1 - 1) P (ownPostG w.heap.size Kp I Ix (pre ++ [x]) W) { tmps := (ps.zip (encs x)).foldl (fun t (p, v) => t.setIfInBounds p v) a.tmps, defers := [] } W)
    (hdone : ∀ (D : Nat) (xs : List α) (W : World), w.heap.size ≤ D → S xs → I xs W → W.heap[D]? = some (.deferred (some [])) → Q .normal { a with defers := { target := .collected D, args := #[] } :: a.defers } W)
    (hstop : ∀ (D : Nat) (c : Code) (pre : List α) (W : World), w.heap.size ≤ D → Sp pre → Ix c pre W → W.heap[D]? = some (.deferred (some [])) → c.wp P Q { a with defers := { target := .collected D, args := #[] } :: a.defers } W) :
    (Code.rangeFunc g ps .skip body).wp P Q a w :=
  wp_range hg eg hseq hKt hKb hps I Ix hI hIx h0 (fun x => { tmps := (ps.zip (encs x)).foldl (fun t (p, v) => t.setIfInBounds p v) a.tmps, defers := [] }) (fun _ _ _ _ hK => wpIn_skip hK) hbody hdone hstop
structure KpH (n m : Nat) (W W' : World) : Prop where
  bl : Below n W W'
  bx : ∀ k, m ≤ k → k < m + 4 → W'.heap[k]? = W.heap[k]?
theorem KpH.trans {n m : Nat} {A B C : World} (h : KpH n m A B) (k : KpH n m B C) : KpH n m A C := ⟨h.bl.trans k.bl, fun i h1 h2 => (k.bx i h1 h2).trans (h.bx i h1 h2)⟩
theorem KpH.put {n m : Nat} {w : World} (hn : n ≤ w.heap.size) (hm : m + 4 ≤ w.heap.size) (W : World) (l : Nat) (o o' : Obj) (hl : w.heap.size ≤ l) (h : W.heap[l]? = some o) (h1 : o.isCells = false) (h2 : o.isWalk = false) : KpH n m W (W.putObj l o') :=
  ⟨belowK_b hn W l o o' hl h h1 h2, fun k _ hk => (grownBy_putObj' W l o').block k (by have := (Array.getElem?_eq_some_iff.1 h).1; omega) (fun e => by cases e; omega)⟩
theorem KpH.below {n m : Nat} {W W' : World} (h : Below W.heap.size W W') (hn : n ≤ W.heap.size) (hm : m + 4 ≤ W.heap.size) : KpH n m W W' := ⟨h.mono hn, fun k _ hk => h.block k (by omega)⟩
theorem gb_none {w w' : World} (h : Below w.heap.size w w') : w.grownBy w' none := ⟨h.os, h.tape, h.output, h.size, fun i hi _ => h.block i hi⟩
theorem abides_bl {β : Type} {B : Nat} {J : β → World → Prop} (hJ : AbidesFrom B J) {s : β} {w w' : World} (hs : J s w) (h : Below w.heap.size w w') : J s w' := hJ s w w' none hs (gb_none h) (fun r e => by cases e)
theorem marks_ret {P : Program} {fn : Func} {R : Ending → World → Prop} {tmps : Array Value} {D : Nat} {v : Value} {w : World} (hK : w.heap[D]? = some (.deferred (some []))) (hres : (results fn tmps).run P (w.putObj D (.deferred none)) = .ok v (w.putObj D (.deferred none)))
    (hR : R (.returned v) (w.putObj D (.deferred none))) : bodyPostM Fence.wide 3 P fn R .ret { tmps := tmps, defers := [{ target := .collected D, args := #[] }] } w :=
  ⟨by simp, .inl ⟨_, _, rfl, run_takeDeferred hK, v, hres, hR⟩⟩
theorem marks_end {P : Program} {fn : Func} {R : Ending → World → Prop} {tmps : Array Value} {v : Value} {w : World} (hres : (results fn tmps).run P w = .ok v w) (hR : R (.returned v) w) : bodyPostM Fence.wide 3 P fn R .ret { tmps := tmps, defers := [] } w := ⟨v, hres, hR⟩
theorem below_mark {n D : Nat} {w W : World} (h : Below n w W) (hD : n ≤ D) : Below n w (W.putObj D (.deferred none)) :=
  h.trans ⟨rfl, rfl, rfl, by simp [World.putObj], fun k hk => World.putObj_heap_other (by omega)⟩
end Go.Proofs.YtknchbhobopkeaaGreatDoor
namespace Go.Proofs.YtknchbhobopkeaaGreatDoor
open Go.RowKit
structure KpB (n m : Nat) (A B : World) : Prop where
  bl : Below n A B
  bx : B.heap[m]? = A.heap[m]?
theorem KpB.trans {n m : Nat} {A B C : World} (h : KpB n m A B) (k : KpB n m B C) : KpB n m A C := ⟨h.bl.trans k.bl, k.bx.trans h.bx⟩
theorem KpB.put {n m : Nat} {W : World} {l : Nat} {o : Obj} (o' : Obj) (hn : n ≤ l) (hm : m < l) (h : W.heap[l]? = some o) : KpB n m W (W.putObj l o') := by
  have hl := (Array.getElem?_eq_some_iff.1 h).1
  exact ⟨(Below.refl n W).grown (grownBy_putObj' W l o') (by omega) (fun k e => by cases e; exact hn), (grownBy_putObj' W l o').block m (by omega) (fun e => by cases e; omega)⟩
def Carry {α : Type} (B m : Nat) (I : List α → World → Prop) : Prop :=
  ∀ s A B' row, I s A → A.grownBy B' row → (∀ r, row = some r → r = m ∨ (B ≤ r ∧ ∃ o : Obj, A.heap[r]? = some o ∧ o.isCells = false)) → I s B'
theorem Carry.put {α : Type} {B m l : Nat} {I : List α → World → Prop} (h : Carry B m I) {s : List α} {W : World} {o : Obj} (o' : Obj) (hs : I s W) (hB : B ≤ l) (hl : W.heap[l]? = some o) (ho : o.isCells = false) : I s (W.putObj l o') :=
  h s W _ (some l) hs (grownBy_putObj' W l o') (fun r e => by cases e; exact .inr ⟨hB, o, hl, ho⟩)
theorem Carry.al {α : Type} {B m : Nat} {I : List α → World → Prop} (h : Carry B m I) {s : List α} {W : World} (o : Obj) (hs : I s W) : I s (W.alloc o) :=
  h s W _ none hs (World.grownBy_alloc W o none) (fun r e => by cases e)
theorem grown_at {A B : World} {row : Option Nat} {m k : Nat} {o : Obj} (hg : A.grownBy B row) (hr : ∀ r, row = some r → r = m) (hk : A.heap[k]? = some o) (hne : k ≠ m) : B.heap[k]? = some o :=
  (hg.block k (Array.getElem?_eq_some_iff.1 hk).1 (fun e => hne (hr k e.symm))).trans hk
theorem wp_range_box {α : Type} {P : Program} {g : Operand} {ps : Array Tmp} {assign body : Code} {Q : Exit → Act → World → Prop} {a : Act} {w : World}
    {gf : Nat} {lb : Array Value} (hg : a.eval g = .func (.func gf) #[] lb) (eg : ∀ args w, (callFunc gf args).run P w = .ok (.enter gf args) w)
    {encs : α → Array Value} {n m N : Nat} {S : List α → Prop} (hm : m < w.heap.size) (hn : n ≤ w.heap.size)
    (hseq : ∀ (l : Nat) (J : List α → World → Prop) (W : World), Below w.heap.size w W → (∀ s A B row, J s A → A.grownBy B row → (∀ r, row = some r → r = m) → J s B) →
      (∀ pre x W1, J pre W1 → pre.length < N → YieldAt Fence.wide 1 P l (encs x) W1 fun e W' => e = .returned (.bool true) ∧ J (pre ++ [x]) W' ∧ KpB n m W1 W') → J [] W →
      CallsIn Fence.wide 2 P gf (#[.func (.yield l) #[] #[]] ++ lb) W fun e W' => (∃ v, e = .returned v) ∧ ∃ xs, S xs ∧ J xs W')
    (hps : ∀ x, (encs x).size = ps.size) (I : List α → World → Prop) (hI : Carry w.heap.size m I) (h0 : I [] w) (a₁ : α → Act)
    (hassign : ∀ (l : Nat) (x : α) (W : World) (K : Act → World → Prop), K (a₁ x) W →
      assign.wpIn (Fence.wide.inRound l) 1 P (Exit.then K (fun _ _ _ => False)) { tmps := (ps.zip (encs x)).foldl (fun t (p, v) => t.setIfInBounds p v) a.tmps, defers := [] } W)
    (hbody : ∀ (l : Nat) (pre : List α) (x : α) (W : World), I pre W → pre.length < N → body.wpIn (Fence.wide.inRound l) 1 P (fun e _ W' => e = .normal ∧ KeepsFrom w.heap.size W W' ∧ KpB n m W W' ∧ I (pre ++ [x]) W') (a₁ x) W)
    (hdone : ∀ (D : Nat) (xs : List α) (W : World), w.heap.size ≤ D → S xs → I xs W → W.heap[D]? = some (.deferred (some [])) → Q .normal { a with defers := { target := .collected D, args := #[] } :: a.defers } W) :
    (Code.rangeFunc g ps assign body).wp P Q a w := by
  refine wpIn_wide.1 (wpIn_rangeFunc (F := Fence.wide) (n := 3) (fun fn hfn => ?_))
  obtain ⟨rec, hrec⟩ : ∃ rec : LoopState → Loop, rec = fun st => { state := st, pending := none, fn, tmps := a.tmps, params := ps, assign, body, defers := w.heap.size } := ⟨_, rfl⟩
  obtain ⟨D, hD⟩ : ∃ D, w.heap.size = D := ⟨_, rfl⟩
  have he := run_enterLoop_outer (P := P) (w := w) fn a.tmps ps assign body
  obtain ⟨W1, hW1⟩ : ∃ W1, (w.alloc (.deferred (some []))).alloc (.loop { state := .ready, pending := none, fn, tmps := a.tmps, params := ps, assign, body, defers := w.heap.size }) = W1 := ⟨_, rfl⟩
  rw [hW1] at he
  have hL1 : W1.heap[D + 1]? = some (.loop (rec .ready)) := by
    rw [← hW1, hrec]
    have := World.alloc_heap_new (w.alloc (.deferred (some []))) (.loop { state := .ready, pending := none, fn, tmps := a.tmps, params := ps, assign, body, defers := w.heap.size })
    rw [World.size_alloc, hD] at this
    rw [hD]
    exact this
  have hK1 : W1.heap[D]? = some (.deferred (some [])) := by
    rw [← hW1, ← hD]
    exact (Below.heap_alloc _ _ _ (by simp)).trans (World.alloc_heap_new w _)
  have hI1 : I [] W1 := by rw [← hW1]; exact hI.al _ (hI.al _ h0)
  have hb1 : Below w.heap.size w W1 := by
    rw [← hW1]
    exact ((Below.refl _ w).alloc (Nat.le_refl _) _).alloc (by simp) _
  rw [hD] at he
  refine ⟨D + 1, [{ target := .collected D, args := #[] }], W1, { target := .fn (.func gf) lb, args := #[.func (.yield (D + 1)) #[] #[]] }, W1, gf, #[.func (.yield (D + 1)) #[] #[]] ++ lb, W1, he, ?_, fun _ _ => trivial, ?_, fun _ => by decide, ?_⟩
  · simp only [resolve, hg]
    simp [go_sem]
  · simp [invoke, go_sem, eg]
  · refine (hseq (D + 1) (fun pre W => I pre W ∧ W.heap[D + 1]? = some (.loop (rec .ready)) ∧ W.heap[D]? = some (.deferred (some []))) W1 hb1 ?_ ?_ ⟨hI1, hL1, hK1⟩).mono ?_
    · rintro s A B row ⟨h1, h2, h3⟩ hgr hr
      exact ⟨hI s A B row h1 hgr (fun r e => .inl (hr r e)), grown_at hgr hr h2 (by omega), grown_at hgr hr h3 (by omega)⟩
    · rintro pre x W ⟨hi, hl, hk⟩ hlen
      have hy := run_yield (P := P) (args := encs x) hl (by rw [hrec]; exact hps x)
      rw [hrec] at hy
      refine ⟨fn, _, assign, body, hy, roundIn_of_wpIn hfn (hassign _ x W _ ?_)⟩
      refine ⟨_, run_beginRound hl (by rw [hrec]), ?_⟩
      have hlt := (Array.getElem?_eq_some_iff.1 hl).1
      have hl2 : (W.putObj (D + 1) (.loop { rec .ready with state := .busy })).heap[D + 1]? = some (.loop { rec .ready with state := .busy }) := World.putObj_heap_same hlt
      have hk2 : (W.putObj (D + 1) (.loop { rec .ready with state := .busy })).heap[D]? = some (.deferred (some [])) := (World.putObj_heap_other (by omega)).trans hk
      have hp2 : KpB n m W (W.putObj (D + 1) (.loop { rec .ready with state := .busy })) := KpB.put _ (by omega) (by omega) hl
      refine wpIn_mono (hbody _ pre x _ (hI.put _ hi (by omega) hl rfl) hlen) ?_
      rintro e a3 W3 ⟨rfl, hk3, hkp3, hi3⟩
      have hl3 := hk3.same _ _ (by omega) hl2 rfl
      have hd3 := hk3.same _ _ (by omega) hk2 rfl
      have hr := run_endRound (P := P) none hl3
      rw [hrec] at hr hl3
      refine ⟨_, _, hr, rfl, ⟨hI.put _ hi3 (by omega) hl3 rfl, ?_, (World.putObj_heap_other (by omega)).trans hd3⟩, (hp2.trans hkp3).trans (KpB.put _ (by omega) (by omega) hl3)⟩
      rw [hrec]
      exact World.putObj_heap_same (Array.getElem?_eq_some_iff.1 hl3).1
    · rintro e W2 ⟨⟨v, rfl⟩, xs, hS, hi, hl, hk⟩
      refine ⟨none, _, by have := run_endLoop (P := P) hl (by rw [hrec]; simp); rw [hrec] at this; exact this, ?_⟩
      exact hdone D xs _ (by omega) hS (hI.put _ hi (by omega) hl rfl) ((World.putObj_heap_other (by omega)).trans hk)
end Go.Proofs.YtknchbhobopkeaaGreatDoor
namespace Go.Proofs.YtknchbhobopkeaaGreatDoor
open Go.RowKit
theorem wp_range_h {α : Type} {P : Program} {g : Operand} {ps : Array Tmp} {assign body : Code} {Q : Exit → Act → World → Prop} {a : Act} {w : World}
    {gf : Nat} {lb : Array Value} (hg : a.eval g = .func (.func gf) #[] lb) (eg : ∀ args w, (callFunc gf args).run P w = .ok (.enter gf args) w)
    {encs : α → Array Value} {Kp : World → World → Prop} {S Sp : List α → Prop} {N : Nat} (hseq : SeqStopsK Fence.wide 2 P gf lb encs Kp S Sp N w)
    (hKt : ∀ {A B C : World}, Kp A B → Kp B C → Kp A C) (hKb : ∀ (W : World) (l : Nat) (o o' : Obj), w.heap.size ≤ l → W.heap[l]? = some o → o.isCells = false → o.isWalk = false → Kp W (W.putObj l o')) (hps : ∀ x, (encs x).size = ps.size)
    (I : List α → World → Prop) (Ix : Code → List α → World → Prop) (hI : OwnFrom w.heap.size I) (hIx : ∀ c, OwnFrom w.heap.size (Ix c)) (h0 : I [] w) (Ax : α → Act → World → Prop) (hAx : ∀ x a', OwnFrom w.heap.size (fun (_ : Unit) W => Ax x a' W))
    (hassign : ∀ (l : Nat) (pre : List α) (x : α) (W : World) (K : Act → World → Prop), I pre W → (∀ a' W', KeepsFrom w.heap.size W W' → Kp W W' → I pre W' → Ax x a' W' → K a' W') →
      assign.wpIn (Fence.wide.inRound l) (3 - 1 - 1) P (Exit.then K (fun _ _ _ => False)) { tmps := (ps.zip (encs x)).foldl (fun t (p, v) => t.setIfInBounds p v) a.tmps, defers := [] } W)
    (hbody : ∀ (l : Nat) (pre : List α) (x : α) (a' : Act) (W : World), I pre W → Ax x a' W → pre.length < N → body.wpIn (Fence.wide.inRound l) (3 - 1 - 1) P (ownPostG w.heap.size Kp I Ix (pre ++ [x]) W) a' W)
    (hdone : ∀ (D : Nat) (xs : List α) (W : World), w.heap.size ≤ D → S xs → I xs W → W.heap[D]? = some (.deferred (some [])) → Q .normal { a with defers := { target := .collected D, args := #[] } :: a.defers } W)
    (hstop : ∀ (D : Nat) (c : Code) (pre : List α) (W : World), w.heap.size ≤ D → Sp pre → Ix c pre W → W.heap[D]? = some (.deferred (some [])) → c.wp P Q { a with defers := { target := .collected D, args := #[] } :: a.defers } W) :
    (Code.rangeFunc g ps assign body).wp P Q a w :=
  wpIn_wide.1 (wpIn_rangeFunc_ownH (F := Fence.wide) (n := 3) rfl (by decide) hg trivial eg hseq hKt hKb (Below.refl _ _) hps I Ix hI hIx h0 Ax hAx hassign (fun l pre x a' W _ _ h1 h2 h3 => hbody l pre x a' W h1 h2 h3) hdone (fun D c pre W h1 h2 h3 h4 => wpIn_wide.2 (hstop D c pre W h1 h2 h3 h4)))
theorem KpB.put2 {n m : Nat} {w : World} (hn : n ≤ w.heap.size) (hm : m < w.heap.size) (W : World) (l : Nat) (o o' : Obj) (hl : w.heap.size ≤ l) (h : W.heap[l]? = some o) (_ : o.isCells = false) (_ : o.isWalk = false) : KpB n m W (W.putObj l o') := KpB.put o' (by omega) (by omega) h
theorem KpB.below {n m : Nat} {W W' : World} (h : Below W.heap.size W W') (hn : n ≤ W.heap.size) (hm : m < W.heap.size) : KpB n m W W' := ⟨h.mono hn, h.block m hm⟩
theorem KpB.refl (n m : Nat) (W : World) : KpB n m W W := ⟨Below.refl _ _, rfl⟩
end Go.Proofs.YtknchbhobopkeaaGreatDoor
namespace Go.Proofs.YtknchbhobopkeaaGreatDoor
open Go.RowKit Go.Shelf
def slotW (d : Dk) (s : Lg) (k : Nat) : Int × Rpt := ((repW d s (s.snap + 1 + k)).1, rptW d s (s.snap + 1 + k))
def slotsL (d : Dk) (s : Lg) (n : Nat) : List (Int × Rpt) := (List.range n).map (slotW d s)
theorem slotsL_succ (d : Dk) (s : Lg) (n : Nat) : slotsL d s (n + 1) = slotsL d s n ++ [slotW d s n] := by
  unfold slotsL
  rw [List.range_succ, List.map_append]
  rfl
theorem slotsL_len (d : Dk) (s : Lg) (n : Nat) : (slotsL d s n).length = n := by simp [slotsL]
theorem yld_bool {e : Ending} {A C : Prop} (h : (e = .returned (.bool true) ∧ A) ∨ (e = .returned (.bool false) ∧ C)) : ∃ b, e = .returned (.bool b) ∧ ((b = true ∧ A) ∨ (b = false ∧ C)) := by
  rcases h with ⟨h1, h2⟩ | ⟨h1, h2⟩
  · exact ⟨true, h1, .inl ⟨rfl, h2⟩⟩
  · exact ⟨false, h1, .inr ⟨rfl, h2⟩⟩
section
variable {B g gp q : Nat} {wv : Value} {d : Dk} {wc w : World} {s : Lg}
set_option maxRecDepth 100000 in
theorem lslots_any (w : World) : Calls Tryz.prog 37 #[.pointer (some ⟨q, 0, none⟩)] w fun e w' => e = .returned (.func (.func 67) #[] #[.pointer (some ⟨w.heap.size, 0, none⟩)]) ∧ w' = w.alloc (Obj.cells #[.pointer (some ⟨q, 0, none⟩)] 27) := by
  go_enter Tryz.func37, Tryz.ntmps37
  go_wp2
  go_ret
  exact ⟨rfl, rfl⟩
set_option maxRecDepth 100000 in
set_option maxHeartbeats 1000000 in
theorem lslots_in (h : LgB wc q g s) (hd : DiskB B g gp wv d wc) (hs : LgOk s) (m l : Nat) (J Jx : List (Int × Rpt) → World → Prop) (W : World) (hm : wc.heap.size ≤ m) (hm2 : m < W.heap.size) (hB : Below wc.heap.size wc W) (hq : W.cell? ⟨m, 0, none⟩ = some (.pointer (some ⟨q, 0, none⟩))) (hJ : AbidesFrom W.heap.size J)
    (hY : ∀ pre x W1, J pre W1 → pre.length < 24 → YieldAt Fence.wide 1 Tryz.prog l #[.int .u8 x.1, .agg (rptA x.2)] W1 fun e W' => (e = .returned (.bool true) ∧ J (pre ++ [x]) W' ∧ KpB wc.heap.size m W1 W') ∨ (e = .returned (.bool false) ∧ Jx (pre ++ [x]) W')) (h0 : J [] W) :
    CallsIn Fence.wide 2 Tryz.prog 67 (#[.func (.yield l) #[] #[]] ++ #[.pointer (some ⟨m, 0, none⟩)]) W fun e W' => (∃ v, e = .returned v) ∧ ((∃ xs, xs = slotsL d s 24 ∧ J xs W') ∨ (∃ pre, True ∧ Jx pre W')) := by
  refine callsIn_of_wp Tryz.func67 rfl trivial ?_ rfl
  simp only [Tryz.ntmps67, List.size_toArray, List.length_cons, List.length_nil, Nat.reduceAdd, Nat.reduceSub, Array.replicate_succ, Array.replicate_zero, List.push_toArray, List.append_toArray, List.nil_append, List.cons_append]
  have hsp := hs.p
  have HY := Lib.hid hY
  clear hY
  gi_wp2
  gi_loopw [4, 3] (fun i _ wr => ∃ k : Nat, k ≤ 24 ∧ i = .int .i64 k ∧ J (slotsL d s k) wr ∧ KpB wc.heap.size m W wr) (fun i _ _ => 24 - (Go.RowKit.intOf i).toNat)
  case atStart => exact ⟨0, by omega, rfl, h0, KpB.refl _ _ _⟩
  case round =>
    obtain ⟨k, hk, rfl, hJs, hKr⟩ := hrel
    by_cases hlt : k < 24
    · have hbr := hB.trans hKr.bl
      have L1 := h.below hbr
      have D1 := hd.below hbr
      have c3 := L1.c3
      have cm : wr.cell? ⟨m, 0, none⟩ = some (.pointer (some ⟨q, 0, none⟩)) := by
        unfold World.cell? at hq ⊢
        simp only at hq ⊢
        rw [hKr.bx]
        exact hq
      have hyk := HY.out (slotsL d s k) (slotW d s k)
      rw [← slotsL_succ] at hyk
      have hll := slotsL_len d s k
      have hwa := fun w' (L : LgB w' q g s) (D : DiskB B g gp wv d w') => wwhat_any L D (s.snap + 1 + k) (by omega) (by omega)
      have hyk2 := fun W1 hj => hyk W1 hj (by omega)
      have hst : slotW d s k = ((repW d s (s.snap + 1 + k)).1, rptW d s (s.snap + 1 + k)) := rfl
      rw [hst] at hyk2
      simp only at hyk2
      have e9 : rptA (rptW d s (s.snap + 1 + k)) = rpA (s.snap + 1 + k) (repW d s (s.snap + 1 + k)).2.1 (repW d s (s.snap + 1 + k)).2.2.1 (repW d s (s.snap + 1 + k)).2.2.2 := rfl
      rw [e9] at hyk2
      generalize repW d s (s.snap + 1 + k) = z at *
      clear hll hst e9 hyk
      have hki : (k : Int) < 24 := by omega
      have hbd := (Below.refl wr.heap.size wr).drew
      have hwd := hwa _ (L1.below hbd) (D1.below hbd)
      have hmx : Tryz.prog.follows .mixedOrders = true := by kernel_rfl
      have hz1 : IntKind.i64.wrap (s.snap + 1) = s.snap + 1 := IntWalk.i64_in _ (by omega)
      have hz2 : IntKind.i64.wrap (s.snap + 1 + k) = s.snap + 1 + k := IntWalk.i64_in _ (by omega)
      gi_wp2
      gi_region_with_o (first | (refine hR.mono ?_; rintro e W3 h3; obtain ⟨yb, rfl, h4⟩ := yld_bool h3) | (refine ⟨trivial, ?_⟩; (try rw [hz1, hz2]); gi_at_call 38; refine (callsIn_wide.2 hwd).mono ?_; rintro e w3 ⟨rfl, hb3⟩; have hb4 := hbd.trans (hb3.mono hbd.size); obtain ⟨fn, tmps, assign, body, hy, hR⟩ := hyk2 w3 (abides_bl hJ hJs hb4)))
      all_goals
        rcases h4 with ⟨rfl, hJ3, hk4⟩ | ⟨rfl, hJx3⟩
        · gi_wp2
          have hsz := hKr.bl.size
          go_roundw
          case rel => exact ⟨k + 1, by omega, by go_num, hJ3, (hKr.trans (KpB.below hb4 (by omega) (by omega))).trans hk4⟩
          case measure => simp [Go.RowKit.intOf]; omega
        · gi_wp2
          refine bodyPost_ret (results_none rfl _ _ _) rfl ?_
          first | exact ⟨⟨_, rfl⟩, .inr ⟨_, trivial, hJx3⟩⟩ | exact ⟨⟨_, rfl⟩, .inr ⟨_, hJx3⟩⟩
    · obtain rfl : k = 24 := by omega
      gi_wp2
      go_end0
      exact ⟨⟨_, rfl⟩, .inl ⟨_, rfl, hJs⟩⟩
theorem lslots_stops (h : LgB wc q g s) (hd : DiskB B g gp wv d wc) (hs : LgOk s) (m : Nat) (hm : wc.heap.size ≤ m) (hm2 : m < w.heap.size) (hB : Below wc.heap.size wc w) (hq : w.cell? ⟨m, 0, none⟩ = some (.pointer (some ⟨q, 0, none⟩))) :
    SeqStopsK Fence.wide 2 Tryz.prog 67 #[.pointer (some ⟨m, 0, none⟩)] (fun x : Int × Rpt => #[Value.int .u8 x.1, .agg (rptA x.2)]) (KpB wc.heap.size m) (fun xs => xs = slotsL d s 24) (fun _ => True) 24 w :=
  fun l J Jx W hW hJ _ hY h0 => lslots_in h hd hs m l J Jx W hm (Nat.lt_of_lt_of_le hm2 hW.size) (hB.trans (hW.mono (by omega))) (cell_later hW hq) hJ hY h0
end
end Go.Proofs.YtknchbhobopkeaaGreatDoor
namespace Go.Proofs.YtknchbhobopkeaaGreatDoor
open Go.RowKit Go.Shelf Go.Maps
attribute [local go_sem] Oper.semAt_some
def toldC (x : Int × Rpt) : Bool := x.1 == 3 || x.1 == 2
def toldL (l : List (Int × Rpt)) : List Rpt := (l.filter toldC).map (·.2)
def rptC (r : Rpt) : List Value := (rptA r).toList
theorem rptC_len (r : Rpt) : (rptC r).length = 11 := rfl
theorem toldL_snoc (l : List (Int × Rpt)) (x : Int × Rpt) : toldL (l ++ [x]) = toldL l ++ (if toldC x = true then [x.2] else []) := by
  unfold toldL
  rw [List.filter_append, List.map_append]
  cases h : toldC x <;> simp [h]
theorem toldL_len (l : List (Int × Rpt)) : (toldL l).length ≤ l.length := by
  unfold toldL
  rw [List.length_map]
  exact List.length_filter_le _ _
def allW (d : Dk) (s : Lg) : List Rpt := toldL (slotsL d s 24)
theorem infoRp : (Tryz.prog.info? 44).map (fun i => (i.zero, i.size, i.bytes)) = some (some (.agg (rptA zeroR')), 11, 112) := by kernel_rfl
def InvA (w : World) (pre : List (Int × Rpt)) (W : World) : Prop := (∃ v, Boxed W w.heap.size 39 v ∧ W.ownsRow (w.heap.size + 2) 44 11 v (toldL pre).length ((toldL pre).flatMap rptC) ∧ True) ∧ Below w.heap.size w W ∧ w.heap.size + 2 ≤ W.heap.size
theorem ownFrom_invA (w : World) {B : Nat} (hB : w.heap.size + 2 ≤ B) : OwnFrom B (InvA w) :=
  OwnFrom.and (Own.from (holdsRow_own (w.heap.size + 2) w.heap.size 39 44 11 (fun (pre : List (Int × Rpt)) => (toldL pre).length) (fun (pre : List (Int × Rpt)) => (toldL pre).flatMap rptC) (fun _ _ => True)) B) (OwnFrom.and (ownFrom_below (Nat.le_refl _) (by omega)) (fun _ _ _ _ hs hg _ => Nat.le_trans hs hg.size))
theorem box_appW {W w1 : World} {n₀ n1 B m : Nat} {t e : TypeId} {size : Nat} {v v' : Value} {k k' : Nat} {xs ys : List Value} {tmp : Obj}
    (hv : Boxed W B t v) (hte : t ≠ e) (hrow : W.ownsRow n1 e size v k xs) (hn1 : n1 ≤ W.heap.size) (hB : n₀ ≤ B) (hBm : B < m) (hm : m < n1)
    (hown' : w1.ownsRow n1 e size v' k' ys) (hgrow : (W.alloc tmp).grownBy w1 v.ownBlock) :
    Boxed w1 B t v ∧ Boxed (w1.setCell ⟨B, 0, none⟩ v') B t v' ∧ (w1.setCell ⟨B, 0, none⟩ v').ownsRow n1 e size v' k' ys ∧ KeepsOthers W (w1.setCell ⟨B, 0, none⟩ v') ∧ KpB n₀ m W (w1.setCell ⟨B, 0, none⟩ v') ∧ ∀ k, k < n1 → k ≠ B → (w1.setCell ⟨B, 0, none⟩ v').heap[k]? = W.heap[k]? := by
  obtain ⟨h1, h2, _, h4, h5⟩ := hv.appended hte (owns_mono hrow (show n₀ ≤ n1 by omega)) (by omega) hB (owns_mono hown' (show n₀ ≤ n1 by omega)) hgrow
  have hk : ∀ k, k < n1 → k ≠ B → (w1.setCell ⟨B, 0, none⟩ v').heap[k]? = W.heap[k]? := fun k hk1 hk2 => by
    have hkw : k < W.heap.size := by omega
    have e1 : (w1.setCell ⟨B, 0, none⟩ v').heap[k]? = w1.heap[k]? := Below.heap_setCell _ _ _ k (by simp only; omega)
    have e2 : w1.heap[k]? = (W.alloc tmp).heap[k]? := hgrow.block k (by simp; omega) (fun e => by
      rcases hrow.2 with ⟨rfl, _⟩ | ⟨g, cap, cur, rfl, hg, _⟩
      · simp [Value.ownBlock] at e
      · simp [Value.ownBlock] at e
        omega)
    exact e1.trans (e2.trans (Below.heap_alloc W tmp k hkw))
  exact ⟨h1, h2, hown'.kept (grownBy_setCell' w1 B v') (.inr (h1.not_row hte hown').symm), h4, ⟨h5, hk m hm (by omega)⟩, hk⟩
def actA (q g F : Nat) (x : Int × Rpt) (q9 : Nat) : Act := { tmps := #[Value.pointer (some ⟨q, 0, none⟩), undef, .slice none 0 0, .int .i64 0, Value.pointer (some ⟨F, 0, none⟩), .int .u8 x.1, Value.pointer (some ⟨q9, 0, none⟩), Value.pointer (some ⟨q, 0, none⟩), .bool false, Value.pointer (some ⟨q, 0, none⟩), Value.pointer (some ⟨q, 0, none⟩), Value.pointer (some ⟨q, 0, none⟩), Value.pointer (some ⟨g, 0, none⟩), .bool true, .bool false, Value.pointer (some ⟨q, 0, none⟩), .func (.func 67) #[] #[.pointer (some ⟨F + 1, 0, none⟩)], .int .u8 x.1, .agg (rptA x.2), undef, undef, undef, undef, undef, undef, undef, undef, undef, undef, undef], defers := [] }
def AxA (q g F : Nat) (x : Int × Rpt) (a' : Act) (W : World) : Prop := ∃ q9, F + 2 ≤ q9 ∧ W.heap[q9]? = some (Obj.cells (rptA x.2) 44 (0, 0)) ∧ a' = actA q g F x q9
theorem ownFrom_axA (B q g F : Nat) (x : Int × Rpt) (a' : Act) : OwnFrom B (fun (_ : Unit) W => AxA q g F x a' W) := by
  rintro s W W' row ⟨q9, hq, hx, e⟩ hg hr
  refine ⟨q9, hq, (hg.block q9 (Array.getElem?_eq_some_iff.1 hx).1 (fun e2 => ?_)).trans hx, e⟩
  obtain ⟨_, o, ho, hc⟩ := hr q9 e2.symm
  rw [hx] at ho
  injection ho with ho
  subst ho
  cases hc
theorem new_rowA (w : World) (cs : Array Value) (T : TypeId) : ∀ (j : Nat) (u : Value), cs.toList[j]? = some u → (w.alloc (Obj.cells cs T)).cell? ((⟨w.heap.size, 0, none⟩ : Addr).add j) = some u := fun j u h => by
  rw [addr_add, Nat.zero_add, cell_new]
  simpa using h
section
variable {B g gp q : Nat} {wv : Value} {d : Dk} {w : World} {s : Lg}
set_option maxRecDepth 100000 in
set_option maxHeartbeats 1000000 in
theorem lall_any2 (h : LgB w q g s) (hd : DiskB B g gp wv d w) (hs : LgOk s) (hup : upD d = true) : Calls Tryz.prog 12 #[.pointer (some ⟨q, 0, none⟩)] w fun e w' => ∃ v, e = .returned (.tuple #[v, .int .i64 0]) ∧ w'.ownsRow w.heap.size 44 11 v (allW d s).length ((allW d s).flatMap rptC) ∧ Below w.heap.size w w' := by
  refine calls_marks Tryz.func12 rfl ?_
  simp only [Tryz.ntmps12, List.size_toArray, List.length_cons, List.length_nil, Nat.reduceAdd, Nat.reduceSub, Array.replicate_succ, Array.replicate_zero, List.push_toArray, List.append_toArray, List.nil_append, List.cons_append]
  obtain ⟨i0, hi, hz0, hz1, hz2⟩ := info_parts infoRp
  have hno := lnone_any2 h
  have hu := up_any hd
  rw [hup] at hu
  have c0 := h.c0
  go_wp2_with (first
    | (go_at_call 36; refine hno.mono ?_; rintro e w1 ⟨rfl, rfl⟩)
    | (go_at_call 28; refine hu.mono ?_; rintro e w1 ⟨rfl, rfl⟩))
  refine (lslots_any (q := q) _).mono ?_
  rintro e w1 ⟨rfl, rfl⟩
  go_wp2
  have hb0 := blw w (Obj.cells #[.slice none 0 0] 39)
  have hb2 := hb0.trans ((blw (w.alloc (Obj.cells #[.slice none 0 0] 39)) (Obj.cells #[.pointer (some ⟨q, 0, none⟩)] 27)).mono hb0.size)
  have hbx : Boxed ((w.alloc (Obj.cells #[.slice none 0 0] 39)).alloc (Obj.cells #[.pointer (some ⟨q, 0, none⟩)] 27)) w.heap.size 39 (.slice none 0 0) := tr_al (Obj.cells #[.pointer (some ⟨q, 0, none⟩)] 27) (heap_alloc_new w (Obj.cells #[.slice none 0 0] 39))
  have hsz : ((w.alloc (Obj.cells #[.slice none 0 0] 39)).alloc (Obj.cells #[.pointer (some ⟨q, 0, none⟩)] 27)).heap.size = w.heap.size + 2 := by simp
  have hq2 : ((w.alloc (Obj.cells #[.slice none 0 0] 39)).alloc (Obj.cells #[.pointer (some ⟨q, 0, none⟩)] 27)).cell? ⟨w.heap.size + 1, 0, none⟩ = some (.pointer (some ⟨q, 0, none⟩)) := blk_cell (new_two w (Obj.cells #[.slice none 0 0] 39) (Obj.cells #[.pointer (some ⟨q, 0, none⟩)] 27)) 0 _ rfl
  have hI0 : InvA w [] ((w.alloc (Obj.cells #[.slice none 0 0] 39)).alloc (Obj.cells #[.pointer (some ⟨q, 0, none⟩)] 27)) := ⟨⟨_, hbx, World.ownsRow_nil _ _ _ _, trivial⟩, hb2, by omega⟩
  clear hbx
  generalize (w.alloc (Obj.cells #[.slice none 0 0] 39)).alloc (Obj.cells #[.pointer (some ⟨q, 0, none⟩)] 27) = w2 at *
  have hsq := lslots_stops h hd hs (w := w2) (w.heap.size + 1) (by omega) (by omega) hb2 hq2
  have hkb := KpB.put2 (n := w.heap.size) (m := w.heap.size + 1) (w := w2) (by omega) (by omega)
  have hIo := ownFrom_invA w (B := w2.heap.size) (by omega)
  have hen := enters_of Tryz.func67 (by kernel_rfl) rfl
  refine wp_range_h (gf := 67) rfl hen hsq KpB.trans hkb (fun _ => rfl) (InvA w) (fun _ _ _ => False) hIo (fun _ _ _ _ _ hs _ _ => hs) hI0
    (AxA q g w.heap.size) (fun x a' => ownFrom_axA _ _ _ _ x a') ?assign ?body ?done ?stop
  case assign =>
    intro l pre x W K hI hK
    have hsW := hI.2.2
    have hK2 := fun W' h1 h2 h3 q h4 h5 => hK _ W' h1 h2 h3 ⟨q, h4, h5, rfl⟩
    clear hK
    unfold actA at hK2
    obtain ⟨cl, ⟨ri, rs, ⟨br, bp⟩, ⟨kd, ec, es, ⟨ok, key, old, val⟩⟩⟩⟩ := x
    simp only [rptA, rpA] at hK2 ⊢
    gi_wp2
    refine hK2 _ ?_ ?_ ?_ W.heap.size hsW (heap_alloc_new W _)
    · exact (KeepsOthers.alloc W _).from _
    · exact KpB.below (blw W _) (by omega) (by omega)
    · exact (ownFrom_invA w (B := w.heap.size + 2) (Nat.le_refl _)).alloc _ hI
  case body =>
    rintro l pre x a' W ⟨⟨v, hv, hrow, _⟩, hB, hsW⟩ ⟨q9, hq9, hxq, rfl⟩ hlt
    have hsn := toldL_snoc pre x
    have hln := toldL_len pre
    unfold toldC at hsn
    unfold actA
    obtain ⟨cl, ⟨ri, rs, ⟨br, bp⟩, ⟨kd, ec, es, ⟨ok, key, old, val⟩⟩⟩⟩ := x
    have hrc : (toldL pre ++ [(⟨ri, rs, ⟨br, bp⟩, ⟨kd, ec, es, ⟨ok, key, old, val⟩⟩⟩ : Rpt)]).flatMap rptC = (toldL pre).flatMap rptC ++ rptC ⟨ri, rs, ⟨br, bp⟩, ⟨kd, ec, es, ⟨ok, key, old, val⟩⟩⟩ := by simp
    simp only at hsn
    have HRC := Lib.hid hrc
    have HSN := Lib.hid hsn
    clear hrc hsn
    cases h3 : (cl == 3)
    case false =>
      cases h2 : (cl == 2)
      case false =>
        have hs2 := HSN.out
        rw [h3, h2, if_neg (by decide), List.append_nil] at hs2
        have HS2 := Lib.hid hs2
        clear hs2
        gi_wp2
        exact ⟨(KeepsOthers.refl W).from _, KpB.refl _ _ _, ⟨v, hv, by rw [HS2.out]; exact hrow, trivial⟩, hB, hsW⟩
      case true =>
        have hs2 := HSN.out
        rw [h3, h2, if_pos (by decide)] at hs2
        have HS2 := Lib.hid hs2
        clear hs2
        simp only [rptA, rpA] at hxq
        have c0 := blk_cell hxq 0 _ rfl
        have c1 := blk_cell hxq 1 _ rfl
        have c2 := blk_cell hxq 2 _ rfl
        have c3 := blk_cell hxq 3 _ rfl
        have c4 := blk_cell hxq 4 _ rfl
        have c5 := blk_cell hxq 5 _ rfl
        have c6 := blk_cell hxq 6 _ rfl
        have c7 := blk_cell hxq 7 _ rfl
        have c8 := blk_cell hxq 8 _ rfl
        have c9 := blk_cell hxq 9 _ rfl
        have c10 := blk_cell hxq 10 _ rfl
        have co := hv.cell
        have dfz := hv.frozen
        have hcn := new_rowA W (rptA ⟨ri, rs, ⟨br, bp⟩, ⟨kd, ec, es, ⟨ok, key, old, val⟩⟩⟩) 44
        gi_wp2_with (gi_at_builtin; refine wpListIn_append_own _ rfl _ _ 39 rfl (w.heap.size + 2) 44 i0 (.agg (rptA zeroR')) 11 112 Tryz.underlying39 hi hz0 hz1 hz2 rfl (by decide) _ _ _ rfl (hrow.alloc _) ⟨W.heap.size, 0, none⟩ 1 1 (rptC ⟨ri, rs, ⟨br, bp⟩, ⟨kd, ec, es, ⟨ok, key, old, val⟩⟩⟩) rfl rfl hcn (by simp [rptC, rptA, rpA, Value.oneCell']) (by simp [maxLen]; omega) (by omega) (by simp; omega) ?_; intro v' w1 hown' hgrow _; obtain ⟨g', cap', rfl⟩ := ownsRow_succ hown'; obtain ⟨hv1, hv3, hr2, hk2, hb2, ho2⟩ := box_appW (n₀ := w.heap.size) (m := w.heap.size + 1) hv (by decide) hrow (by omega) (by omega) (by omega) (by omega) hown' hgrow; have hc1 := hv1.cell; have hf1 := hv1.frozen)
        refine ⟨hk2.from _, hb2, ⟨_, hv3, ?_, trivial⟩, hB.trans hb2.bl, Nat.le_trans hsW hk2.size⟩
        rw [HS2.out, List.length_append, HRC.out]
        exact hr2
    case true =>
      have hs2 := HSN.out
      rw [h3, if_pos (by rfl)] at hs2
      have HS2 := Lib.hid hs2
      clear hs2
      simp only [rptA, rpA] at hxq
      have c0 := blk_cell hxq 0 _ rfl
      have c1 := blk_cell hxq 1 _ rfl
      have c2 := blk_cell hxq 2 _ rfl
      have c3 := blk_cell hxq 3 _ rfl
      have c4 := blk_cell hxq 4 _ rfl
      have c5 := blk_cell hxq 5 _ rfl
      have c6 := blk_cell hxq 6 _ rfl
      have c7 := blk_cell hxq 7 _ rfl
      have c8 := blk_cell hxq 8 _ rfl
      have c9 := blk_cell hxq 9 _ rfl
      have c10 := blk_cell hxq 10 _ rfl
      have co := hv.cell
      have dfz := hv.frozen
      have hcn := new_rowA W (rptA ⟨ri, rs, ⟨br, bp⟩, ⟨kd, ec, es, ⟨ok, key, old, val⟩⟩⟩) 44
      gi_wp2_with (gi_at_builtin; refine wpListIn_append_own _ rfl _ _ 39 rfl (w.heap.size + 2) 44 i0 (.agg (rptA zeroR')) 11 112 Tryz.underlying39 hi hz0 hz1 hz2 rfl (by decide) _ _ _ rfl (hrow.alloc _) ⟨W.heap.size, 0, none⟩ 1 1 (rptC ⟨ri, rs, ⟨br, bp⟩, ⟨kd, ec, es, ⟨ok, key, old, val⟩⟩⟩) rfl rfl hcn (by simp [rptC, rptA, rpA, Value.oneCell']) (by simp [maxLen]; omega) (by omega) (by simp; omega) ?_; intro v' w1 hown' hgrow _; obtain ⟨g', cap', rfl⟩ := ownsRow_succ hown'; obtain ⟨hv1, hv3, hr2, hk2, hb2, ho2⟩ := box_appW (n₀ := w.heap.size) (m := w.heap.size + 1) hv (by decide) hrow (by omega) (by omega) (by omega) (by omega) hown' hgrow; have hc1 := hv1.cell; have hf1 := hv1.frozen)
      refine ⟨hk2.from _, hb2, ⟨_, hv3, ?_, trivial⟩, hB.trans hb2.bl, Nat.le_trans hsW hk2.size⟩
      rw [HS2.out, List.length_append, HRC.out]
      exact hr2
  case done =>
    rintro D ys W hD rfl ⟨⟨v, hv, hrow, _⟩, hB, hsW⟩ hK
    have hcl := hv.cell
    go_wp2
    refine marks_ret hK (results_tmp2 rfl _ _ _) ?_
    exact ⟨_, rfl, owns_mono (ownsRow_putObj hrow _ hK rfl) (by omega), below_mark hB (by omega)⟩
  case stop =>
    rintro D c pre W _ _ h _
    exact h.elim
end
end Go.Proofs.YtknchbhobopkeaaGreatDoor
namespace Go.Proofs.YtknchbhobopkeaaGreatDoor
def hurtB (d : Dk) (s : Int) : Bool := decide ((restD d s).2.2 = 0) && ((restD d s).2.1 || !decide ((restD d s).1 = (meantD d s).1))
def rangeI (f t : Nat) : List Int := (List.range' f (t - f)).map (fun (s : Nat) => (s : Int))
def hurtsL (d : Dk) (f t : Nat) : List Int := (rangeI f t).filter (hurtB d)
theorem rangeI_self (f : Nat) : rangeI f f = [] := by simp [rangeI]
theorem rangeI_succ {f t : Nat} (h : f ≤ t) : rangeI f (t + 1) = rangeI f t ++ [(t : Int)] := by
  unfold rangeI
  rw [show t + 1 - f = (t - f) + 1 by omega, List.range'_concat, List.map_append]
  simp only [List.map_cons, List.map_nil]
  rw [show f + 1 * (t - f) = t by omega]
theorem hurtsL_self (d : Dk) (f : Nat) : hurtsL d f f = [] := by simp [hurtsL, rangeI_self]
theorem hurtsL_yes {d : Dk} {f t : Nat} (h : f ≤ t) (hb : hurtB d t = true) : hurtsL d f (t + 1) = hurtsL d f t ++ [(t : Int)] := by
  unfold hurtsL
  rw [rangeI_succ h, List.filter_append]
  simp [hb]
theorem hurtsL_no {d : Dk} {f t : Nat} (h : f ≤ t) (hb : hurtB d t = false) : hurtsL d f (t + 1) = hurtsL d f t := by
  unfold hurtsL
  rw [rangeI_succ h, List.filter_append]
  simp [hb]
theorem hurtsL_len (d : Dk) (f t : Nat) : (hurtsL d f t).length ≤ t - f := by
  unfold hurtsL rangeI
  refine Nat.le_trans (List.length_filter_le _ _) ?_
  simp
theorem hurtsL_nil {d : Dk} {f t : Nat} (h : ∀ s : Nat, f ≤ s → s < t → hurtB d s = false) : hurtsL d f t = [] := by
  unfold hurtsL
  rw [List.filter_eq_nil_iff]
  intro x hx
  unfold rangeI at hx
  simp only [List.mem_map, List.mem_range'_1] at hx
  obtain ⟨s, ⟨h1, h2⟩, rfl⟩ := hx
  rw [h s h1 (by omega)]
  simp
theorem hurtsL_ne {d : Dk} {f t s : Nat} (h1 : f ≤ s) (h2 : s < t) (h : hurtB d s = true) : hurtsL d f t ≠ [] := by
  intro hh
  unfold hurtsL at hh
  rw [List.filter_eq_nil_iff] at hh
  refine hh (s : Int) ?_ h
  unfold rangeI
  simp only [List.mem_map, List.mem_range'_1]
  exact ⟨s, ⟨h1, by omega⟩, rfl⟩
def askN (n : Nat) (rep reg pla : Int) : Int := if n = 0 then 1 else if n < 156 ∨ rep < 0 ∨ 7 ≤ rep ∨ firstN reg pla < 0 then 2 else 0
def askG (d : Dk) (rep reg pla : Int) : Int := askN d.pl.length rep reg pla
def allG (f : Int → List UInt8) (a n : Nat) : List UInt8 := (List.range n).flatMap (fun (k : Nat) => f ((a + k : Nat) : Int))
def goneG (d : Dk) (a n : Nat) : Bool := (List.range n).any (fun (k : Nat) => (restD d ((a + k : Nat) : Int)).2.1)
theorem allG_zero (f : Int → List UInt8) (a : Nat) : allG f a 0 = [] := rfl
theorem allG_succ (f : Int → List UInt8) (a n : Nat) : allG f a (n + 1) = allG f a n ++ f ((a + n : Nat) : Int) := by
  unfold allG
  rw [List.range_succ, List.flatMap_append, List.flatMap_singleton]
theorem goneG_zero (d : Dk) (a : Nat) : goneG d a 0 = false := rfl
theorem goneG_succ (d : Dk) (a n : Nat) : goneG d a (n + 1) = (goneG d a n || (restD d ((a + n : Nat) : Int)).2.1) := by
  unfold goneG
  rw [List.range_succ, List.any_append]
  simp
def isHurt (d : Dk) (a n : Nat) : Bool := !(hurtsL d a (a + n)).isEmpty
def allR (d : Dk) (a n : Nat) : List UInt8 := allG (fun s => (restD d s).1) a n
def allM (d : Dk) (a n : Nat) : List UInt8 := allG (fun s => (meantD d s).1) a n
def placeG (d : Dk) (rep reg pla : Int) : Bool × Bool × Int :=
  if askG d rep reg pla ≠ 0 then (false, false, askG d rep reg pla) else
  (isHurt d (firstN reg pla).toNat (wideN reg).toNat, isHurt d (firstN reg pla).toNat (wideN reg).toNat && (goneG d (firstN reg pla).toNat (wideN reg).toNat || decide ((mineF (allR d (firstN reg pla).toNat (wideN reg).toNat) rep reg pla).1 = 2)), 0)
def honG (d : Dk) (rep reg pla : Int) : (Nat × Tg × List UInt8) × Int :=
  if askG d rep reg pla ≠ 0 then ((0, zeroTg, []), askG d rep reg pla) else
  (mineF (allM d (firstN reg pla).toNat (wideN reg).toNat) rep reg pla, 0)
def seenP (d : Dk) (rep : Int) (reg : Nat) (n : Nat) : Bool := (List.range n).all (fun (p : Nat) => (placeG d rep reg p).1 == (placeG d rep reg p).2.1)
def seenR (d : Dk) (rep : Int) (n : Nat) : Bool := (List.range n).all (fun (r : Nat) => seenP d rep (r + 1) (placesN ((r + 1 : Nat) : Int)).toNat)
def seenG (d : Dk) (rep : Int) : Bool × Int := if askG d rep 1 0 ≠ 0 then (false, askG d rep 1 0) else (seenR d rep 5, 0)
theorem seenP_succ (d : Dk) (rep : Int) (reg n : Nat) : seenP d rep reg (n + 1) = (seenP d rep reg n && (placeG d rep reg n).1 == (placeG d rep reg n).2.1) := by
  unfold seenP
  rw [List.range_succ, List.all_append]
  simp
theorem seenR_succ (d : Dk) (rep : Int) (n : Nat) : seenR d rep (n + 1) = (seenR d rep n && seenP d rep (n + 1) (placesN ((n + 1 : Nat) : Int)).toNat) := by
  unfold seenR
  rw [List.range_succ, List.all_append]
  simp
theorem ask_first {d : Dk} {rep reg pla : Int} (h : askG d rep reg pla = 0) : 156 ≤ d.pl.length ∧ 0 ≤ rep ∧ rep ≤ 6 ∧ 1 ≤ reg ∧ reg ≤ 5 ∧ 0 ≤ pla ∧ pla < placesN reg ∧ 0 ≤ firstN reg pla ∧ firstN reg pla + wideN reg ≤ 156 ∧ 1 ≤ wideN reg ∧ wideN reg ≤ 2 := by
  unfold askG askN at h
  split at h
  · cases h
  · split at h
    · cases h
    · rename_i h1 h2
      have h3 : ¬ firstN reg pla < 0 := fun hh => h2 (.inr (.inr (.inr hh)))
      have h4 : ¬ (placesN reg = 0 ∨ pla < 0 ∨ placesN reg ≤ pla) := fun hh => h3 (by unfold firstN; rw [if_pos hh]; decide)
      have h5 : 0 < placesN reg := by
        have : 0 ≤ placesN reg := by unfold placesN; repeat' split <;> omega
        omega
      obtain ⟨r1, r2, _⟩ := placesN_reg h5
      refine ⟨by omega, by omega, by omega, r1, r2, by omega, by omega, by omega, ?_⟩
      have hf : firstN reg pla = startN reg + pla * wideN reg := by unfold firstN; rw [if_neg h4]
      rw [hf]
      have hr : reg = 1 ∨ reg = 2 ∨ reg = 3 ∨ reg = 4 ∨ reg = 5 := by omega
      rcases hr with rfl | rfl | rfl | rfl | rfl <;> simp [placesN, startN, wideN] at h4 ⊢ <;> omega
end Go.Proofs.YtknchbhobopkeaaGreatDoor
namespace Go.Proofs.YtknchbhobopkeaaGreatDoor
/-! Without faults nothing is hurt. -/
def CleanL (l : List Pl) : Prop := ∀ p ∈ l, p.rest = p.meant ∧ p.lost = false
theorem there_pl {d : Dk} {s : Int} (h : thereD d s = 0) : ∃ p, d.pl[s.toNat]? = some p ∧ d.pl.getD s.toNat zeroPl = p ∧ p ∈ d.pl := by
  have hlt : s.toNat < d.pl.length := by
    unfold thereD at h
    split at h
    · cases h
    · split at h
      · cases h
      · omega
  have e := List.getElem?_eq_getElem hlt
  exact ⟨_, e, by rw [List.getD_eq_getElem?_getD, e]; rfl, List.getElem_mem hlt⟩
theorem hurt_pl {d : Dk} {s : Int} {p : Pl} (h : thereD d s = 0) (hp : d.pl.getD s.toNat zeroPl = p) : hurtB d s = (p.lost || !decide (p.rest = p.meant)) := by
  unfold hurtB restD meantD
  simp only [h, ne_eq, not_true_eq_false, if_false, hp]
  cases hl : p.lost <;> simp
theorem hurt_none {d : Dk} {s : Int} (h : thereD d s ≠ 0) : hurtB d s = false := by
  unfold hurtB restD
  rw [if_pos h]
  simp [h]
theorem clean_hurt {d : Dk} (h : CleanL d.pl) (s : Int) : hurtB d s = false := by
  by_cases h0 : thereD d s = 0
  · obtain ⟨p, h1, h2, h3⟩ := there_pl h0
    rw [hurt_pl h0 h2]
    obtain ⟨h4, h5⟩ := h p h3
    rw [h4, h5]
    simp
  · exact hurt_none h0
theorem clean_set {l : List Pl} (h : CleanL l) (k : Nat) (b : List UInt8) : CleanL (l.set k ⟨b, b, false⟩) := by
  intro p hp
  rcases List.mem_or_eq_of_mem_set hp with h1 | rfl
  · exact h p h1
  · exact ⟨rfl, rfl⟩
theorem clean_thru : ∀ (ws : List (List UInt8 × Nat)) (pl : List Pl) (k : Nat) (is : Nat → Bool), CleanL pl → CleanL (thruD pl ws k is)
  | [], _, _, _, h => h
  | (b, s) :: l, pl, k, is, h => by
    unfold thruD
    refine clean_thru l _ (k + 1) is ?_
    split
    · exact clean_set h s b
    · exact h
theorem spend_pl (d : Dk) : (spendD d).1.pl = d.pl ∧ (spendD d).1.waits = d.waits := by
  unfold spendD
  split
  · exact ⟨rfl, rfl⟩
  · split <;> exact ⟨rfl, rfl⟩
theorem write_pl (d : Dk) (s : Int) (b : List UInt8) : (writeD d s b).1.pl = d.pl ∧ (writeD d s b).1.waits.length ≤ d.waits.length + 1 := by
  obtain ⟨h1, h2⟩ := spend_pl d
  unfold writeD
  split
  · exact ⟨rfl, by simp⟩
  · split
    · exact ⟨rfl, by simp⟩
    · split
      · exact ⟨h1, by rw [h2]; omega⟩
      · exact ⟨h1, by simp [h2]⟩
theorem flush_pl (d : Dk) : ((flushD d).1.pl = d.pl ∧ (flushD d).1.waits = d.waits) ∨ ((flushD d).1.pl = thruD d.pl d.waits 0 (fun _ => true) ∧ (flushD d).1.waits = []) := by
  obtain ⟨h1, h2⟩ := spend_pl d
  unfold flushD
  split
  · exact .inl ⟨rfl, rfl⟩
  · split
    · exact .inl ⟨h1, h2⟩
    · exact .inr ⟨by simp [h1, h2], rfl⟩
theorem crash_pl (d : Dk) (keep : List Bool) : ((crashD d keep).1.pl = d.pl ∧ (crashD d keep).1.waits = d.waits) ∨ ((crashD d keep).1.pl = thruD d.pl d.waits 0 (keepB keep) ∧ (crashD d keep).1.waits = []) := by
  unfold crashD
  split
  · exact .inl ⟨rfl, rfl⟩
  · split
    · exact .inl ⟨rfl, rfl⟩
    · exact .inr ⟨rfl, rfl⟩
theorem start_pl (d : Dk) : (startD d).1.pl = d.pl ∧ (startD d).1.waits = d.waits := by
  unfold startD
  split
  · exact ⟨rfl, rfl⟩
  · split <;> exact ⟨rfl, rfl⟩
theorem power_pl (d : Dk) (n : Int) : (powerD d n).1.pl = d.pl ∧ (powerD d n).1.waits = d.waits := by
  unfold powerD
  split
  · exact ⟨rfl, rfl⟩
  · split <;> exact ⟨rfl, rfl⟩
/-! Acts. -/
def sectorL (n : Int) (bytes : List UInt8) : List UInt8 := if 0 < bytes.length then bytes else List.replicate 64 (UInt8.ofNat (n % 256).toNat)
def do5 (d : Dk) (k : Nat) (s n : Int) (bytes : List UInt8) (keep : List Bool) : Dk × Int :=
  if k % 9 = 0 then flushD d else if k % 9 = 1 then crashD d keep else if k % 9 = 2 then startD d else if k % 9 = 3 then flipD d s n else if k % 9 = 4 then loseD d s else if k % 9 = 5 then strayD d s n else if k % 9 = 8 then powerD d n else writeD d s (sectorL n bytes)
structure Wk (d : Dk) (n : Nat) : Prop where
  len : d.pl.length = 156
  wt : d.waits.length ≤ n
theorem thru_len2 (pl : List Pl) (ws : List (List UInt8 × Nat)) (k : Nat) (is : Nat → Bool) : (thruD pl ws k is).length = pl.length := thru_len ws pl k is
theorem Wk.of {d d' : Dk} {n : Nat} (h : Wk d n) (h1 : d'.pl.length = d.pl.length) (h2 : d'.waits.length ≤ d.waits.length + 1) : Wk d' (n + 1) := ⟨h1.trans h.len, by have := h.wt; omega⟩
theorem flip_pl (d : Dk) (s n : Int) : (flipD d s n).1.pl.length = d.pl.length ∧ (flipD d s n).1.waits = d.waits ∧ ∀ j : Int, meantD (flipD d s n).1 j = meantD d j := by
  unfold flipD
  split
  · exact ⟨rfl, rfl, fun _ => rfl⟩
  · split
    · exact ⟨rfl, rfl, fun _ => rfl⟩
    · refine ⟨by simp, rfl, fun j => ?_⟩
      unfold meantD thereD
      simp only [List.length_modify, List.getD_eq_getElem?_getD, List.getElem?_modify]
      congr 2
      cases hj : d.pl[j.toNat]? with
      | none => rfl
      | some p => by_cases he : s.toNat = j.toNat <;> simp [he]
theorem lose_pl (d : Dk) (s : Int) : (loseD d s).1.pl.length = d.pl.length ∧ (loseD d s).1.waits = d.waits ∧ ∀ j : Int, meantD (loseD d s).1 j = meantD d j := by
  unfold loseD
  split
  · exact ⟨rfl, rfl, fun _ => rfl⟩
  · refine ⟨by simp, rfl, fun j => ?_⟩
    unfold meantD thereD
    simp only [List.length_modify, List.getD_eq_getElem?_getD, List.getElem?_modify]
    congr 2
    cases hj : d.pl[j.toNat]? with
    | none => rfl
    | some p => by_cases he : s.toNat = j.toNat <;> simp [he]
theorem stray_pl (d : Dk) (s t : Int) : (strayD d s t).1.pl.length = d.pl.length ∧ (strayD d s t).1.waits = d.waits ∧ ∀ j : Int, meantD (strayD d s t).1 j = meantD d j := by
  unfold strayD
  split
  · exact ⟨rfl, rfl, fun _ => rfl⟩
  · split
    · exact ⟨rfl, rfl, fun _ => rfl⟩
    · refine ⟨by simp, rfl, fun j => ?_⟩
      unfold meantD thereD
      simp only [List.length_modify, List.getD_eq_getElem?_getD, List.getElem?_modify]
      congr 2
      cases hj : d.pl[j.toNat]? with
      | none => rfl
      | some p => by_cases he : t.toNat = j.toNat <;> simp [he]
theorem do5_wk {d : Dk} {m : Nat} (h : Wk d m) (k : Nat) (s n : Int) (bytes : List UInt8) (keep : List Bool) : Wk (do5 d k s n bytes keep).1 (m + 1) := by
  unfold do5
  split
  · rcases flush_pl d with ⟨h1, h2⟩ | ⟨h1, h2⟩
    · exact h.of (by rw [h1]) (by rw [h2]; omega)
    · exact h.of (by rw [h1, thru_len2]) (by rw [h2]; simp)
  · split
    · rcases crash_pl d keep with ⟨h1, h2⟩ | ⟨h1, h2⟩
      · exact h.of (by rw [h1]) (by rw [h2]; omega)
      · exact h.of (by rw [h1, thru_len2]) (by rw [h2]; simp)
    · split
      · obtain ⟨h1, h2⟩ := start_pl d
        exact h.of (by rw [h1]) (by rw [h2]; omega)
      · split
        · obtain ⟨h1, h2, _⟩ := flip_pl d s n
          exact h.of h1 (by rw [h2]; omega)
        · split
          · obtain ⟨h1, h2, _⟩ := lose_pl d s
            exact h.of h1 (by rw [h2]; omega)
          · split
            · obtain ⟨h1, h2, _⟩ := stray_pl d s n
              exact h.of h1 (by rw [h2]; omega)
            · split
              · obtain ⟨h1, h2⟩ := power_pl d n
                exact h.of (by rw [h1]) (by rw [h2]; omega)
              · obtain ⟨h1, h2⟩ := write_pl d s (sectorL n bytes)
                exact h.of (by rw [h1]) h2
theorem do5_clean {d : Dk} (h : CleanL d.pl) {k : Nat} (hk : k % 9 < 3 ∨ 5 < k % 9) (s n : Int) (bytes : List UInt8) (keep : List Bool) : CleanL (do5 d k s n bytes keep).1.pl := by
  unfold do5
  split
  · rcases flush_pl d with ⟨h1, _⟩ | ⟨h1, _⟩
    · rw [h1]; exact h
    · rw [h1]; exact clean_thru _ _ _ _ h
  · split
    · rcases crash_pl d keep with ⟨h1, _⟩ | ⟨h1, _⟩
      · rw [h1]; exact h
      · rw [h1]; exact clean_thru _ _ _ _ h
    · split
      · rw [(start_pl d).1]; exact h
      · rw [if_neg (by omega), if_neg (by omega), if_neg (by omega)]
        split
        · rw [(power_pl d n).1]; exact h
        · rw [(write_pl d s _).1]; exact h
theorem do5_meant {d : Dk} {k : Nat} (hk : 3 ≤ k % 9 ∧ k % 9 ≤ 5) (s n : Int) (bytes : List UInt8) (keep : List Bool) (j : Int) : meantD (do5 d k s n bytes keep).1 j = meantD d j := by
  unfold do5
  rw [if_neg (by omega), if_neg (by omega), if_neg (by omega)]
  split
  · exact (flip_pl d s n).2.2 j
  · split
    · exact (lose_pl d s).2.2 j
    · rw [if_pos (by omega)]
      exact (stray_pl d s n).2.2 j
theorem clean_nil {d : Dk} (h : CleanL d.pl) (f t : Nat) : hurtsL d f t = [] := hurtsL_nil fun s _ _ => clean_hurt h s
theorem clean_place {d : Dk} (h : CleanL d.pl) (rep reg pla : Int) : (placeG d rep reg pla).1 = false ∧ (placeG d rep reg pla).2.1 = false := by
  unfold placeG
  split
  · exact ⟨rfl, rfl⟩
  · simp [isHurt, clean_nil h]
theorem clean_seen {d : Dk} (h : CleanL d.pl) (hl : 156 ≤ d.pl.length) {rep : Int} (hr : 0 ≤ rep ∧ rep ≤ 6) : seenG d rep = (true, 0) := by
  have ha : askG d rep 1 0 = 0 := by
    unfold askG askN
    rw [if_neg (by omega), if_neg]
    rintro (h1 | h1 | h1 | h1)
    · omega
    · omega
    · omega
    · exact absurd h1 (by decide)
  unfold seenG
  rw [if_neg (by simpa using ha)]
  congr 1
  unfold seenR seenP
  rw [List.all_eq_true]
  intro r _
  rw [List.all_eq_true]
  intro p _
  obtain ⟨h1, h2⟩ := clean_place h rep ((r : Nat) + 1 : Int) p
  simp only [Int.natCast_add, Int.natCast_one]
  rw [h1, h2]
  rfl
theorem new_clean (n : Nat) : CleanL (newDk n).pl := fun p hp => by
  rw [(List.mem_replicate.1 hp).2]
  exact ⟨rfl, rfl⟩
end Go.Proofs.YtknchbhobopkeaaGreatDoor
namespace Go.Proofs.YtknchbhobopkeaaGreatDoor
/-! Acts that came in. -/
structure A5 where
  kind : Nat
  sec : Int
  n : Int
  ba : Option Addr
  bytes : List UInt8
  bc : Nat
  ka : Option Addr
  keep : List Bool
  kc : Nat
structure A6 where
  sl : Bool
  tg : Tg
  oa : Option Addr
  body : List UInt8
  oc : Nat
  dk : A5
def do5A (d : Dk) (x : A5) : Dk × Int := do5 d x.kind x.sec x.n x.bytes x.keep
def wideT (t : Tg) : Nat := if mayTg t = true then (wideN t.reg).toNat else 0
def sealR (t : Tg) (body : List UInt8) (n : Nat) : List UInt8 := if mayTg t = true ∧ roomN (64 * n) ≠ 0 ∧ body.length ≤ roomN (64 * n) then sealF t body (64 * n) else []
def sealE (t : Tg) (body : List UInt8) (n : Nat) : Int := if mayTg t = false ∨ roomN (64 * n) = 0 then 2 else if roomN (64 * n) < body.length then 3 else 0
def pcD (b : List UInt8) (k : Nat) : List UInt8 := (b.drop (64 * k)).take 64
def putsD (d : Dk) (f : Int) (b : List UInt8) : Nat → Dk
  | 0 => d
  | k + 1 => (writeD (putsD d f b k) (f + k) (pcD b k)).1
def do6 (d : Dk) (x : A6) : Dk := if x.sl = false then (do5A d x.dk).1 else putsD d (firstN x.tg.reg x.tg.pla) (sealR x.tg x.body (wideT x.tg)) ((sealR x.tg x.body (wideT x.tg)).length / 64)
def fault (x : A6) : Bool := !x.sl && (decide (3 ≤ x.dk.kind % 9) && decide (x.dk.kind % 9 ≤ 5))
theorem wideN_le (r : Int) : 0 ≤ wideN r ∧ wideN r ≤ 2 := by
  unfold wideN
  repeat' split
  all_goals omega
theorem wideT_le (t : Tg) : wideT t ≤ 2 := by
  unfold wideT
  split
  · have := wideN_le t.reg; omega
  · omega
theorem wide_may {t : Tg} (h : mayTg t = true) : (wideT t : Int) = wideN t.reg ∧ 1 ≤ wideT t ∧ wideT t ≤ 2 := by
  obtain ⟨h1, h2, _⟩ := mayTg_small h
  have h3 := wideN_le t.reg
  have h4 : 1 ≤ wideN t.reg := by
    have hr : t.reg = 1 ∨ t.reg = 2 ∨ t.reg = 3 ∨ t.reg = 4 ∨ t.reg = 5 := by omega
    unfold wideN
    rcases hr with h | h | h | h | h <;> rw [h] <;> decide
  unfold wideT
  rw [if_pos h]
  omega
theorem room_wide {n : Nat} (h1 : 1 ≤ n) (h2 : n ≤ 2) : roomN (64 * n) ≠ 0 ∧ 43 ≤ roomN (64 * n) := by
  rcases (show n = 1 ∨ n = 2 by omega) with rfl | rfl <;> decide
theorem sealR_len (t : Tg) (body : List UInt8) (n : Nat) : (sealR t body n).length = 64 * n ∧ (n = 1 ∨ n = 2) ∧ sealE t body n = 0 ∨ (sealR t body n).length = 0 ∧ sealE t body n ≠ 0 := by
  unfold sealR sealE
  by_cases h1 : mayTg t = true
  · by_cases h2 : roomN (64 * n) = 0
    · rw [if_neg (by simp [h2]), if_pos (.inr h2)]
      exact .inr ⟨rfl, by decide⟩
    · by_cases h3 : body.length ≤ roomN (64 * n)
      · rw [if_pos ⟨h1, h2, h3⟩, if_neg (by simp [h1, h2]), if_neg (by omega)]
        have hn := (roomN_of (n := 64 * n) (by omega)).1
        exact .inl ⟨sealF_len (by omega) h3, by omega, rfl⟩
      · rw [if_neg (by omega), if_neg (by simp [h1, h2]), if_pos (by omega)]
        exact .inr ⟨rfl, by decide⟩
  · rw [if_neg (by simp [h1]), if_pos (.inl (by simpa using h1))]
    exact .inr ⟨rfl, by decide⟩
theorem sealR_le (t : Tg) (body : List UInt8) (n : Nat) : (sealR t body n).length ≤ 128 ∧ (sealR t body n).length / 64 ≤ 2 := by
  rcases sealR_len t body n with ⟨h, h2, _⟩ | ⟨h, _⟩ <;> omega
theorem sealR_may {t : Tg} (h : mayTg t = true) {body : List UInt8} (hb : body.length ≤ 43) : sealR t body (wideT t) = sealF t body (64 * wideT t) ∧ sealE t body (wideT t) = 0 := by
  obtain ⟨_, h1, h2⟩ := wide_may h
  obtain ⟨h3, h4⟩ := room_wide h1 h2
  unfold sealR sealE
  rw [if_pos ⟨h, h3, by omega⟩, if_neg (by simp [h, h3]), if_neg (by omega)]
  exact ⟨rfl, rfl⟩
theorem puts_pl (d : Dk) (f : Int) (b : List UInt8) : ∀ k, (putsD d f b k).pl = d.pl ∧ (putsD d f b k).waits.length ≤ d.waits.length + k
  | 0 => ⟨rfl, by simp [putsD]⟩
  | k + 1 => by
    obtain ⟨h1, h2⟩ := puts_pl d f b k
    obtain ⟨h3, h4⟩ := write_pl (putsD d f b k) (f + k) (pcD b k)
    exact ⟨h3.trans h1, by show (writeD (putsD d f b k) (f + k) (pcD b k)).1.waits.length ≤ _; omega⟩
theorem do6_wk {d : Dk} {m : Nat} (h : Wk d m) (x : A6) : Wk (do6 d x) (m + 2) := by
  unfold do6
  split
  · have := do5_wk h x.dk.kind x.dk.sec x.dk.n x.dk.bytes x.dk.keep
    exact ⟨this.len, by have := this.wt; unfold do5A; omega⟩
  · obtain ⟨h1, h2⟩ := puts_pl d (firstN x.tg.reg x.tg.pla) (sealR x.tg x.body (wideT x.tg)) ((sealR x.tg x.body (wideT x.tg)).length / 64)
    exact ⟨by rw [h1]; exact h.len, by have := h.wt; have := (sealR_le x.tg x.body (wideT x.tg)).2; omega⟩
theorem do6_clean {d : Dk} (h : CleanL d.pl) {x : A6} (hx : x.sl = true ∨ x.dk.kind % 9 < 3 ∨ 5 < x.dk.kind % 9) : CleanL (do6 d x).pl := by
  unfold do6
  split
  · rename_i h1
    exact do5_clean h (hx.resolve_left (by rw [h1]; decide)) x.dk.sec x.dk.n x.dk.bytes x.dk.keep
  · rw [(puts_pl d _ _ _).1]
    exact h
theorem do6_meant {d : Dk} {x : A6} (hx : fault x = true) (j : Int) : meantD (do6 d x) j = meantD d j := by
  unfold fault at hx
  simp only [Bool.and_eq_true, Bool.not_eq_true', decide_eq_true_eq] at hx
  unfold do6
  rw [if_pos hx.1]
  exact do5_meant hx.2 x.dk.sec x.dk.n x.dk.bytes x.dk.keep j
/-! A frame that is put. -/
structure Ready (d : Dk) : Prop where
  len : d.pl.length = 156
  dn : d.down = false
  de : d.dead = false
  lf : d.left < 0 ∨ 4 ≤ d.left
theorem puts_ready {d : Dk} (h : Ready d) {f : Nat} {b : List UInt8} : ∀ k, k ≤ 2 → f + k ≤ 156 → 64 * k ≤ b.length →
    ((putsD d f b k).pl = d.pl ∧ (putsD d f b k).down = false ∧ (putsD d f b k).dead = false ∧ ((putsD d f b k).left < 0 ∨ (putsD d f b k).left + k ≥ 4) ∧ (putsD d f b k).waits = d.waits ++ (List.range k).map (fun j => (pcD b j, f + j))) ∧
    (∀ j, j < k → (writeD (putsD d f b j) ((f : Int) + j) (pcD b j)).2 = 0)
  | 0, _, _, _ => ⟨⟨rfl, h.dn, h.de, by have := h.lf; show d.left < 0 ∨ d.left + 0 ≥ 4; omega, by simp [putsD]⟩, fun j hj => absurd hj (by omega)⟩
  | k + 1, h2, h3, h4 => by
    obtain ⟨⟨e1, e2, e3, e4, e5⟩, hw⟩ := puts_ready h (f := f) (b := b) k (by omega) (by omega) (by omega)
    have hlv : liveD (putsD d f b k) ((f : Int) + k) = 0 := by
      unfold liveD thereD
      rw [e1, e2, e3, h.len]
      rw [if_neg (by simp), if_neg (by decide), if_neg (by omega)]
    have hpl : (pcD b k).length = 64 := by unfold pcD; rw [List.length_take, List.length_drop]; omega
    have hsp : spendD (putsD d f b k) = (if 0 < (putsD d f b k).left then ({ putsD d f b k with left := (putsD d f b k).left - 1 }, 0) else (putsD d f b k, 0)) := by
      unfold spendD
      rw [if_neg (by omega)]
    have hwr : writeD (putsD d f b k) ((f : Int) + k) (pcD b k) = ({ (spendD (putsD d f b k)).1 with waits := (spendD (putsD d f b k)).1.waits ++ [(pcD b k, f + k)] }, 0) := by
      unfold writeD
      rw [if_neg (by simp [hlv]), if_neg (by simp [hpl]), if_neg (by rw [hsp]; split <;> simp), show ((f : Int) + k).toNat = f + k by omega]
    have hs1 : (spendD (putsD d f b k)).1.pl = d.pl ∧ (spendD (putsD d f b k)).1.down = false ∧ (spendD (putsD d f b k)).1.dead = false ∧ ((spendD (putsD d f b k)).1.left < 0 ∨ (spendD (putsD d f b k)).1.left + ((k + 1 : Nat) : Int) ≥ 4) ∧ (spendD (putsD d f b k)).1.waits = d.waits ++ (List.range k).map (fun j => (pcD b j, f + j)) := by
      rw [hsp]
      split
      · exact ⟨e1, e2, e3, by simp only; omega, e5⟩
      · exact ⟨e1, e2, e3, by simp only; omega, e5⟩
    refine ⟨?_, fun j hj => ?_⟩
    · rw [show putsD d f b (k + 1) = (writeD (putsD d f b k) ((f : Int) + k) (pcD b k)).1 from rfl, hwr]
      refine ⟨hs1.1, hs1.2.1, hs1.2.2.1, hs1.2.2.2.1, ?_⟩
      simp only
      rw [hs1.2.2.2.2, List.range_succ, List.map_append, List.append_assoc]
      rfl
    · by_cases hjk : j = k
      · subst hjk
        rw [hwr]
      · exact hw j (by omega)
theorem thru_app : ∀ (a b : List (List UInt8 × Nat)) (pl : List Pl) (k : Nat) (is : Nat → Bool), thruD pl (a ++ b) k is = thruD (thruD pl a k is) b (k + a.length) is
  | [], _, _, _, _ => rfl
  | (x, s) :: a, b, pl, k, is => by
    simp only [List.cons_append, thruD, List.length_cons]
    rw [thru_app a b]
    congr 1
    omega
structure Held (d : Dk) (f : Nat) (b : List UInt8) (n : Nat) : Prop where
  len : d.pl.length = 156
  at_ : ∀ k, k < n → d.pl[f + k]? = some ⟨pcD b k, pcD b k, false⟩
theorem put_held {d : Dk} (h : Ready d) {f n : Nat} {b : List UInt8} (h1 : 1 ≤ n) (h2 : n ≤ 2) (h3 : f + n ≤ 156) (h4 : b.length = 64 * n) :
    (flushD (putsD d f b n)).2 = 0 ∧ Held (flushD (putsD d f b n)).1 f b n ∧ (flushD (putsD d f b n)).1.waits = [] := by
  obtain ⟨⟨e1, e2, e3, e4, e5⟩, _⟩ := puts_ready h (f := f) (b := b) n h2 h3 (by omega)
  have hlv : live0 (putsD d f b n) = 0 := by
    unfold live0 there0
    rw [e1, e2, e3, h.len]
    simp
  have hsp : spendD (putsD d f b n) = (if 0 < (putsD d f b n).left then ({ putsD d f b n with left := (putsD d f b n).left - 1 }, 0) else (putsD d f b n, 0)) := by
    unfold spendD
    rw [if_neg (by omega)]
  have hs1 : (spendD (putsD d f b n)).2 = 0 ∧ (spendD (putsD d f b n)).1.pl = d.pl ∧ (spendD (putsD d f b n)).1.waits = d.waits ++ (List.range n).map (fun j => (pcD b j, f + j)) := by
    rw [hsp]
    split
    · exact ⟨rfl, e1, e5⟩
    · exact ⟨rfl, e1, e5⟩
  have hfl : flushD (putsD d f b n) = ({ (spendD (putsD d f b n)).1 with pl := thruD d.pl (d.waits ++ (List.range n).map (fun j => (pcD b j, f + j))) 0 (fun _ => true), waits := [] }, 0) := by
    unfold flushD
    rw [if_neg (by simp [hlv]), if_neg (by simp [hs1.1]), hs1.2.1, hs1.2.2]
  rw [hfl]
  have hl0 : (thruD d.pl d.waits 0 (fun _ => true)).length = 156 := by rw [thru_len2]; exact h.len
  refine ⟨rfl, ⟨?_, fun k hk => ?_⟩, rfl⟩
  · simp only
    rw [thru_len2]
    exact h.len
  · simp only
    rw [thru_app]
    generalize thruD d.pl d.waits 0 (fun _ => true) = P at hl0 ⊢
    rcases (show n = 1 ∨ n = 2 by omega) with rfl | rfl
    · obtain rfl : k = 0 := by omega
      simp only [List.range_one, List.map_cons, List.map_nil, thruD, if_true, Nat.add_zero]
      exact List.getElem?_set_self (by omega)
    · simp only [show List.range 2 = [0, 1] from rfl, List.map_cons, List.map_nil, thruD, if_true, Nat.add_zero]
      rcases (show k = 0 ∨ k = 1 by omega) with rfl | rfl
      · rw [Nat.add_zero, List.getElem?_set_ne (by omega)]
        exact List.getElem?_set_self (by omega)
      · exact List.getElem?_set_self (by rw [List.length_set]; omega)
theorem pcs_all {b : List UInt8} {n : Nat} (h1 : 1 ≤ n) (h2 : n ≤ 2) (hb : b.length = 64 * n) : (List.range n).flatMap (fun k => pcD b k) = b := by
  rcases (show n = 1 ∨ n = 2 by omega) with rfl | rfl
  · simp only [List.range_one, List.flatMap_cons, List.flatMap_nil, List.append_nil, pcD, Nat.mul_zero, List.drop_zero]
    exact List.take_of_length_le (by omega)
  · simp only [show List.range 2 = [0, 1] from rfl, List.flatMap_cons, List.flatMap_nil, List.append_nil, pcD, Nat.mul_zero, List.drop_zero, Nat.mul_one]
    rw [List.take_of_length_le (show (b.drop 64).length ≤ 64 by rw [List.length_drop]; omega), List.take_append_drop]
theorem there_of {d : Dk} {j : Nat} (hl : d.pl.length = 156) (hj : j < 156) : thereD d (j : Int) = 0 := by
  unfold thereD
  rw [if_neg (by omega), if_neg (by omega)]
def MeantIs (d : Dk) (f : Nat) (b : List UInt8) (n : Nat) : Prop := ∀ k, k < n → meantD d ((f + k : Nat) : Int) = (pcD b k, 0)
theorem Held.meant {d : Dk} {f n : Nat} {b : List UInt8} (h : Held d f b n) (h3 : f + n ≤ 156) : MeantIs d f b n := fun k hk => by
  unfold meantD
  rw [there_of h.len (by omega), if_neg (by decide), Int.toNat_natCast, List.getD_eq_getElem?_getD, h.at_ k hk]
  rfl
theorem allM_of {d : Dk} {f n : Nat} {b : List UInt8} (h1 : 1 ≤ n) (h2 : n ≤ 2) (hb : b.length = 64 * n) (h : MeantIs d f b n) : allM d f n = b := by
  unfold allM allG
  have e : ∀ k ∈ List.range n, (meantD d ((f + k : Nat) : Int)).1 = pcD b k := fun k hk => by rw [h k (List.mem_range.1 hk)]
  rw [show (List.range n).flatMap (fun (k : Nat) => (meantD d ((f + k : Nat) : Int)).1) = (List.range n).flatMap (fun k => pcD b k) from by
    rw [List.flatMap_def, List.flatMap_def, List.map_congr_left e]]
  exact pcs_all h1 h2 hb
theorem place_of {t : Tg} (h : mayTg t = true) : ∃ f : Nat, firstN t.reg t.pla = f ∧ f + wideT t ≤ 156 ∧ ∀ d : Dk, d.pl.length = 156 → askG d t.rep t.reg t.pla = 0 := by
  obtain ⟨h1, h2, h3, h4, _⟩ := mayTg_parts h
  obtain ⟨g1, g2, g3⟩ := mayTg_small h
  obtain ⟨w1, w2, w3⟩ := wide_may h
  have hp : 0 < placesN t.reg := by omega
  have hf : firstN t.reg t.pla = startN t.reg + t.pla * wideN t.reg := by unfold firstN; rw [if_neg (by omega)]
  have h0 : 0 ≤ firstN t.reg t.pla ∧ firstN t.reg t.pla + wideN t.reg ≤ 156 := by
    rw [hf]
    have hr : t.reg = 1 ∨ t.reg = 2 ∨ t.reg = 3 ∨ t.reg = 4 ∨ t.reg = 5 := by omega
    rcases hr with h | h | h | h | h <;> rw [h] at h4 ⊢ <;> simp [placesN, startN, wideN] at h4 ⊢ <;> omega
  refine ⟨(firstN t.reg t.pla).toNat, by omega, by omega, fun d hd => ?_⟩
  unfold askG askN
  rw [hd, if_neg (by decide), if_neg (by omega)]
theorem hon_of {d : Dk} {t : Tg} {body : List UInt8} {f : Nat} (ht : mayTg t = true) (hb : body.length ≤ 43) (hl : d.pl.length = 156) (hf : firstN t.reg t.pla = f) (hm : MeantIs d f (sealF t body (64 * wideT t)) (wideT t)) : honG d t.rep t.reg t.pla = ((1, t, body), 0) := by
  obtain ⟨f', hf', _, ha⟩ := place_of ht
  obtain ⟨w1, w2, w3⟩ := wide_may ht
  obtain ⟨r1, r2⟩ := room_wide w2 w3
  have hsl : (sealF t body (64 * wideT t)).length = 64 * wideT t := sealF_len (by omega) (by omega)
  unfold honG
  rw [if_neg (by rw [ha d hl]; decide), hf, show (wideN t.reg).toNat = wideT t by omega, Int.toNat_natCast, allM_of w2 w3 hsl hm, mine_seal ht (by omega) (by omega)]
theorem place_held {d : Dk} {t : Tg} {body : List UInt8} {f : Nat} (ht : mayTg t = true) (hf : firstN t.reg t.pla = f) (h : Held d f (sealF t body (64 * wideT t)) (wideT t)) : placeG d t.rep t.reg t.pla = (false, false, 0) := by
  obtain ⟨f', hf', hn, ha⟩ := place_of ht
  obtain ⟨w1, w2, w3⟩ := wide_may ht
  have hff : f' = f := by omega
  subst hff
  have hno : isHurt d f' (wideT t) = false := by
    unfold isHurt
    rw [hurtsL_nil (fun s h1 h2 => ?_)]
    · rfl
    · have he := h.at_ (s - f') (by omega)
      rw [show f' + (s - f') = s by omega] at he
      rw [hurt_pl (there_of h.len (by omega)) (by rw [Int.toNat_natCast, List.getD_eq_getElem?_getD, he])]
      simp
  unfold placeG
  rw [if_neg (by rw [ha d h.len]; decide), hf, show (wideN t.reg).toNat = wideT t by omega, Int.toNat_natCast, hno]
  rfl
theorem place_sound {d : Dk} {t : Tg} {body : List UInt8} {f : Nat} (ht : mayTg t = true) (hb : body.length ≤ 43) (hl : d.pl.length = 156) (hf : firstN t.reg t.pla = f) (hm : MeantIs d f (sealF t body (64 * wideT t)) (wideT t)) :
    ∃ hu go st, placeG d t.rep t.reg t.pla = (hu, hu && (go || decide (st = 2)), 0) ∧ goneG d f (wideT t) = go ∧ (mineF (allR d f (wideT t)) t.rep t.reg t.pla).1 = st ∧ (hu = false → go = false ∧ mineF (allR d f (wideT t)) t.rep t.reg t.pla = (1, t, body)) := by
  obtain ⟨f', hf', hn, ha⟩ := place_of ht
  obtain ⟨w1, w2, w3⟩ := wide_may ht
  have hff : f' = f := by omega
  subst hff
  obtain ⟨r1, r2⟩ := room_wide w2 w3
  have hsl : (sealF t body (64 * wideT t)).length = 64 * wideT t := sealF_len (by omega) (by omega)
  refine ⟨isHurt d f' (wideT t), _, _, ?_, rfl, rfl, fun hu => ?_⟩
  · unfold placeG
    rw [if_neg (by rw [ha d hl]; decide), hf, show (wideN t.reg).toNat = wideT t by omega, Int.toNat_natCast]
  · have hno : ∀ k, k < wideT t → (restD d ((f' + k : Nat) : Int)).2.1 = false ∧ (restD d ((f' + k : Nat) : Int)).1 = (meantD d ((f' + k : Nat) : Int)).1 := fun k hk => by
      have h0 := there_of hl (show f' + k < 156 by omega)
      obtain ⟨p, e1, e2, e3⟩ := there_pl h0
      have hb : hurtB d ((f' + k : Nat) : Int) = false := by
        cases hh : hurtB d ((f' + k : Nat) : Int)
        · rfl
        · have hne := hurtsL_ne (d := d) (f := f') (t := f' + wideT t) (s := f' + k) (by omega) (by omega) hh
          unfold isHurt at hu
          cases hL : hurtsL d f' (f' + wideT t)
          · exact absurd hL hne
          · rw [hL] at hu; cases hu
      rw [hurt_pl h0 e2] at hb
      rw [Bool.or_eq_false_iff] at hb
      obtain ⟨b1, b2⟩ := hb
      have b3 : p.rest = p.meant := by simpa using b2
      unfold restD meantD
      simp only [h0, e2, b1, ne_eq, not_true_eq_false, if_false, Bool.false_eq_true]
      exact ⟨trivial, b3⟩
    refine ⟨?_, ?_⟩
    · unfold goneG
      rw [List.any_eq_false]
      intro k hk
      rw [(hno k (List.mem_range.1 hk)).1]
      decide
    · have e : allR d f' (wideT t) = allM d f' (wideT t) := by
        unfold allR allM allG
        rw [List.flatMap_def, List.flatMap_def]
        congr 1
        exact List.map_congr_left fun k hk => (hno k (List.mem_range.1 hk)).2
      rw [e, allM_of w2 w3 hsl hm, mine_seal ht (by omega) (by omega)]
/-! A disk that is got up anew. -/
def upped (d : Dk) : Dk := (powerD (startD (if upD d = true then d else (crashD d []).1)).1 1000).1
theorem upped_ready {d : Dk} {m : Nat} (h : Wk d m) : Ready (upped d) ∧ (upped d).waits.length ≤ m := by
  have hl := h.len
  have hw := h.wt
  have key : ∀ e : Dk, e.pl.length = 156 → e.waits.length ≤ m → (e.down = true ∨ upD e = true) → Ready (powerD (startD e).1 1000).1 ∧ (powerD (startD e).1 1000).1.waits.length ≤ m := fun e h1 h2 h3 => by
    have hs : (startD e).1.pl.length = 156 ∧ (startD e).1.waits = e.waits ∧ (startD e).1.down = false ∧ (startD e).1.dead = false := by
      unfold startD there0
      rw [h1]
      cases hd : e.down with
      | true => simp [h1]
      | false =>
        have h4 := h3.resolve_left (by rw [hd]; decide)
        unfold upD at h4
        rw [hd] at h4
        simp at h4
        simp [h1, hd, h4.2]
    obtain ⟨s1, s2, s3, s4⟩ := hs
    generalize (startD e).1 = e2 at *
    have hp : powerD e2 1000 = ({ e2 with left := 1000 }, 0) := by
      unfold powerD live0 there0
      rw [s1, s3, s4]
      simp
    rw [hp]
    exact ⟨⟨s1, s3, s4, .inr (show (4 : Int) ≤ 1000 by decide)⟩, by simp only; rw [s2]; exact h2⟩
  unfold upped
  by_cases hu : upD d = true
  · rw [if_pos hu]
    exact key d hl hw (.inr hu)
  · rw [if_neg hu]
    rcases crash_pl d [] with ⟨e1, e2⟩ | ⟨e1, e2⟩
    · refine key _ (by rw [e1]; exact hl) (by rw [e2]; exact hw) (.inl ?_)
      unfold crashD there0
      split
      · rename_i hh; exact hh.2
      · rw [if_neg (by rw [hl]; decide)]
    · refine key _ (by rw [e1, thru_len2]; exact hl) (by rw [e2]; simp) (.inl ?_)
      unfold crashD there0
      split
      · rename_i hh; exact hh.2
      · rw [if_neg (by rw [hl]; decide)]
theorem new_ready : Ready (newDk 156) := ⟨List.length_replicate, rfl, rfl, .inl (by decide)⟩
theorem new_wk (n : Nat) : Wk (newDk 156) n := ⟨List.length_replicate, Nat.zero_le _⟩
end Go.Proofs.YtknchbhobopkeaaGreatDoor
