/- Texts that the claim leans on, part 16: Rng, Rng2, Rng4, V11, V12, X12, X13, X14. -/
import Derived.Test.YtknchbhobopkeaaGreatDoorZ1
import Derived.Test.YtknchbhobopkeaaGreatDoorZ2
import Derived.Test.YtknchbhobopkeaaGreatDoorZ3
import Derived.Test.YtknchbhobopkeaaGreatDoorZ4
import Derived.Test.YtknchbhobopkeaaGreatDoorZ5
import Derived.Test.YtknchbhobopkeaaGreatDoorZ6
import Derived.Test.YtknchbhobopkeaaGreatDoorZ7
import Derived.Test.YtknchbhobopkeaaGreatDoorZ8
import Derived.Test.YtknchbhobopkeaaGreatDoorZ9
import Derived.Test.YtknchbhobopkeaaGreatDoorZ10
import Derived.Test.YtknchbhobopkeaaGreatDoorZ11
import Derived.Test.YtknchbhobopkeaaGreatDoorZ12
import Derived.Test.YtknchbhobopkeaaGreatDoorZ13
import Derived.Test.YtknchbhobopkeaaGreatDoorZ14
import Derived.Test.YtknchbhobopkeaaGreatDoorZ15
import Derived.RangeFuncNested
import Derived.RangeFuncBound
import Derived.RangeFuncCalls
import Derived.RangeFuncLeaves
import Derived.RangeFuncBox
import Derived.RangeFuncRecord
import Derived.Test.YtknchbhobopkeaaGreatDoorRows
import Derived.WalkKit
import Derived.WalkSpells
import Derived.WalkLawsBesides
import Derived.Handy
import Derived.Deep.QuietTactic
import Derived.BigQuiet
import Derived.Deep.DeepCutAuto
import Derived.Lib.Hide
import Derived.RegionTactic
import Derived.ChangeAlike
import Derived.Shelf.Abstract
import Derived.Shelf.RegionOpen
import Derived.OwnWalkIn
import Derived.TacticsInMore
import Derived.LoopNIn
import Derived.LoopIn
import Derived.Laws.ResultCell
import Derived.Outline
import Derived.IntWalk
import Derived.Maps.AppendAt
import Derived.Maps.OwnIn
import Derived.Laws.IdiomStrings
import Derived.Laws.BytesArg
import Derived.LoopN
import Derived.ChangeSlices
import Derived.ProofKit
import Derived.Deep.Slices
import Derived.Deep.Strs
import Derived.OpenShut
import Derived.Lib.SmallJoins
import Derived.Laws.MakeOwn
import Derived.Lib.SliceRun
import Derived.Laws.BitsAllLaws
import Derived.Great.BuildSlice
import Derived.Great.FillDense
import Derived.Laws.Rows
import Derived.Deep.Quiet
import Derived.Deep.RegionHeld3
import Derived.Lib.AppendStr
import Derived.Laws.Strings
import Derived.Laws.CopyOwn
import Derived.Laws.CopyRow
import Derived.Laws.NewBlocks
import Derived.Deep.RegionLaw
namespace Go.Proofs.YtknchbhobopkeaaGreatDoor
open Go.RowKit
theorem calls_marks {P : Program} {f : FuncId} {fn : Func} {c : Code} {args : Array Value} {w : World} {R : Ending → World → Prop} (hf : P.funcs[f]? = some fn) (hb : fn.body = some c)
    (h : c.wp P (bodyPostM Fence.wide 3 P fn R) { tmps := args ++ Array.replicate (fn.ntmps - args.size) undef, defers := [] } w) : Calls P f args w R :=
  callsIn_wide.1 (callsIn_of_wp_marks (F := Fence.wide) (n := 3) hf hb trivial (wpIn_wide.2 h))
theorem wp_range {α : Type} {P : Program} {g : Operand} {ps : Array Tmp} {assign body : Code} {Q : Exit → Act → World → Prop} {a : Act} {w : World}
    {gf : Nat} {lb : Array Value} (hg : a.eval g = .func (.func gf) #[] lb) (eg : ∀ args w, (callFunc gf args).run P w = .ok (.enter gf args) w)
    {encs : α → Array Value} {Kp : World → World → Prop} {S Sp : List α → Prop} {N : Nat} (hseq : SeqStopsK Fence.wide 2 P gf lb encs Kp S Sp N w)
    (hKt : ∀ {A B C : World}, Kp A B → Kp B C → Kp A C) (hKb : ∀ (W : World) (l : Nat) (o o' : Obj), w.heap.size ≤ l → W.heap[l]? = some o → o.isCells = false → o.isWalk = false → Kp W (W.putObj l o')) (hps : ∀ x, (encs x).size = ps.size)
    (I : List α → World → Prop) (Ix : Code → List α → World → Prop) (hI : OwnFrom w.heap.size I) (hIx : ∀ c, OwnFrom w.heap.size (Ix c)) (h0 : I [] w) (a₁ : α → Act)
    (hassign : ∀ (l : Nat) (x : α) (W : World) (K : Act → World → Prop), K (a₁ x) W →
      assign.wpIn (Fence.wide.inRound l) (3 - 1 - 1) P (Exit.then K (fun _ _ _ => False)) { tmps := (ps.zip (encs x)).foldl (fun t (p, v) => t.setIfInBounds p v) a.tmps, defers := [] } W)
    (hbody : ∀ (l : Nat) (pre : List α) (x : α) (W : World), I pre W → pre.length < N → body.wpIn (Fence.wide.inRound l) (3 - 1 - 1) P (ownPostG w.heap.size Kp I Ix (pre ++ [x]) W) (a₁ x) W)
    (hdone : ∀ (D : Nat) (xs : List α) (W : World), w.heap.size ≤ D → S xs → I xs W → W.heap[D]? = some (.deferred (some [])) → Q .normal { a with defers := { target := .collected D, args := #[] } :: a.defers } W)
    (hstop : ∀ (D : Nat) (c : Code) (pre : List α) (W : World), w.heap.size ≤ D → Sp pre → Ix c pre W → W.heap[D]? = some (.deferred (some [])) → c.wp P Q { a with defers := { target := .collected D, args := #[] } :: a.defers } W) :
    (Code.rangeFunc g ps assign body).wp P Q a w :=
  wpIn_wide.1 (wpIn_rangeFunc_ownG (F := Fence.wide) (n := 3) rfl (by decide) hg trivial eg hseq hKt hKb (Below.refl _ _) hps I Ix hI hIx h0 a₁ hassign hbody hdone (fun D c pre W h1 h2 h3 h4 => wpIn_wide.2 (hstop D c pre W h1 h2 h3 h4)))
theorem wp_range_skip {α : Type} {P : Program} {g : Operand} {ps : Array Tmp} {body : Code} {Q : Exit → Act → World → Prop} {a : Act} {w : World}
    {gf : Nat} {lb : Array Value} (hg : a.eval g = .func (.func gf) #[] lb) (eg : ∀ args w, (callFunc gf args).run P w = .ok (.enter gf args) w)
    {encs : α → Array Value} {Kp : World → World → Prop} {S Sp : List α → Prop} {N : Nat} (hseq : SeqStopsK Fence.wide 2 P gf lb encs Kp S Sp N w)
    (hKt : ∀ {A B C : World}, Kp A B → Kp B C → Kp A C) (hKb : ∀ (W : World) (l : Nat) (o o' : Obj), w.heap.size ≤ l → W.heap[l]? = some o → o.isCells = false → o.isWalk = false → Kp W (W.putObj l o')) (hps : ∀ x, (encs x).size = ps.size)
    (I : List α → World → Prop) (Ix : Code → List α → World → Prop) (hI : OwnFrom w.heap.size I) (hIx : ∀ c, OwnFrom w.heap.size (Ix c)) (h0 : I [] w)
    (hbody : ∀ (l : Nat) (pre : List α) (x : α) (W : World), I pre W → pre.length < N → body.wpIn (Fence.wide.inRound l) (3 - 1 - 1) P (ownPostG w.heap.size Kp I Ix (pre ++ [x]) W) { tmps := (ps.zip (encs x)).foldl (fun t (p, v) => t.setIfInBounds p v) a.tmps, defers := [] } W)
    (hdone : ∀ (D : Nat) (xs : List α) (W : World), w.heap.size ≤ D → S xs → I xs W → W.heap[D]? = some (.deferred (some [])) → Q .normal { a with defers := { target := .collected D, args := #[] } :: a.defers } W)
    (hstop : ∀ (D : Nat) (c : Code) (pre : List α) (W : World), w.heap.size ≤ D → Sp pre → Ix c pre W → W.heap[D]? = some (.deferred (some [])) → c.wp P Q { a with defers := { target := .collected D, args := #[] } :: a.defers } W) :
    (Code.rangeFunc g ps .skip body).wp P Q a w :=
  wp_range hg eg hseq hKt hKb hps I Ix hI hIx h0 (fun x => { tmps := (ps.zip (encs x)).foldl (fun t (p, v) => t.setIfInBounds p v) a.tmps, defers := [] }) (fun _ _ _ _ hK => wpIn_skip hK) hbody hdone hstop
structure KpH (n m : Nat) (W W' : World) : Prop where
  bl : Below n W W'
  bx : ∀ k, m ≤ k → k < m + 4 → W'.heap[k]? = W.heap[k]?
theorem KpH.trans {n m : Nat} {A B C : World} (h : KpH n m A B) (k : KpH n m B C) : KpH n m A C := ⟨h.bl.trans k.bl, fun i h1 h2 => (k.bx i h1 h2).trans (h.bx i h1 h2)⟩
theorem KpH.put {n m : Nat} {w : World} (hn : n ≤ w.heap.size) (hm : m + 4 ≤ w.heap.size) (W : World) (l : Nat) (o o' : Obj) (hl : w.heap.size ≤ l) (h : W.heap[l]? = some o) (h1 : o.isCells = false) (h2 : o.isWalk = false) : KpH n m W (W.putObj l o') :=
  ⟨belowK_b hn W l o o' hl h h1 h2, fun k _ hk => (grownBy_putObj' W l o').block k (by have := (Array.getElem?_eq_some_iff.1 h).1; omega) (fun e => by cases e; omega)⟩
theorem KpH.below {n m : Nat} {W W' : World} (h : Below W.heap.size W W') (hn : n ≤ W.heap.size) (hm : m + 4 ≤ W.heap.size) : KpH n m W W' := ⟨h.mono hn, fun k _ hk => h.block k (by omega)⟩
theorem gb_none {w w' : World} (h : Below w.heap.size w w') : w.grownBy w' none := ⟨h.os, h.tape, h.output, h.size, fun i hi _ => h.block i hi⟩
theorem abides_bl {β : Type} {B : Nat} {J : β → World → Prop} (hJ : AbidesFrom B J) {s : β} {w w' : World} (hs : J s w) (h : Below w.heap.size w w') : J s w' := hJ s w w' none hs (gb_none h) (fun r e => by cases e)
theorem marks_ret {P : Program} {fn : Func} {R : Ending → World → Prop} {tmps : Array Value} {D : Nat} {v : Value} {w : World} (hK : w.heap[D]? = some (.deferred (some []))) (hres : (results fn tmps).run P (w.putObj D (.deferred none)) = .ok v (w.putObj D (.deferred none)))
    (hR : R (.returned v) (w.putObj D (.deferred none))) : bodyPostM Fence.wide 3 P fn R .ret { tmps := tmps, defers := [{ target := .collected D, args := #[] }] } w :=
  ⟨by simp, .inl ⟨_, _, rfl, run_takeDeferred hK, v, hres, hR⟩⟩
theorem marks_end {P : Program} {fn : Func} {R : Ending → World → Prop} {tmps : Array Value} {v : Value} {w : World} (hres : (results fn tmps).run P w = .ok v w) (hR : R (.returned v) w) : bodyPostM Fence.wide 3 P fn R .ret { tmps := tmps, defers := [] } w := ⟨v, hres, hR⟩
theorem below_mark {n D : Nat} {w W : World} (h : Below n w W) (hD : n ≤ D) : Below n w (W.putObj D (.deferred none)) :=
  h.trans ⟨rfl, rfl, rfl, by simp [World.putObj], fun k hk => World.putObj_heap_other (by omega)⟩
end Go.Proofs.YtknchbhobopkeaaGreatDoor
namespace Go.Proofs.YtknchbhobopkeaaGreatDoor
open Go.RowKit
structure KpB (n m : Nat) (A B : World) : Prop where
  bl : Below n A B
  bx : B.heap[m]? = A.heap[m]?
theorem KpB.trans {n m : Nat} {A B C : World} (h : KpB n m A B) (k : KpB n m B C) : KpB n m A C := ⟨h.bl.trans k.bl, k.bx.trans h.bx⟩
theorem KpB.put {n m : Nat} {W : World} {l : Nat} {o : Obj} (o' : Obj) (hn : n ≤ l) (hm : m < l) (h : W.heap[l]? = some o) : KpB n m W (W.putObj l o') := by
  have hl := (Array.getElem?_eq_some_iff.1 h).1
  exact ⟨(Below.refl n W).grown (grownBy_putObj' W l o') (by omega) (fun k e => by cases e; exact hn), (grownBy_putObj' W l o').block m (by omega) (fun e => by cases e; omega)⟩
def Carry {α : Type} (B m : Nat) (I : List α → World → Prop) : Prop :=
  ∀ s A B' row, I s A → A.grownBy B' row → (∀ r, row = some r → r = m ∨ (B ≤ r ∧ ∃ o : Obj, A.heap[r]? = some o ∧ o.isCells = false)) → I s B'
theorem Carry.put {α : Type} {B m l : Nat} {I : List α → World → Prop} (h : Carry B m I) {s : List α} {W : World} {o : Obj} (o' : Obj) (hs : I s W) (hB : B ≤ l) (hl : W.heap[l]? = some o) (ho : o.isCells = false) : I s (W.putObj l o') :=
  h s W _ (some l) hs (grownBy_putObj' W l o') (fun r e => by cases e; exact .inr ⟨hB, o, hl, ho⟩)
theorem Carry.al {α : Type} {B m : Nat} {I : List α → World → Prop} (h : Carry B m I) {s : List α} {W : World} (o : Obj) (hs : I s W) : I s (W.alloc o) :=
  h s W _ none hs (World.grownBy_alloc W o none) (fun r e => by cases e)
end Go.Proofs.YtknchbhobopkeaaGreatDoor
namespace Go.Proofs.YtknchbhobopkeaaGreatDoor
open Go.RowKit
theorem KpB.below {n m : Nat} {W W' : World} (h : Below W.heap.size W W') (hn : n ≤ W.heap.size) (hm : m < W.heap.size) : KpB n m W W' := ⟨h.mono hn, h.block m hm⟩
theorem KpB.refl (n m : Nat) (W : World) : KpB n m W W := ⟨Below.refl _ _, rfl⟩
end Go.Proofs.YtknchbhobopkeaaGreatDoor
namespace Go.Proofs.YtknchbhobopkeaaGreatDoor
open Go.RowKit Go.Shelf
def slotW (d : Dk) (s : Lg) (k : Nat) : Int × Rpt := ((repW d s (s.snap + 1 + k)).1, rptW d s (s.snap + 1 + k))
def slotsL (d : Dk) (s : Lg) (n : Nat) : List (Int × Rpt) := (List.range n).map (slotW d s)
section
variable {B g gp q : Nat} {wv : Value} {d : Dk} {wc w : World} {s : Lg}
end
end Go.Proofs.YtknchbhobopkeaaGreatDoor
namespace Go.Proofs.YtknchbhobopkeaaGreatDoor
open Go.RowKit Go.Shelf Go.Maps
attribute [local go_sem] Oper.semAt_some
def toldC (x : Int × Rpt) : Bool := x.1 == 3 || x.1 == 2
def toldL (l : List (Int × Rpt)) : List Rpt := (l.filter toldC).map (·.2)
def rptC (r : Rpt) : List Value := (rptA r).toList
def allW (d : Dk) (s : Lg) : List Rpt := toldL (slotsL d s 24)
def InvA (w : World) (pre : List (Int × Rpt)) (W : World) : Prop := (∃ v, Boxed W w.heap.size 39 v ∧ W.ownsRow (w.heap.size + 2) 44 11 v (toldL pre).length ((toldL pre).flatMap rptC) ∧ True) ∧ Below w.heap.size w W ∧ w.heap.size + 2 ≤ W.heap.size
def actA (q g F : Nat) (x : Int × Rpt) (q9 : Nat) : Act := { tmps := #[Value.pointer (some ⟨q, 0, none⟩), undef, .slice none 0 0, .int .i64 0, Value.pointer (some ⟨F, 0, none⟩), .int .u8 x.1, Value.pointer (some ⟨q9, 0, none⟩), Value.pointer (some ⟨q, 0, none⟩), .bool false, Value.pointer (some ⟨q, 0, none⟩), Value.pointer (some ⟨q, 0, none⟩), Value.pointer (some ⟨q, 0, none⟩), Value.pointer (some ⟨g, 0, none⟩), .bool true, .bool false, Value.pointer (some ⟨q, 0, none⟩), .func (.func 67) #[] #[.pointer (some ⟨F + 1, 0, none⟩)], .int .u8 x.1, .agg (rptA x.2), undef, undef, undef, undef, undef, undef, undef, undef, undef, undef, undef], defers := [] }
def AxA (q g F : Nat) (x : Int × Rpt) (a' : Act) (W : World) : Prop := ∃ q9, F + 2 ≤ q9 ∧ W.heap[q9]? = some (Obj.cells (rptA x.2) 44 (0, 0)) ∧ a' = actA q g F x q9
section
variable {B g gp q : Nat} {wv : Value} {d : Dk} {w : World} {s : Lg}
end
end Go.Proofs.YtknchbhobopkeaaGreatDoor
namespace Go.Proofs.YtknchbhobopkeaaGreatDoor
def hurtB (d : Dk) (s : Int) : Bool := decide ((restD d s).2.2 = 0) && ((restD d s).2.1 || !decide ((restD d s).1 = (meantD d s).1))
def rangeI (f t : Nat) : List Int := (List.range' f (t - f)).map (fun (s : Nat) => (s : Int))
def hurtsL (d : Dk) (f t : Nat) : List Int := (rangeI f t).filter (hurtB d)
theorem rangeI_self (f : Nat) : rangeI f f = [] := by simp [rangeI]
theorem rangeI_succ {f t : Nat} (h : f ≤ t) : rangeI f (t + 1) = rangeI f t ++ [(t : Int)] := by
  unfold rangeI
  rw [show t + 1 - f = (t - f) + 1 by omega, List.range'_concat, List.map_append]
  simp only [List.map_cons, List.map_nil]
  rw [show f + 1 * (t - f) = t by omega]
theorem hurtsL_self (d : Dk) (f : Nat) : hurtsL d f f = [] := by simp [hurtsL, rangeI_self]
theorem hurtsL_yes {d : Dk} {f t : Nat} (h : f ≤ t) (hb : hurtB d t = true) : hurtsL d f (t + 1) = hurtsL d f t ++ [(t : Int)] := by
  unfold hurtsL
  rw [rangeI_succ h, List.filter_append]
  simp [hb]
theorem hurtsL_no {d : Dk} {f t : Nat} (h : f ≤ t) (hb : hurtB d t = false) : hurtsL d f (t + 1) = hurtsL d f t := by
  unfold hurtsL
  rw [rangeI_succ h, List.filter_append]
  simp [hb]
theorem hurtsL_len (d : Dk) (f t : Nat) : (hurtsL d f t).length ≤ t - f := by
  unfold hurtsL rangeI
  refine Nat.le_trans (List.length_filter_le _ _) ?_
  simp
theorem hurtsL_ne {d : Dk} {f t s : Nat} (h1 : f ≤ s) (h2 : s < t) (h : hurtB d s = true) : hurtsL d f t ≠ [] := by
  intro hh
  unfold hurtsL at hh
  rw [List.filter_eq_nil_iff] at hh
  refine hh (s : Int) ?_ h
  unfold rangeI
  simp only [List.mem_map, List.mem_range'_1]
  exact ⟨s, ⟨h1, by omega⟩, rfl⟩
def askN (n : Nat) (rep reg pla : Int) : Int := if n = 0 then 1 else if n < 156 ∨ rep < 0 ∨ 7 ≤ rep ∨ firstN reg pla < 0 then 2 else 0
def askG (d : Dk) (rep reg pla : Int) : Int := askN d.pl.length rep reg pla
def allG (f : Int → List UInt8) (a n : Nat) : List UInt8 := (List.range n).flatMap (fun (k : Nat) => f ((a + k : Nat) : Int))
def goneG (d : Dk) (a n : Nat) : Bool := (List.range n).any (fun (k : Nat) => (restD d ((a + k : Nat) : Int)).2.1)
theorem allG_zero (f : Int → List UInt8) (a : Nat) : allG f a 0 = [] := rfl
theorem allG_succ (f : Int → List UInt8) (a n : Nat) : allG f a (n + 1) = allG f a n ++ f ((a + n : Nat) : Int) := by
  unfold allG
  rw [List.range_succ, List.flatMap_append, List.flatMap_singleton]
theorem goneG_succ (d : Dk) (a n : Nat) : goneG d a (n + 1) = (goneG d a n || (restD d ((a + n : Nat) : Int)).2.1) := by
  unfold goneG
  rw [List.range_succ, List.any_append]
  simp
def isHurt (d : Dk) (a n : Nat) : Bool := !(hurtsL d a (a + n)).isEmpty
def allR (d : Dk) (a n : Nat) : List UInt8 := allG (fun s => (restD d s).1) a n
def allM (d : Dk) (a n : Nat) : List UInt8 := allG (fun s => (meantD d s).1) a n
def placeG (d : Dk) (rep reg pla : Int) : Bool × Bool × Int :=
  if askG d rep reg pla ≠ 0 then (false, false, askG d rep reg pla) else
  (isHurt d (firstN reg pla).toNat (wideN reg).toNat, isHurt d (firstN reg pla).toNat (wideN reg).toNat && (goneG d (firstN reg pla).toNat (wideN reg).toNat || decide ((mineF (allR d (firstN reg pla).toNat (wideN reg).toNat) rep reg pla).1 = 2)), 0)
def honG (d : Dk) (rep reg pla : Int) : (Nat × Tg × List UInt8) × Int :=
  if askG d rep reg pla ≠ 0 then ((0, zeroTg, []), askG d rep reg pla) else
  (mineF (allM d (firstN reg pla).toNat (wideN reg).toNat) rep reg pla, 0)
def seenP (d : Dk) (rep : Int) (reg : Nat) (n : Nat) : Bool := (List.range n).all (fun (p : Nat) => (placeG d rep reg p).1 == (placeG d rep reg p).2.1)
def seenR (d : Dk) (rep : Int) (n : Nat) : Bool := (List.range n).all (fun (r : Nat) => seenP d rep (r + 1) (placesN ((r + 1 : Nat) : Int)).toNat)
def seenG (d : Dk) (rep : Int) : Bool × Int := if askG d rep 1 0 ≠ 0 then (false, askG d rep 1 0) else (seenR d rep 5, 0)
theorem seenP_succ (d : Dk) (rep : Int) (reg n : Nat) : seenP d rep reg (n + 1) = (seenP d rep reg n && (placeG d rep reg n).1 == (placeG d rep reg n).2.1) := by
  unfold seenP
  rw [List.range_succ, List.all_append]
  simp
theorem seenR_succ (d : Dk) (rep : Int) (n : Nat) : seenR d rep (n + 1) = (seenR d rep n && seenP d rep (n + 1) (placesN ((n + 1 : Nat) : Int)).toNat) := by
  unfold seenR
  rw [List.range_succ, List.all_append]
  simp
theorem ask_first {d : Dk} {rep reg pla : Int} (h : askG d rep reg pla = 0) : 156 ≤ d.pl.length ∧ 0 ≤ rep ∧ rep ≤ 6 ∧ 1 ≤ reg ∧ reg ≤ 5 ∧ 0 ≤ pla ∧ pla < placesN reg ∧ 0 ≤ firstN reg pla ∧ firstN reg pla + wideN reg ≤ 156 ∧ 1 ≤ wideN reg ∧ wideN reg ≤ 2 := by
  unfold askG askN at h
  split at h
  · cases h
  · split at h
    · cases h
    · rename_i h1 h2
      have h3 : ¬ firstN reg pla < 0 := fun hh => h2 (.inr (.inr (.inr hh)))
      have h4 : ¬ (placesN reg = 0 ∨ pla < 0 ∨ placesN reg ≤ pla) := fun hh => h3 (by unfold firstN; rw [if_pos hh]; decide)
      have h5 : 0 < placesN reg := by
        have : 0 ≤ placesN reg := by unfold placesN; repeat' split <;> omega
        omega
      obtain ⟨r1, r2, _⟩ := placesN_reg h5
      refine ⟨by omega, by omega, by omega, r1, r2, by omega, by omega, by omega, ?_⟩
      have hf : firstN reg pla = startN reg + pla * wideN reg := by unfold firstN; rw [if_neg h4]
      rw [hf]
      have hr : reg = 1 ∨ reg = 2 ∨ reg = 3 ∨ reg = 4 ∨ reg = 5 := by omega
      rcases hr with rfl | rfl | rfl | rfl | rfl <;> simp [placesN, startN, wideN] at h4 ⊢ <;> omega
end Go.Proofs.YtknchbhobopkeaaGreatDoor
namespace Go.Proofs.YtknchbhobopkeaaGreatDoor
/-! Without faults nothing is hurt. -/
def CleanL (l : List Pl) : Prop := ∀ p ∈ l, p.rest = p.meant ∧ p.lost = false
theorem there_pl {d : Dk} {s : Int} (h : thereD d s = 0) : ∃ p, d.pl[s.toNat]? = some p ∧ d.pl.getD s.toNat zeroPl = p ∧ p ∈ d.pl := by
  have hlt : s.toNat < d.pl.length := by
    unfold thereD at h
    split at h
    · cases h
    · split at h
      · cases h
      · omega
  have e := List.getElem?_eq_getElem hlt
  exact ⟨_, e, by rw [List.getD_eq_getElem?_getD, e]; rfl, List.getElem_mem hlt⟩
theorem hurt_pl {d : Dk} {s : Int} {p : Pl} (h : thereD d s = 0) (hp : d.pl.getD s.toNat zeroPl = p) : hurtB d s = (p.lost || !decide (p.rest = p.meant)) := by
  unfold hurtB restD meantD
  simp only [h, ne_eq, not_true_eq_false, if_false, hp]
  cases hl : p.lost <;> simp
theorem clean_set {l : List Pl} (h : CleanL l) (k : Nat) (b : List UInt8) : CleanL (l.set k ⟨b, b, false⟩) := by
  intro p hp
  rcases List.mem_or_eq_of_mem_set hp with h1 | rfl
  · exact h p h1
  · exact ⟨rfl, rfl⟩
theorem spend_pl (d : Dk) : (spendD d).1.pl = d.pl ∧ (spendD d).1.waits = d.waits := by
  unfold spendD
  split
  · exact ⟨rfl, rfl⟩
  · split <;> exact ⟨rfl, rfl⟩
theorem write_pl (d : Dk) (s : Int) (b : List UInt8) : (writeD d s b).1.pl = d.pl ∧ (writeD d s b).1.waits.length ≤ d.waits.length + 1 := by
  obtain ⟨h1, h2⟩ := spend_pl d
  unfold writeD
  split
  · exact ⟨rfl, by simp⟩
  · split
    · exact ⟨rfl, by simp⟩
    · split
      · exact ⟨h1, by rw [h2]; omega⟩
      · exact ⟨h1, by simp [h2]⟩
theorem flush_pl (d : Dk) : ((flushD d).1.pl = d.pl ∧ (flushD d).1.waits = d.waits) ∨ ((flushD d).1.pl = thruD d.pl d.waits 0 (fun _ => true) ∧ (flushD d).1.waits = []) := by
  obtain ⟨h1, h2⟩ := spend_pl d
  unfold flushD
  split
  · exact .inl ⟨rfl, rfl⟩
  · split
    · exact .inl ⟨h1, h2⟩
    · exact .inr ⟨by simp [h1, h2], rfl⟩
/-! Acts. -/
def sectorL (n : Int) (bytes : List UInt8) : List UInt8 := if 0 < bytes.length then bytes else List.replicate 64 (UInt8.ofNat (n % 256).toNat)
def do5 (d : Dk) (k : Nat) (s n : Int) (bytes : List UInt8) (keep : List Bool) : Dk × Int :=
  if k % 9 = 0 then flushD d else if k % 9 = 1 then crashD d keep else if k % 9 = 2 then startD d else if k % 9 = 3 then flipD d s n else if k % 9 = 4 then loseD d s else if k % 9 = 5 then strayD d s n else if k % 9 = 8 then powerD d n else writeD d s (sectorL n bytes)
structure Wk (d : Dk) (n : Nat) : Prop where
  len : d.pl.length = 156
  wt : d.waits.length ≤ n
theorem Wk.of {d d' : Dk} {n : Nat} (h : Wk d n) (h1 : d'.pl.length = d.pl.length) (h2 : d'.waits.length ≤ d.waits.length + 1) : Wk d' (n + 1) := ⟨h1.trans h.len, by have := h.wt; omega⟩
theorem flip_pl (d : Dk) (s n : Int) : (flipD d s n).1.pl.length = d.pl.length ∧ (flipD d s n).1.waits = d.waits ∧ ∀ j : Int, meantD (flipD d s n).1 j = meantD d j := by
  unfold flipD
  split
  · exact ⟨rfl, rfl, fun _ => rfl⟩
  · split
    · exact ⟨rfl, rfl, fun _ => rfl⟩
    · refine ⟨by simp, rfl, fun j => ?_⟩
      unfold meantD thereD
      simp only [List.length_modify, List.getD_eq_getElem?_getD, List.getElem?_modify]
      congr 2
      cases hj : d.pl[j.toNat]? with
      | none => rfl
      | some p => by_cases he : s.toNat = j.toNat <;> simp [he]
theorem lose_pl (d : Dk) (s : Int) : (loseD d s).1.pl.length = d.pl.length ∧ (loseD d s).1.waits = d.waits ∧ ∀ j : Int, meantD (loseD d s).1 j = meantD d j := by
  unfold loseD
  split
  · exact ⟨rfl, rfl, fun _ => rfl⟩
  · refine ⟨by simp, rfl, fun j => ?_⟩
    unfold meantD thereD
    simp only [List.length_modify, List.getD_eq_getElem?_getD, List.getElem?_modify]
    congr 2
    cases hj : d.pl[j.toNat]? with
    | none => rfl
    | some p => by_cases he : s.toNat = j.toNat <;> simp [he]
theorem stray_pl (d : Dk) (s t : Int) : (strayD d s t).1.pl.length = d.pl.length ∧ (strayD d s t).1.waits = d.waits ∧ ∀ j : Int, meantD (strayD d s t).1 j = meantD d j := by
  unfold strayD
  split
  · exact ⟨rfl, rfl, fun _ => rfl⟩
  · split
    · exact ⟨rfl, rfl, fun _ => rfl⟩
    · refine ⟨by simp, rfl, fun j => ?_⟩
      unfold meantD thereD
      simp only [List.length_modify, List.getD_eq_getElem?_getD, List.getElem?_modify]
      congr 2
      cases hj : d.pl[j.toNat]? with
      | none => rfl
      | some p => by_cases he : t.toNat = j.toNat <;> simp [he]
theorem new_clean (n : Nat) : CleanL (newDk n).pl := fun p hp => by
  rw [(List.mem_replicate.1 hp).2]
  exact ⟨rfl, rfl⟩
end Go.Proofs.YtknchbhobopkeaaGreatDoor
namespace Go.Proofs.YtknchbhobopkeaaGreatDoor
/-! Acts that came in. -/
structure A5 where
  kind : Nat
  sec : Int
  n : Int
  ba : Option Addr
  bytes : List UInt8
  bc : Nat
  ka : Option Addr
  keep : List Bool
  kc : Nat
structure A6 where
  sl : Bool
  tg : Tg
  oa : Option Addr
  body : List UInt8
  oc : Nat
  dk : A5
def do5A (d : Dk) (x : A5) : Dk × Int := do5 d x.kind x.sec x.n x.bytes x.keep
def wideT (t : Tg) : Nat := if mayTg t = true then (wideN t.reg).toNat else 0
def sealR (t : Tg) (body : List UInt8) (n : Nat) : List UInt8 := if mayTg t = true ∧ roomN (64 * n) ≠ 0 ∧ body.length ≤ roomN (64 * n) then sealF t body (64 * n) else []
def sealE (t : Tg) (body : List UInt8) (n : Nat) : Int := if mayTg t = false ∨ roomN (64 * n) = 0 then 2 else if roomN (64 * n) < body.length then 3 else 0
def pcD (b : List UInt8) (k : Nat) : List UInt8 := (b.drop (64 * k)).take 64
def putsD (d : Dk) (f : Int) (b : List UInt8) : Nat → Dk
  | 0 => d
  | k + 1 => (writeD (putsD d f b k) (f + k) (pcD b k)).1
def do6 (d : Dk) (x : A6) : Dk := if x.sl = false then (do5A d x.dk).1 else putsD d (firstN x.tg.reg x.tg.pla) (sealR x.tg x.body (wideT x.tg)) ((sealR x.tg x.body (wideT x.tg)).length / 64)
def fault (x : A6) : Bool := !x.sl && (decide (3 ≤ x.dk.kind % 9) && decide (x.dk.kind % 9 ≤ 5))
/-! A frame that is put. -/
structure Ready (d : Dk) : Prop where
  len : d.pl.length = 156
  dn : d.down = false
  de : d.dead = false
  lf : d.left < 0 ∨ 4 ≤ d.left
structure Held (d : Dk) (f : Nat) (b : List UInt8) (n : Nat) : Prop where
  len : d.pl.length = 156
  at_ : ∀ k, k < n → d.pl[f + k]? = some ⟨pcD b k, pcD b k, false⟩
theorem pcs_all {b : List UInt8} {n : Nat} (h1 : 1 ≤ n) (h2 : n ≤ 2) (hb : b.length = 64 * n) : (List.range n).flatMap (fun k => pcD b k) = b := by
  rcases (show n = 1 ∨ n = 2 by omega) with rfl | rfl
  · simp only [List.range_one, List.flatMap_cons, List.flatMap_nil, List.append_nil, pcD, Nat.mul_zero, List.drop_zero]
    exact List.take_of_length_le (by omega)
  · simp only [show List.range 2 = [0, 1] from rfl, List.flatMap_cons, List.flatMap_nil, List.append_nil, pcD, Nat.mul_zero, List.drop_zero, Nat.mul_one]
    rw [List.take_of_length_le (show (b.drop 64).length ≤ 64 by rw [List.length_drop]; omega), List.take_append_drop]
theorem there_of {d : Dk} {j : Nat} (hl : d.pl.length = 156) (hj : j < 156) : thereD d (j : Int) = 0 := by
  unfold thereD
  rw [if_neg (by omega), if_neg (by omega)]
def MeantIs (d : Dk) (f : Nat) (b : List UInt8) (n : Nat) : Prop := ∀ k, k < n → meantD d ((f + k : Nat) : Int) = (pcD b k, 0)
theorem Held.meant {d : Dk} {f n : Nat} {b : List UInt8} (h : Held d f b n) (h3 : f + n ≤ 156) : MeantIs d f b n := fun k hk => by
  unfold meantD
  rw [there_of h.len (by omega), if_neg (by decide), Int.toNat_natCast, List.getD_eq_getElem?_getD, h.at_ k hk]
  rfl
/-! A disk that is got up anew. -/
def upped (d : Dk) : Dk := (powerD (startD (if upD d = true then d else (crashD d []).1)).1 1000).1
end Go.Proofs.YtknchbhobopkeaaGreatDoor
