/- Texts that the claim leans on, part 4: Blk2, J5, J6, Rng, Rng2, Rng4, J7, J4. -/
import Derived.Test.YtkkoookmnnmiiaaZ1
import Derived.Test.YtkkoookmnnmiiaaZ2
import Derived.Test.YtkkoookmnnmiiaaZ3
import Derived.Test.YtkkoookmnnmiiaaRows
import Derived.WalkKit
import Derived.WalkSpells
import Derived.WalkLawsBesides
import Derived.Handy
import Derived.Deep.QuietTactic
import Derived.BigQuiet
import Derived.Deep.DeepCutAuto
import Derived.Lib.Hide
import Derived.RegionTactic
import Derived.ChangeAlike
import Derived.Laws.ResultCell
import Derived.Outline
import Derived.RangeFuncNested
import Derived.RangeFuncBound
import Derived.RangeFuncCalls
import Derived.RangeFuncLeaves
import Derived.RangeFuncBox
import Derived.RangeFuncRecord
import Derived.Shelf.Abstract
import Derived.Shelf.RegionOpen
import Derived.OwnWalkIn
import Derived.TacticsInMore
import Derived.LoopNIn
import Derived.LoopIn
import Derived.Maps.OwnSet
import Derived.Lib.SlKeysI
import Derived.Laws.Rows
import Derived.Deep.Quiet
import Derived.Deep.RegionHeld3
import Derived.ProofKit
import Derived.OpenShut
import Derived.Laws.Strings
import Derived.Laws.CopyOwn
import Derived.Laws.CopyRow
import Derived.Laws.NewBlocks
import Derived.Deep.RegionLaw
namespace Go.Proofs.Ytkkoookmnnmiiaa
open Go.RowKit
variable {P : Program}

/-- What an aggregate's load at an operand reads, cell by cell. -/
def LdCs (P : Program) (a : Act) (w : World) (ty : TypeId) (x : Operand) (v : Array Value) : Prop :=
  ∃ (b off n : Nat), (∀ w, (isAgg ty).run P w = .ok true w) ∧ (∀ w, (sizeOf ty).run P w = .ok n w) ∧ a.eval x = .pointer (some ⟨b, off, none⟩) ∧ v.size = n ∧ ∀ j u, v[j]? = some u → w.cell? ⟨b, off + j, none⟩ = some u
theorem run_loadVar_cs (w : World) (b off n : Nat) (ty : TypeId) (v : Array Value) (ha : (isAgg ty).run P w = .ok true w) (hs : (sizeOf ty).run P w = .ok n w) (hn : v.size = n) (hc : ∀ j u, v[j]? = some u → w.cell? ⟨b, off + j, none⟩ = some u) :
    (loadVar ty ⟨b, off, none⟩).run P w = .ok (.agg v) w := by
  have hl := run_loadCells_list (P := P) (w := w) ⟨b, off, none⟩ v.toList (fun j u hu => by
    rw [addr_add]
    exact hc j u (by rw [← Array.getElem?_toList]; exact hu))
  rw [Array.length_toList, hn] at hl
  simp only [Array.toArray_toList] at hl
  simp only [loadVar, Sem.run_bind, ha, hs, hl, Result.andThen_ok, if_true, Sem.run_pure]
theorem exec_ldC {a : Act} {w : World} {dst : Option Tmp} {ty' : TypeId} {pos : String} {af : Array Edge} {gd : Option (Nat × Bool)} (ty : TypeId) (x : Operand) {v : Array Value} (hl : LdCs P a w ty x v) : (execOp a.eval (Oper.mk dst (.load ty x) ty' pos af gd)).run P w = .ok (.value (.agg v)) w := by
  obtain ⟨b, off, n, ha, hs, hx, hn, hc⟩ := hl
  unfold execOp
  simp only [hx, Instr.loadAt, Instr.sureAddr, Sem.run_bind, Sem.run_pure, Result.andThen_ok, run_loadVar_cs w b off n ty v (ha w) (hs w) hn hc]
theorem wpList_ldC {ops : Array Oper} {rest : List Oper} {a : Act} {w : World} {Q : Exit → Act → World → Prop} {dst : Option Tmp} {ty' : TypeId} {pos : String} {af : Array Edge} {gd : Option (Nat × Bool)} (ty : TypeId) (x : Operand)
    (hl : Region.wanted (Oper.mk dst (.load ty x) ty' pos af gd) (yielded ops a.tmps) = true ∧ ∃ v, LdCs P a w ty x v ∧ wpList P ops Q rest (a.put dst (.agg v)) w) : wpList P ops Q (Oper.mk dst (.load ty x) ty' pos af gd :: rest) a w := by
  obtain ⟨hw, v, h1, h2⟩ := hl
  refine BigFrame.wpList_want hw fun K hK => ?_
  unfold Oper.wp
  rw [exec_ldC ty x h1]
  exact hK _ _ h2
end Go.Proofs.Ytkkoookmnnmiiaa

namespace Go.Proofs.Ytkkoookmnnmiiaa
open Go.RowKit

@[go_sem] theorem eqOp8 (k k' : Int) (a b c a' b' c' : Tx) (w : World) : (Op.equalIn 9998 32 (.agg #[.int .u8 k, .string a, .string b, .string c]) (.agg #[.int .u8 k', .string a', .string b', .string c'])).run Try.prog w = .ok (k == k' && a.toList == a'.toList && b.toList == b'.toList && c.toList == c'.toList) w := by
  have u3 := Try.underlying9
  have a3 := Try.isAgg9
  have z3 := Try.sizeOf9
  have u5 := Try.underlying5
  have a5 := Try.isAgg5
  have z5 := Try.sizeOf5
  have hS : Try.prog.underlying 32 = some (.struct (Try.prog.fieldsOf 32)) := by kernel_rfl
  rw [show (9998 : Nat) = 9997 + 1 from rfl, run_equalIn_agg w 9997 32 _ _ hS (by kernel_rfl)]
  simp only [Program.fieldsOf, Try.underlying32]
  go_simp
  cases h1 : (k == k') <;> cases h2 : (a.toList == a'.toList) <;> cases h3 : (b.toList == b'.toList) <;> cases h4 : (c.toList == c'.toList) <;> simp_all
@[go_sem] theorem eqEntry9 (q q' c1 c1' s s' k k' : Int) (a b c a' b' c' : Tx) (w : World) : (Op.equalIn 9999 34 (.agg #[.int .u8 q, .int .i64 c1, .int .i64 s, .int .u8 k, .string a, .string b, .string c]) (.agg #[.int .u8 q', .int .i64 c1', .int .i64 s', .int .u8 k', .string a', .string b', .string c'])).run Try.prog w = .ok (q == q' && c1 == c1' && s == s' && (k == k' && a.toList == a'.toList && b.toList == b'.toList && c.toList == c'.toList)) w := by
  have u3 := Try.underlying3
  have a3 := Try.isAgg3
  have z3 := Try.sizeOf3
  have u5 := Try.underlying5
  have a5 := Try.isAgg5
  have z5 := Try.sizeOf5
  have a4 := Try.isAgg32
  have z4 := Try.sizeOf32
  have hS : Try.prog.underlying 34 = some (.struct (Try.prog.fieldsOf 34)) := by kernel_rfl
  rw [show (9999 : Nat) = 9998 + 1 from rfl, run_equalIn_agg w 9998 34 _ _ hS (by kernel_rfl)]
  simp only [Program.fieldsOf, Try.underlying34]
  go_simp
  cases h1 : (q == q') <;> cases h2 : (c1 == c1') <;> cases h3 : (s == s') <;> cases h4 : (k == k') <;> cases h5 : (a.toList == a'.toList) <;> cases h6 : (b.toList == b'.toList) <;> cases h7 : (c.toList == c'.toList) <;> simp_all
@[go_sem] theorem eqAp (n n' q q' c1 c1' s s' k k' : Int) (a b c a' b' c' : Tx) (w : World) : (Op.equalIn 10000 36 (.agg #[.int .i64 n, .int .u8 q, .int .i64 c1, .int .i64 s, .int .u8 k, .string a, .string b, .string c]) (.agg #[.int .i64 n', .int .u8 q', .int .i64 c1', .int .i64 s', .int .u8 k', .string a', .string b', .string c'])).run Try.prog w = .ok (n == n' && (q == q' && c1 == c1' && s == s' && (k == k' && a.toList == a'.toList && b.toList == b'.toList && c.toList == c'.toList))) w := by
  have u3 := Try.underlying3
  have a3 := Try.isAgg3
  have z3 := Try.sizeOf3
  have a4 := Try.isAgg34
  have z4 := Try.sizeOf34
  have hS : Try.prog.underlying 36 = some (.struct (Try.prog.fieldsOf 36)) := by kernel_rfl
  rw [show (10000 : Nat) = 9999 + 1 from rfl, run_equalIn_agg w 9999 36 _ _ hS (by kernel_rfl)]
  simp only [Program.fieldsOf, Try.underlying36]
  go_simp
  cases h1 : (n == n')
  · simp_all
  have h1 := eq_of_beq h1
  subst h1
  simp only [Bool.true_and]
  by_cases h2 : q = q'
  · by_cases h3 : c1 = c1'
    · by_cases h4 : s = s'
      · by_cases h5 : k = k'
        · by_cases h6 : a.toList = a'.toList
          · by_cases h7 : b.toList = b'.toList
            · by_cases h8 : c.toList = c'.toList
              · simp [h2, h3, h4, h5, h6, h7, h8]
              · simp [h2, h3, h4, h5, h6, h7, h8]
            · simp [h2, h3, h4, h5, h6, h7]
          · simp [h2, h3, h4, h5, h6]
        · simp [h2, h3, h4, h5]
      · simp [h2, h3, h4]
    · simp [h2, h3]
  · simp [h2]
/-- An applied entry's cells. -/
def apA (x : Ap) : Array Value := #[.int .i64 x.idx, .int .u8 x.e.kind, .int .i64 x.e.cli, .int .i64 x.e.seq, .int .u8 x.e.op.kind, .string x.e.op.key, .string x.e.op.old, .string x.e.op.val]
def apC (x : Ap) : List Value := (apA x).toList
theorem apC_len (x : Ap) : (apC x).length = 8 := rfl
def aps (l : List Ap) : List Value := l.flatMap apC
/-- A slice of applied entries. -/
structure SlA (w : World) (a : Option Addr) (cap : Nat) (l : List Ap) : Prop where
  row : Row w a (aps l)
  le : l.length ≤ cap
  mx : cap ≤ maxLen
  nil : a = none → cap = 0
theorem SlA.below {w w' : World} {a : Option Addr} {cap : Nat} {l : List Ap} (h : SlA w a cap l) (hb : Below w.heap.size w w') : SlA w' a cap l := ⟨h.row.below0 hb, h.le, h.mx, h.nil⟩
/-- Lists of applied entries that lie in a row. -/
abbrev PartA := Option Addr × Nat × List Ap
def partA (x : PartA) : Value := .slice x.1 x.2.2.length x.2.1
structure PartsA (w : World) (a : Option Addr) (ls : List PartA) : Prop where
  row : Row w a (ls.map partA)
  each : ∀ x ∈ ls, SlA w x.1 x.2.1 x.2.2
theorem PartsA.below {w w' : World} {a : Option Addr} {ls : List PartA} (h : PartsA w a ls) (hb : Below w.heap.size w w') : PartsA w' a ls := ⟨h.row.below0 hb, fun x hx => (h.each x hx).below hb⟩
/-- The lists that they hold. -/
def lstA (ls : List PartA) : List (List Ap) := ls.map (·.2.2)
end Go.Proofs.Ytkkoookmnnmiiaa

namespace Go.Proofs.Ytkkoookmnnmiiaa
open Go.RowKit

theorem eqE_lit (a b : En) : (a.kind == b.kind && a.cli == b.cli && a.seq == b.seq && (a.op.kind == b.op.kind && a.op.key.toList == b.op.key.toList && a.op.old.toList == b.op.old.toList && a.op.val.toList == b.op.val.toList)) = eqE a b := by
  unfold eqE
  simp only [Bool.and_assoc]
set_option maxRecDepth 100000 in
theorem jnone_any (e : En) (w : World) : Calls Try.prog 30 #[.agg (enA e)] w fun en w' => en = .returned (.bool (noneE e)) ∧ Below w.heap.size w w' := by
  have hz : noneE e = eqE e zeroE := rfl
  rw [hz, ← eqE_lit]
  obtain ⟨kd, cl, sq, ⟨ok, key, old, val⟩⟩ := e
  have hempty : (⟨#[]⟩ : Tx).toList = [] := by decide +kernel
  unfold enA zeroE
  simp only [hempty]
  obtain ⟨r, hr⟩ : ∃ r, (kd == 0 && cl == 0 && sq == 0 && (ok == 0 && key.toList == [] && old.toList == [] && val.toList == [])) = r := ⟨_, rfl⟩
  rw [hr]
  have HR := Lib.hid hr
  clear hz hempty hr
  go_enter Try.func30, Try.ntmps30
  go_wp2
  all_goals
    go_ret
    exact ⟨ret_bool (by rw [← HR.out]; simp [*]), by (repeat' (first | (with_reducible exact Below.refl _ _) | (with_reducible assumption) | (with_reducible refine Below.alloc ?_ ?_ _) | (with_reducible refine Below.drew ?_) | (with_reducible refine below_drewN ?_ _) | (with_reducible refine Below.setCell ?_ ?_ _) | (with_reducible refine Below.trans ?_ (by assumption)) | go_size))⟩
end Go.Proofs.Ytkkoookmnnmiiaa

namespace Go.Proofs.Ytkkoookmnnmiiaa
open Go.RowKit

theorem calls_marks {P : Program} {f : FuncId} {fn : Func} {c : Code} {args : Array Value} {w : World} {R : Ending → World → Prop} (hf : P.funcs[f]? = some fn) (hb : fn.body = some c)
    (h : c.wp P (bodyPostM Fence.wide 3 P fn R) { tmps := args ++ Array.replicate (fn.ntmps - args.size) undef, defers := [] } w) : Calls P f args w R :=
  callsIn_wide.1 (callsIn_of_wp_marks (F := Fence.wide) (n := 3) hf hb trivial (wpIn_wide.2 h))
theorem wp_range {α : Type} {P : Program} {g : Operand} {ps : Array Tmp} {assign body : Code} {Q : Exit → Act → World → Prop} {a : Act} {w : World}
    {gf : Nat} {lb : Array Value} (hg : a.eval g = .func (.func gf) #[] lb) (eg : ∀ args w, (callFunc gf args).run P w = .ok (.enter gf args) w)
    {encs : α → Array Value} {Kp : World → World → Prop} {S Sp : List α → Prop} {N : Nat} (hseq : SeqStopsK Fence.wide 2 P gf lb encs Kp S Sp N w)
    (hKt : ∀ {A B C : World}, Kp A B → Kp B C → Kp A C) (hKb : ∀ (W : World) (l : Nat) (o o' : Obj), w.heap.size ≤ l → W.heap[l]? = some o → o.isCells = false → o.isWalk = false → Kp W (W.putObj l o')) (hps : ∀ x, (encs x).size = ps.size)
    (I : List α → World → Prop) (Ix : Code → List α → World → Prop) (hI : OwnFrom w.heap.size I) (hIx : ∀ c, OwnFrom w.heap.size (Ix c)) (h0 : I [] w) (a₁ : α → Act)
    (hassign : ∀ (l : Nat) (x : α) (W : World) (K : Act → World → Prop), K (a₁ x) W →
      assign.wpIn (Fence.wide.inRound l) (3 - 1 - 1) P (Exit.then K (fun _ _ _ => False)) { tmps := (ps.zip (encs x)).foldl (fun t (p, v) => t.setIfInBounds p v) a.tmps, defers := [] } W)
    (hbody : ∀ (l : Nat) (pre : List α) (x : α) (W : World), I pre W → pre.length < N → body.wpIn (Fence.wide.inRound l) (3 - 1 - 1) P (ownPostG w.heap.size Kp I Ix (pre ++ [x]) W) (a₁ x) W)
    (hdone : ∀ (D : Nat) (xs : List α) (W : World), w.heap.size ≤ D → S xs → I xs W → W.heap[D]? = some (.deferred (some [])) → Q .normal { a with defers := { target := .collected D, args := #[] } :: a.defers } W)
    (hstop : ∀ (D : Nat) (c : Code) (pre : List α) (W : World), w.heap.size ≤ D → Sp pre → Ix c pre W → W.heap[D]? = some (.deferred (some [])) → c.wp P Q { a with defers := { target := .collected D, args := #[] } :: a.defers } W) :
    (Code.rangeFunc g ps assign body).wp P Q a w :=
  wpIn_wide.1 (wpIn_rangeFunc_ownG (F := Fence.wide) (n := 3) rfl (by decide) hg trivial eg hseq hKt hKb (Below.refl _ _) hps I Ix hI hIx h0 a₁ hassign hbody hdone (fun D c pre W h1 h2 h3 h4 => wpIn_wide.2 (hstop D c pre W h1 h2 h3 h4)))
/-- A range that hands its loop no variable. -/
theorem wp_range_skip {α : Type} {P : Program} {g : Operand} {ps : Array Tmp} {body : Code} {Q : Exit → Act → World → Prop} {a : Act} {w : World}
    {gf : Nat} {lb : Array Value} (hg : a.eval g = .func (.func gf) #[] lb) (eg : ∀ args w, (callFunc gf args).run P w = .ok (.enter gf args) w)
    {encs : α → Array Value} {Kp : World → World → Prop} {S Sp : List α → Prop} {N : Nat} (hseq : SeqStopsK Fence.wide 2 P gf lb encs Kp S Sp N w)
    (hKt : ∀ {A B C : World}, Kp A B → Kp B C → Kp A C) (hKb : ∀ (W : World) (l : Nat) (o o' : Obj), w.heap.size ≤ l → W.heap[l]? = some o → o.isCells = false → o.isWalk = false → Kp W (W.putObj l o')) (hps : ∀ x, (encs x).size = ps.size)
    (I : List α → World → Prop) (Ix : Code → List α → World → Prop) (hI : OwnFrom w.heap.size I) (hIx : ∀ c, OwnFrom w.heap.size (Ix c)) (h0 : I [] w)
    (hbody : ∀ (l : Nat) (pre : List α) (x : α) (W : World), I pre W → pre.length < N → body.wpIn (Fence.wide.inRound l) (3 - 1 - 1) P (ownPostG w.heap.size Kp I Ix (pre ++ [x]) W) { tmps := (ps.zip (encs x)).foldl (fun t (p, v) => t.setIfInBounds p v) a.tmps, defers := [] } W)
    (hdone : ∀ (D : Nat) (xs : List α) (W : World), w.heap.size ≤ D → S xs → I xs W → W.heap[D]? = some (.deferred (some [])) → Q .normal { a with defers := { target := .collected D, args := #[] } :: a.defers } W)
    (hstop : ∀ (D : Nat) (c : Code) (pre : List α) (W : World), w.heap.size ≤ D → Sp pre → Ix c pre W → W.heap[D]? = some (.deferred (some [])) → c.wp P Q { a with defers := { target := .collected D, args := #[] } :: a.defers } W) :
    (Code.rangeFunc g ps .skip body).wp P Q a w :=
  wp_range hg eg hseq hKt hKb hps I Ix hI hIx h0 (fun x => { tmps := (ps.zip (encs x)).foldl (fun t (p, v) => t.setIfInBounds p v) a.tmps, defers := [] }) (fun _ _ _ _ hK => wpIn_skip hK) hbody hdone hstop
/-- What a round keeps: whatever lay below n, and four boxes from m on. -/
structure KpH (n m : Nat) (W W' : World) : Prop where
  bl : Below n W W'
  bx : ∀ k, m ≤ k → k < m + 4 → W'.heap[k]? = W.heap[k]?
theorem KpH.trans {n m : Nat} {A B C : World} (h : KpH n m A B) (k : KpH n m B C) : KpH n m A C := ⟨h.bl.trans k.bl, fun i h1 h2 => (k.bx i h1 h2).trans (h.bx i h1 h2)⟩
theorem KpH.put {n m : Nat} {w : World} (hn : n ≤ w.heap.size) (hm : m + 4 ≤ w.heap.size) (W : World) (l : Nat) (o o' : Obj) (hl : w.heap.size ≤ l) (h : W.heap[l]? = some o) (h1 : o.isCells = false) (h2 : o.isWalk = false) : KpH n m W (W.putObj l o') :=
  ⟨belowK_b hn W l o o' hl h h1 h2, fun k _ hk => (grownBy_putObj' W l o').block k (by have := (Array.getElem?_eq_some_iff.1 h).1; omega) (fun e => by cases e; omega)⟩
theorem KpH.below {n m : Nat} {W W' : World} (h : Below W.heap.size W W') (hn : n ≤ W.heap.size) (hm : m + 4 ≤ W.heap.size) : KpH n m W W' := ⟨h.mono hn, fun k _ hk => h.block k (by omega)⟩
theorem gb_none {w w' : World} (h : Below w.heap.size w w') : w.grownBy w' none := ⟨h.os, h.tape, h.output, h.size, fun i hi _ => h.block i hi⟩
theorem abides_bl {β : Type} {B : Nat} {J : β → World → Prop} (hJ : AbidesFrom B J) {s : β} {w w' : World} (hs : J s w) (h : Below w.heap.size w w') : J s w' := hJ s w w' none hs (gb_none h) (fun r e => by cases e)
theorem marks_ret {P : Program} {fn : Func} {R : Ending → World → Prop} {tmps : Array Value} {D : Nat} {v : Value} {w : World} (hK : w.heap[D]? = some (.deferred (some []))) (hres : (results fn tmps).run P (w.putObj D (.deferred none)) = .ok v (w.putObj D (.deferred none)))
    (hR : R (.returned v) (w.putObj D (.deferred none))) : bodyPostM Fence.wide 3 P fn R .ret { tmps := tmps, defers := [{ target := .collected D, args := #[] }] } w :=
  ⟨by simp, .inl ⟨_, _, rfl, run_takeDeferred hK, v, hres, hR⟩⟩
theorem marks_end {P : Program} {fn : Func} {R : Ending → World → Prop} {tmps : Array Value} {v : Value} {w : World} (hres : (results fn tmps).run P w = .ok v w) (hR : R (.returned v) w) : bodyPostM Fence.wide 3 P fn R .ret { tmps := tmps, defers := [] } w := ⟨v, hres, hR⟩
theorem below_mark {n D : Nat} {w W : World} (h : Below n w W) (hD : n ≤ D) : Below n w (W.putObj D (.deferred none)) :=
  h.trans ⟨rfl, rfl, rfl, by simp [World.putObj], fun k hk => World.putObj_heap_other (by omega)⟩
end Go.Proofs.Ytkkoookmnnmiiaa

namespace Go.Proofs.Ytkkoookmnnmiiaa
open Go.RowKit

/-- What a round keeps: whatever lay below n, and the iterator's own box. -/
structure KpB (n m : Nat) (A B : World) : Prop where
  bl : Below n A B
  bx : B.heap[m]? = A.heap[m]?
theorem KpB.trans {n m : Nat} {A B C : World} (h : KpB n m A B) (k : KpB n m B C) : KpB n m A C := ⟨h.bl.trans k.bl, k.bx.trans h.bx⟩
theorem KpB.put {n m : Nat} {W : World} {l : Nat} {o : Obj} (o' : Obj) (hn : n ≤ l) (hm : m < l) (h : W.heap[l]? = some o) : KpB n m W (W.putObj l o') := by
  have hl := (Array.getElem?_eq_some_iff.1 h).1
  exact ⟨(Below.refl n W).grown (grownBy_putObj' W l o') (by omega) (fun k e => by cases e; exact hn), (grownBy_putObj' W l o').block m (by omega) (fun e => by cases e; omega)⟩
/-- What a loop carries abides what the iterator does, and the book-keeping. -/
def Carry {α : Type} (B m : Nat) (I : List α → World → Prop) : Prop :=
  ∀ s A B' row, I s A → A.grownBy B' row → (∀ r, row = some r → r = m ∨ (B ≤ r ∧ ∃ o : Obj, A.heap[r]? = some o ∧ o.isCells = false)) → I s B'
theorem Carry.put {α : Type} {B m l : Nat} {I : List α → World → Prop} (h : Carry B m I) {s : List α} {W : World} {o : Obj} (o' : Obj) (hs : I s W) (hB : B ≤ l) (hl : W.heap[l]? = some o) (ho : o.isCells = false) : I s (W.putObj l o') :=
  h s W _ (some l) hs (grownBy_putObj' W l o') (fun r e => by cases e; exact .inr ⟨hB, o, hl, ho⟩)
theorem Carry.al {α : Type} {B m : Nat} {I : List α → World → Prop} (h : Carry B m I) {s : List α} {W : World} (o : Obj) (hs : I s W) : I s (W.alloc o) :=
  h s W _ none hs (World.grownBy_alloc W o none) (fun r e => by cases e)
theorem grown_at {A B : World} {row : Option Nat} {m k : Nat} {o : Obj} (hg : A.grownBy B row) (hr : ∀ r, row = some r → r = m) (hk : A.heap[k]? = some o) (hne : k ≠ m) : B.heap[k]? = some o :=
  (hg.block k (Array.getElem?_eq_some_iff.1 hk).1 (fun e => hne (hr k e.symm))).trans hk
theorem wp_range_box {α : Type} {P : Program} {g : Operand} {ps : Array Tmp} {assign body : Code} {Q : Exit → Act → World → Prop} {a : Act} {w : World}
    {gf : Nat} {lb : Array Value} (hg : a.eval g = .func (.func gf) #[] lb) (eg : ∀ args w, (callFunc gf args).run P w = .ok (.enter gf args) w)
    {encs : α → Array Value} {n m N : Nat} {S : List α → Prop} (hm : m < w.heap.size) (hn : n ≤ w.heap.size)
    (hseq : ∀ (l : Nat) (J : List α → World → Prop) (W : World), Below w.heap.size w W → (∀ s A B row, J s A → A.grownBy B row → (∀ r, row = some r → r = m) → J s B) →
      (∀ pre x W1, J pre W1 → pre.length < N → YieldAt Fence.wide 1 P l (encs x) W1 fun e W' => e = .returned (.bool true) ∧ J (pre ++ [x]) W' ∧ KpB n m W1 W') → J [] W →
      CallsIn Fence.wide 2 P gf (#[.func (.yield l) #[] #[]] ++ lb) W fun e W' => (∃ v, e = .returned v) ∧ ∃ xs, S xs ∧ J xs W')
    (hps : ∀ x, (encs x).size = ps.size) (I : List α → World → Prop) (hI : Carry w.heap.size m I) (h0 : I [] w) (a₁ : α → Act)
    (hassign : ∀ (l : Nat) (x : α) (W : World) (K : Act → World → Prop), K (a₁ x) W →
      assign.wpIn (Fence.wide.inRound l) 1 P (Exit.then K (fun _ _ _ => False)) { tmps := (ps.zip (encs x)).foldl (fun t (p, v) => t.setIfInBounds p v) a.tmps, defers := [] } W)
    (hbody : ∀ (l : Nat) (pre : List α) (x : α) (W : World), I pre W → pre.length < N → body.wpIn (Fence.wide.inRound l) 1 P (fun e _ W' => e = .normal ∧ KeepsFrom w.heap.size W W' ∧ KpB n m W W' ∧ I (pre ++ [x]) W') (a₁ x) W)
    (hdone : ∀ (D : Nat) (xs : List α) (W : World), w.heap.size ≤ D → S xs → I xs W → W.heap[D]? = some (.deferred (some [])) → Q .normal { a with defers := { target := .collected D, args := #[] } :: a.defers } W) :
    (Code.rangeFunc g ps assign body).wp P Q a w := by
  refine wpIn_wide.1 (wpIn_rangeFunc (F := Fence.wide) (n := 3) (fun fn hfn => ?_))
  obtain ⟨rec, hrec⟩ : ∃ rec : LoopState → Loop, rec = fun st => { state := st, pending := none, fn, tmps := a.tmps, params := ps, assign, body, defers := w.heap.size } := ⟨_, rfl⟩
  obtain ⟨D, hD⟩ : ∃ D, w.heap.size = D := ⟨_, rfl⟩
  have he := run_enterLoop_outer (P := P) (w := w) fn a.tmps ps assign body
  obtain ⟨W1, hW1⟩ : ∃ W1, (w.alloc (.deferred (some []))).alloc (.loop { state := .ready, pending := none, fn, tmps := a.tmps, params := ps, assign, body, defers := w.heap.size }) = W1 := ⟨_, rfl⟩
  rw [hW1] at he
  have hL1 : W1.heap[D + 1]? = some (.loop (rec .ready)) := by
    rw [← hW1, hrec]
    have := World.alloc_heap_new (w.alloc (.deferred (some []))) (.loop { state := .ready, pending := none, fn, tmps := a.tmps, params := ps, assign, body, defers := w.heap.size })
    rw [World.size_alloc, hD] at this
    rw [hD]
    exact this
  have hK1 : W1.heap[D]? = some (.deferred (some [])) := by
    rw [← hW1, ← hD]
    exact (Below.heap_alloc _ _ _ (by simp)).trans (World.alloc_heap_new w _)
  have hI1 : I [] W1 := by rw [← hW1]; exact hI.al _ (hI.al _ h0)
  have hb1 : Below w.heap.size w W1 := by
    rw [← hW1]
    exact ((Below.refl _ w).alloc (Nat.le_refl _) _).alloc (by simp) _
  rw [hD] at he
  refine ⟨D + 1, [{ target := .collected D, args := #[] }], W1, { target := .fn (.func gf) lb, args := #[.func (.yield (D + 1)) #[] #[]] }, W1, gf, #[.func (.yield (D + 1)) #[] #[]] ++ lb, W1, he, ?_, fun _ _ => trivial, ?_, fun _ => by decide, ?_⟩
  · simp only [resolve, hg]
    simp [go_sem]
  · simp [invoke, go_sem, eg]
  · refine (hseq (D + 1) (fun pre W => I pre W ∧ W.heap[D + 1]? = some (.loop (rec .ready)) ∧ W.heap[D]? = some (.deferred (some []))) W1 hb1 ?_ ?_ ⟨hI1, hL1, hK1⟩).mono ?_
    · rintro s A B row ⟨h1, h2, h3⟩ hgr hr
      exact ⟨hI s A B row h1 hgr (fun r e => .inl (hr r e)), grown_at hgr hr h2 (by omega), grown_at hgr hr h3 (by omega)⟩
    · rintro pre x W ⟨hi, hl, hk⟩ hlen
      have hy := run_yield (P := P) (args := encs x) hl (by rw [hrec]; exact hps x)
      rw [hrec] at hy
      refine ⟨fn, _, assign, body, hy, roundIn_of_wpIn hfn (hassign _ x W _ ?_)⟩
      refine ⟨_, run_beginRound hl (by rw [hrec]), ?_⟩
      have hlt := (Array.getElem?_eq_some_iff.1 hl).1
      have hl2 : (W.putObj (D + 1) (.loop { rec .ready with state := .busy })).heap[D + 1]? = some (.loop { rec .ready with state := .busy }) := World.putObj_heap_same hlt
      have hk2 : (W.putObj (D + 1) (.loop { rec .ready with state := .busy })).heap[D]? = some (.deferred (some [])) := (World.putObj_heap_other (by omega)).trans hk
      have hp2 : KpB n m W (W.putObj (D + 1) (.loop { rec .ready with state := .busy })) := KpB.put _ (by omega) (by omega) hl
      refine wpIn_mono (hbody _ pre x _ (hI.put _ hi (by omega) hl rfl) hlen) ?_
      rintro e a3 W3 ⟨rfl, hk3, hkp3, hi3⟩
      have hl3 := hk3.same _ _ (by omega) hl2 rfl
      have hd3 := hk3.same _ _ (by omega) hk2 rfl
      have hr := run_endRound (P := P) none hl3
      rw [hrec] at hr hl3
      refine ⟨_, _, hr, rfl, ⟨hI.put _ hi3 (by omega) hl3 rfl, ?_, (World.putObj_heap_other (by omega)).trans hd3⟩, (hp2.trans hkp3).trans (KpB.put _ (by omega) (by omega) hl3)⟩
      rw [hrec]
      exact World.putObj_heap_same (Array.getElem?_eq_some_iff.1 hl3).1
    · rintro e W2 ⟨⟨v, rfl⟩, xs, hS, hi, hl, hk⟩
      refine ⟨none, _, by have := run_endLoop (P := P) hl (by rw [hrec]; simp); rw [hrec] at this; exact this, ?_⟩
      exact hdone D xs _ (by omega) hS (hI.put _ hi (by omega) hl rfl) ((World.putObj_heap_other (by omega)).trans hk)
end Go.Proofs.Ytkkoookmnnmiiaa

namespace Go.Proofs.Ytkkoookmnnmiiaa
open Go.RowKit

theorem wp_range_h {α : Type} {P : Program} {g : Operand} {ps : Array Tmp} {assign body : Code} {Q : Exit → Act → World → Prop} {a : Act} {w : World}
    {gf : Nat} {lb : Array Value} (hg : a.eval g = .func (.func gf) #[] lb) (eg : ∀ args w, (callFunc gf args).run P w = .ok (.enter gf args) w)
    {encs : α → Array Value} {Kp : World → World → Prop} {S Sp : List α → Prop} {N : Nat} (hseq : SeqStopsK Fence.wide 2 P gf lb encs Kp S Sp N w)
    (hKt : ∀ {A B C : World}, Kp A B → Kp B C → Kp A C) (hKb : ∀ (W : World) (l : Nat) (o o' : Obj), w.heap.size ≤ l → W.heap[l]? = some o → o.isCells = false → o.isWalk = false → Kp W (W.putObj l o')) (hps : ∀ x, (encs x).size = ps.size)
    (I : List α → World → Prop) (Ix : Code → List α → World → Prop) (hI : OwnFrom w.heap.size I) (hIx : ∀ c, OwnFrom w.heap.size (Ix c)) (h0 : I [] w) (Ax : α → Act → World → Prop) (hAx : ∀ x a', OwnFrom w.heap.size (fun (_ : Unit) W => Ax x a' W))
    (hassign : ∀ (l : Nat) (pre : List α) (x : α) (W : World) (K : Act → World → Prop), I pre W → (∀ a' W', KeepsFrom w.heap.size W W' → Kp W W' → I pre W' → Ax x a' W' → K a' W') →
      assign.wpIn (Fence.wide.inRound l) (3 - 1 - 1) P (Exit.then K (fun _ _ _ => False)) { tmps := (ps.zip (encs x)).foldl (fun t (p, v) => t.setIfInBounds p v) a.tmps, defers := [] } W)
    (hbody : ∀ (l : Nat) (pre : List α) (x : α) (a' : Act) (W : World), I pre W → Ax x a' W → pre.length < N → body.wpIn (Fence.wide.inRound l) (3 - 1 - 1) P (ownPostG w.heap.size Kp I Ix (pre ++ [x]) W) a' W)
    (hdone : ∀ (D : Nat) (xs : List α) (W : World), w.heap.size ≤ D → S xs → I xs W → W.heap[D]? = some (.deferred (some [])) → Q .normal { a with defers := { target := .collected D, args := #[] } :: a.defers } W)
    (hstop : ∀ (D : Nat) (c : Code) (pre : List α) (W : World), w.heap.size ≤ D → Sp pre → Ix c pre W → W.heap[D]? = some (.deferred (some [])) → c.wp P Q { a with defers := { target := .collected D, args := #[] } :: a.defers } W) :
    (Code.rangeFunc g ps assign body).wp P Q a w :=
  wpIn_wide.1 (wpIn_rangeFunc_ownH (F := Fence.wide) (n := 3) rfl (by decide) hg trivial eg hseq hKt hKb (Below.refl _ _) hps I Ix hI hIx h0 Ax hAx hassign (fun l pre x a' W _ _ h1 h2 h3 => hbody l pre x a' W h1 h2 h3) hdone (fun D c pre W h1 h2 h3 h4 => wpIn_wide.2 (hstop D c pre W h1 h2 h3 h4)))
theorem KpB.put2 {n m : Nat} {w : World} (hn : n ≤ w.heap.size) (hm : m < w.heap.size) (W : World) (l : Nat) (o o' : Obj) (hl : w.heap.size ≤ l) (h : W.heap[l]? = some o) (_ : o.isCells = false) (_ : o.isWalk = false) : KpB n m W (W.putObj l o') := KpB.put o' (by omega) (by omega) h
theorem KpB.below {n m : Nat} {W W' : World} (h : Below W.heap.size W W') (hn : n ≤ W.heap.size) (hm : m < W.heap.size) : KpB n m W W' := ⟨h.mono hn, h.block m hm⟩
theorem KpB.refl (n m : Nat) (W : World) : KpB n m W W := ⟨Below.refl _ _, rfl⟩
end Go.Proofs.Ytkkoookmnnmiiaa

namespace Go.Proofs.Ytkkoookmnnmiiaa
open Go.RowKit Go.Shelf

set_option maxRecDepth 100000 in
theorem jall_any (a : Option Addr) (n cap : Nat) (w : World) : Calls Try.prog 46 #[.slice a n cap] w fun e w' => e = .returned (.func (.func 60) #[] #[.pointer (some ⟨w.heap.size, 0, none⟩)]) ∧ w' = w.alloc (.cells #[.slice a n cap] 26) := by
  go_enter Try.func46, Try.ntmps46
  go_wp2
  go_ret
  exact ⟨rfl, rfl⟩
theorem ap_cells {w : World} {a : Option Addr} {l : List Ap} (h : Row w a (aps l)) {j : Nat} (hj : j < l.length) : ∃ b off, a = some ⟨b, off, none⟩ ∧ b < w.heap.size ∧ w.cell? ⟨b, off + j * 8, none⟩ = some (.int .i64 l[j].idx) ∧ w.cell? ⟨b, off + j * 8 + 1, none⟩ = some (.int .u8 l[j].e.kind) ∧ w.cell? ⟨b, off + j * 8 + 2, none⟩ = some (.int .i64 l[j].e.cli) ∧ w.cell? ⟨b, off + j * 8 + 3, none⟩ = some (.int .i64 l[j].e.seq) ∧ w.cell? ⟨b, off + j * 8 + 4, none⟩ = some (.int .u8 l[j].e.op.kind) ∧ w.cell? ⟨b, off + j * 8 + 5, none⟩ = some (.string l[j].e.op.key) ∧ w.cell? ⟨b, off + j * 8 + 6, none⟩ = some (.string l[j].e.op.old) ∧ w.cell? ⟨b, off + j * 8 + 7, none⟩ = some (.string l[j].e.op.val) := by
  obtain ⟨b, off, e, hb, c0, c⟩ := Row.flat0 apC_len (by decide) h (List.getElem?_eq_getElem hj)
  exact ⟨b, off, e, hb, c0 _ rfl, c 1 _ rfl, c 2 _ rfl, c 3 _ rfl, c 4 _ rfl, c 5 _ rfl, c 6 _ rfl, c 7 _ rfl⟩
/-- An applied entry whose index is a number of the kind. -/
def okI (x : Ap) : Prop := (Lit.int .i64 x.idx).wf = true
instance (x : Ap) : Decidable (okI x) := inferInstanceAs (Decidable ((Lit.int .i64 x.idx).wf = true))
def fixI (x : Ap) : Ap := if okI x then x else ⟨0, x.e⟩
theorem fixI_of {x : Ap} (h : okI x) : fixI x = x := if_pos h
theorem fixI_ok (x : Ap) : okI (fixI x) := by
  unfold fixI
  split
  · assumption
  · show (Lit.int .i64 0).wf = true
    decide
theorem flat_take {ls : List (List Ap)} {k : Nat} (h : k < ls.length) : flatJ (ls.take (k + 1)) = flatJ (ls.take k) ++ ls[k].filter (fun x => !noneE x.e) := by
  rw [List.take_succ_eq_append_getElem h, flat_snoc]
theorem filt_take {l : List Ap} {j : Nat} (h : j < l.length) : (l.take (j + 1)).filter (fun x => !noneE x.e) = (l.take j).filter (fun x => !noneE x.e) ++ (if noneE l[j].e = true then [] else [l[j]]) := by
  rw [List.take_succ_eq_append_getElem h, List.filter_append, List.filter_cons]
  cases noneE l[j].e <;> simp
theorem pre_len {ls : List (List Ap)} {k j : Nat} {xl : List Ap} (h : flatJ (ls.take (k + 1)) = flatJ (ls.take k) ++ xl.filter (fun x => !noneE x.e)) : (flatJ (ls.take k) ++ (xl.take j).filter (fun x => !noneE x.e)).length ≤ ls.flatten.length := by
  have h1 : ((xl.take j).filter (fun x => !noneE x.e)).length ≤ (xl.filter (fun x => !noneE x.e)).length := filter_le _ xl j
  have h2 : (flatJ (ls.take (k + 1))).length ≤ (flatJ ls).length := by
    have e : flatJ ls = flatJ (ls.take (k + 1)) ++ flatJ (ls.drop (k + 1)) := by
      unfold flatJ
      rw [← List.filter_append, ← List.flatten_append, List.take_append_drop]
    rw [e, List.length_append]
    omega
  have h3 : (flatJ ls).length ≤ ls.flatten.length := List.length_filter_le _ _
  rw [h, List.length_append] at h2
  rw [List.length_append]
  omega
theorem flat_len_le (ls : List (List Ap)) : (flatJ ls).length ≤ ls.flatten.length := List.length_filter_le _ _
section
variable {wc : World} {a : Option Addr} {ls : List PartA}
set_option maxRecDepth 100000 in
set_option maxHeartbeats 2000000 in
theorem jall_in (h : PartsA wc a ls) (cap m l : Nat) (hlen : ls.length ≤ 1000000) (hlen2 : ∀ x ∈ ls, x.2.2.length ≤ 1000000) (hok : ∀ x ∈ ls, ∀ y ∈ x.2.2, okI y) (J Jx : List Ap → World → Prop) (W : World) (hm : wc.heap.size ≤ m) (hm2 : m < W.heap.size) (hB : Below wc.heap.size wc W) (hq : W.cell? ⟨m, 0, none⟩ = some (.slice a ls.length cap)) (hJ : AbidesFrom W.heap.size J)
    (hY : ∀ pre x W1, J pre W1 → pre.length < (lstA ls).flatten.length + 1 → YieldAt Fence.wide 1 Try.prog l #[.agg (apA (fixI x))] W1 fun e W' => (e = .returned (.bool true) ∧ J (pre ++ [x]) W' ∧ KpB wc.heap.size m W1 W') ∨ (e = .returned (.bool false) ∧ Jx (pre ++ [x]) W')) (h0 : J [] W) :
    CallsIn Fence.wide 2 Try.prog 60 (#[.func (.yield l) #[] #[]] ++ #[.pointer (some ⟨m, 0, none⟩)]) W fun e W' => (∃ v, e = .returned v) ∧ ((∃ xs, xs = flatJ (lstA ls) ∧ J xs W') ∨ (∃ pre, True ∧ Jx pre W')) := by
  refine callsIn_of_wp Try.func60 rfl trivial ?_ rfl
  simp only [Try.ntmps60, List.size_toArray, List.length_cons, List.length_nil, Nat.reduceAdd, Nat.reduceSub, Array.replicate_succ, Array.replicate_zero, List.push_toArray, List.append_toArray, List.nil_append, List.cons_append]
  have HN := Lib.hid (fun k (hk : k < (lstA ls).length) => flat_take hk)
  have HY := Lib.hid hY
  clear hY
  gi_wp2
  gi_loopw [9, 4, 6] (fun i _ _ wr => ∃ k : Nat, k ≤ ls.length ∧ i = .int .i64 k ∧ J (flatJ ((lstA ls).take k)) wr ∧ KpB wc.heap.size m W wr) (fun i _ _ _ => ls.length - (Go.RowKit.intOf i).toNat)
  case atStart => exact ⟨0, by omega, rfl, h0, KpB.refl _ _ _⟩
  case round =>
    obtain ⟨k, hk, rfl, hJs, hKr⟩ := hrel
    by_cases hlt : k < ls.length
    · have hP := h.below (hB.trans hKr.bl)
      obtain ⟨rb, ro, rfl, hcs⟩ := hP.row.at (k := k) (by rw [List.length_map]; exact hlt)
      have hck := hcs k (partA ls[k]) (by rw [List.getElem?_map, List.getElem?_eq_getElem hlt]; rfl)
      have hxs := h.each _ (List.getElem_mem hlt)
      have hx1 := hlen2 _ (List.getElem_mem hlt)
      have hox := hok _ (List.getElem_mem hlt)
      have hfl : flatJ ((lstA ls).take (k + 1)) = flatJ ((lstA ls).take k) ++ ls[k].2.2.filter (fun x => !noneE x.e) := by
        have := HN.out k (by unfold lstA; rw [List.length_map]; exact hlt)
        rw [this]
        unfold lstA
        rw [List.getElem_map]
      have HFL := Lib.hid hfl
      clear hcs hP hfl
      generalize ls[k] = x at *
      obtain ⟨xa, xc, xl⟩ := x
      simp only at hxs hx1 HFL hox
      have hck2 : _ = some (Value.slice xa xl.length xc) := hck
      clear hck
      gi_wp2
      gi_loopw [15, 6] (fun i _ wr2 => ∃ j : Nat, j ≤ xl.length ∧ i = .int .i64 j ∧ J (flatJ ((lstA ls).take k) ++ (xl.take j).filter (fun x => !noneE x.e)) wr2 ∧ KpB wc.heap.size m W wr2) (fun i _ _ => xl.length - (Go.RowKit.intOf i).toNat)
      case atStart => exact ⟨0, by omega, rfl, by simpa using hJs, hKr⟩
      case round =>
        clear hJs hKr hck2
        obtain ⟨j, hj, rfl, hJs, hKr⟩ := hrel
        by_cases hlt2 : j < xl.length
        · obtain ⟨b2, o2, rfl, hb2, c0, c1, c2, c3, c4, c5, c6, c7⟩ := ap_cells (hxs.below (hB.trans hKr.bl)).row hlt2
          have hoy := hox _ (List.getElem_mem hlt2)
          have hft := filt_take hlt2
          have hpl := pre_len (ls := lstA ls) (k := k) (j := j) HFL.out
          have hHY := fun W1 hj => HY.out _ xl[j] W1 hj (Nat.lt_succ_of_le hpl)
          have hno := fun w => jnone_any xl[j].e w
          rw [fixI_of hoy] at hHY
          have HFT := Lib.hid hft
          have HHY := Lib.hid hHY
          have HNO := Lib.hid hno
          obtain ⟨bn, hn⟩ : ∃ bn, noneE xl[j].e = bn := ⟨_, rfl⟩
          have HN2 := Lib.hid hn
          clear hft hpl hHY hno hn hoy
          generalize xl[j] = y at *
          obtain ⟨yi, ⟨kd, cl, sq, ⟨ok, key, old, val⟩⟩⟩ := y
          simp only at c0 c1 c2 c3 c4 c5 c6 c7
          have hno2 : ∀ w, Calls Try.prog 30 #[.agg #[.int .u8 kd, .int .i64 cl, .int .i64 sq, .int .u8 ok, .string key, .string old, .string val]] w fun en w' => en = .returned (.bool bn) ∧ Below w.heap.size w w' := fun w => by
            have := HNO.out w
            rw [HN2.out] at this
            exact this
          have HI := Lib.hid (show (j : Int) < (xl.length : Int) by omega)
          have HI1 := Lib.hid (show j + 1 ≤ xl.length by omega)
          have HSZ := Lib.hid (show wc.heap.size ≤ wr.heap.size ∧ m < wr.heap.size by have h1 := hKr.bl.size; have h2 := hB.size; omega)
          have hhy2 : ∀ W1, J (flatJ ((lstA ls).take k) ++ (xl.take j).filter (fun x => !noneE x.e)) W1 → YieldAt Fence.wide 1 Try.prog l #[.agg #[.int .i64 yi, .int .u8 kd, .int .i64 cl, .int .i64 sq, .int .u8 ok, .string key, .string old, .string val]] W1 _ := fun W1 hj => HHY.out W1 hj
          cases bn
          case false =>
            gi_wp2_with (refine ⟨trivial, ?_⟩; gi_at_call 30; refine (callsIn_wide.2 (hno2 _)).mono ?_; rintro e w3 ⟨rfl, hb3⟩; have q3 := tr_bl hb3 (heap_alloc_new wr (Obj.cells #[.int .i64 yi, .int .u8 kd, .int .i64 cl, .int .i64 sq, .int .u8 ok, .string key, .string old, .string val] 36)); have hb03 : Below wr.heap.size wr w3 := (blw wr (Obj.cells #[.int .i64 yi, .int .u8 kd, .int .i64 cl, .int .i64 sq, .int .u8 ok, .string key, .string old, .string val] 36)).trans (hb3.mono (by simp)); have d0 := blk_cell q3 0 _ rfl; have d1 := blk_cell q3 1 _ rfl; have d2 := blk_cell q3 2 _ rfl; have d3 := blk_cell q3 3 _ rfl; have d4 := blk_cell q3 4 _ rfl; have d5 := blk_cell q3 5 _ rfl; have d6 := blk_cell q3 6 _ rfl; have d7 := blk_cell q3 7 _ rfl; obtain ⟨fn, tmps, assign, body, hy, hR⟩ := hhy2 w3 (abides_bl hJ hJs hb03))
            refine hR.mono ?_
            rintro e W3 (⟨rfl, hJ3, hk4⟩ | ⟨rfl, hJx3⟩)
            · gi_wp2
              go_roundw
              case rel => exact ⟨j + 1, HI1.out, by go_num, by rw [HFT.out, if_neg (by rw [HN2.out]; decide), ← List.append_assoc]; exact hJ3, (hKr.trans (KpB.below hb03 HSZ.out.1 HSZ.out.2)).trans hk4⟩
              case measure => have := HI1.out; simp [Go.RowKit.intOf]; omega
            · gi_wp2
              refine bodyPost_ret (results_none rfl _ _ _) rfl ?_
              exact ⟨⟨_, rfl⟩, .inr ⟨_, trivial, hJx3⟩⟩
          case true =>
            gi_wp2_with (refine ⟨trivial, ?_⟩; gi_at_call 30; refine (callsIn_wide.2 (hno2 _)).mono ?_; rintro e w3 ⟨rfl, hb3⟩; have hb03 : Below wr.heap.size wr w3 := (blw wr (Obj.cells #[.int .i64 yi, .int .u8 kd, .int .i64 cl, .int .i64 sq, .int .u8 ok, .string key, .string old, .string val] 36)).trans (hb3.mono (by simp)))
            refine ⟨fun _ h => (by cases h), ?_⟩
            gi_wp2
            go_roundw
            case rel => exact ⟨j + 1, HI1.out, by go_num, by rw [HFT.out, if_pos HN2.out, List.append_nil]; exact abides_bl hJ hJs hb03, hKr.trans (KpB.below hb03 HSZ.out.1 HSZ.out.2)⟩
            case measure => have := HI1.out; simp [Go.RowKit.intOf]; omega
        · obtain rfl : j = xl.length := by omega
          rw [List.take_length] at hJs
          rw [← HFL.out] at hJs
          gi_wp2
          go_roundw
          case rel => exact ⟨k + 1, by omega, by go_num, hJs, hKr⟩
          case measure => simp [Go.RowKit.intOf]; omega
    · obtain rfl : k = ls.length := by omega
      gi_wp2
      go_end0
      refine ⟨⟨_, rfl⟩, .inl ⟨_, rfl, ?_⟩⟩
      have e : (lstA ls).take ls.length = lstA ls := by rw [List.take_of_length_le (by unfold lstA; rw [List.length_map]; exact Nat.le_refl _)]
      rw [e] at hJs
      exact hJs
end
end Go.Proofs.Ytkkoookmnnmiiaa

namespace Go.Proofs.Ytkkoookmnnmiiaa
open Go.Maps

/-- How an element reads: as the entry that it is. -/
def rdE : Value → Option (DataW En × List MemPlace)
  | .agg ⟨[.int .u8 k, .int .i64 c, .int .i64 s, .int .u8 o, .string x, .string y, .string z]⟩ => some (.held ⟨k, c, s, ⟨o, x, y, z⟩⟩, [])
  | _ => none
theorem rdE_mk (e : En) : rdE (.agg (enA e)) = some (.held e, []) := rfl
theorem rdE_inv {v : Value} {e : En} {ps : List MemPlace} (h : rdE v = some (.held e, ps)) : v = .agg (enA e) := by
  unfold rdE at h
  split at h
  · injection h with h
    injection h with h _
    injection h with h
    subst h
    rfl
  · cases h
def keyL (i : Int) : Lit := .int .i64 i
def stepD (D : DataW En) (x : Ap) : DataW En := if has D (keyL x.idx) = true then D else D.put (keyL x.idx) (.held x.e)
def mapJ (f : List Ap) : DataW En := f.foldl stepD (.map [])
theorem mapJ_snoc (f : List Ap) (x : Ap) : mapJ (f ++ [x]) = stepD (mapJ f) x := by
  unfold mapJ
  rw [List.foldl_append]
  rfl
theorem key_lit (i : Int) : WideAt.IsKeyLit (keyL i) := by simp [WideAt.IsKeyLit, keyL]
theorem key_ne {i j : Int} (h : i ≠ j) : keyL i ≠ keyL j := fun e => h (by injection e)
/-- What the map of first entries tells. -/
structure Told (f : List Ap) (D : DataW En) : Prop where
  tidy : Tidy D
  is : ∀ i, has D (keyL i) = (firstJ f i).isSome
  at_ : ∀ i e z, firstJ f i = some e → D.atKey (keyL i) z = .held e
  keys : ∃ es, D = .map es ∧ ∀ p ∈ es, ∃ x, p.1 = .int .i64 x
theorem insert_mem {H : Type} {x p : Lit × DataW H} : ∀ {l : List (Lit × DataW H)}, p ∈ DataW.insert x l → p = x ∨ p ∈ l
  | [], h => by
    unfold DataW.insert at h
    rw [List.mem_singleton] at h
    exact .inl h
  | y :: r, h => by
    unfold DataW.insert at h
    split at h
    · rcases List.mem_cons.1 h with h | h
      · exact .inl h
      · exact .inr h
    · rcases List.mem_cons.1 h with h | h
      · exact .inr (by rw [h]; exact List.mem_cons_self)
      · rcases insert_mem h with h | h
        · exact .inl h
        · exact .inr (List.mem_cons_of_mem _ h)
theorem told_nil : Told [] (.map []) := ⟨tidy_empty, fun i => by simp [firstJ, has], fun i e z h => by simp [firstJ] at h, ⟨[], rfl, fun p hp => by simp at hp⟩⟩
theorem told_snoc {f : List Ap} {D : DataW En} (h : Told f D) (x : Ap) : Told (f ++ [x]) (stepD D x) := by
  unfold stepD
  by_cases hx : has D (keyL x.idx) = true
  · rw [if_pos hx]
    have hs : (firstJ f x.idx).isSome = true := by rw [← h.is]; exact hx
    have he : ∀ i, firstJ (f ++ [x]) i = firstJ f i := fun i => by
      rw [first_snoc]
      cases hi : firstJ f i with
      | some e => rfl
      | none =>
        simp only
        rw [if_neg]
        rintro rfl
        rw [hi] at hs
        cases hs
    exact ⟨h.tidy, fun i => by rw [h.is, he], fun i e z hi => h.at_ i e z (by rw [← he]; exact hi), h.keys⟩
  · rw [if_neg hx]
    have hn : firstJ f x.idx = none := by
      cases hi : firstJ f x.idx with
      | none => rfl
      | some e => exact absurd (by rw [h.is, hi]; rfl) hx
    refine ⟨h.tidy.put (key_lit _) _, fun i => ?_, fun i e z hi => ?_, ?_⟩
    · by_cases hix : i = x.idx
      · subst hix
        rw [has_put_same h.tidy.isMap (key_lit _), first_snoc, hn]
        simp
      · rw [has_put_other (key_ne hix), h.is, first_snoc]
        cases firstJ f i with
        | some e => rfl
        | none => simp [Ne.symm hix]
    · rw [first_snoc] at hi
      by_cases hix : i = x.idx
      · subst hix
        rw [hn] at hi
        simp only [if_true] at hi
        injection hi with hi
        rw [atKey_put_same h.tidy.isMap (key_lit _), hi]
      · rw [atKey_put_other (key_ne hix)]
        refine h.at_ i e z ?_
        cases hf : firstJ f i with
        | some e2 => rw [hf] at hi; exact hi
        | none =>
          rw [hf] at hi
          simp only [if_neg (Ne.symm hix)] at hi
          cases hi
    · obtain ⟨es, rfl, hk⟩ := h.keys
      refine ⟨_, rfl, fun p hp => ?_⟩
      rcases insert_mem hp with rfl | hp
      · exact ⟨_, rfl⟩
      · exact hk p (List.mem_filter.1 hp).1
theorem told_map (f : List Ap) : Told f (mapJ f) := by
  have key : ∀ n, n ≤ f.length → Told (f.take n) (mapJ (f.take n)) := fun n => by
    induction n with
    | zero => intro _; exact told_nil
    | succ n ih =>
      intro hn
      rw [List.take_succ_eq_append_getElem (by omega), mapJ_snoc]
      exact told_snoc (ih (by omega)) _
  have := key f.length (Nat.le_refl _)
  rw [List.take_length] at this
  exact this
theorem rises_nodup {l : List Int} (h : l.Pairwise (· < ·)) : l.Nodup := h.imp fun h e => by omega
/-- The map's keys are the indices. -/
theorem Told.perm {f : List Ap} {D : DataW En} (h : Told f D) : (keysJ f).Perm (intKeys D) := by
  obtain ⟨es, e, hk⟩ := h.keys
  subst e
  obtain ⟨es2, e2, hp⟩ := h.tidy
  injection e2 with e2
  subst e2
  refine perm_intKeys hp hk (rises_nodup (keys_rises f)) fun x => ?_
  rw [show (Lit.int .i64 x) = keyL x from rfl, h.is, first_key]
theorem Told.sorted {f : List Ap} {D : DataW En} (h : Told f D) {ss : List Int} (hs : ss.Perm (intKeys D)) : ss.mergeSort (fun x y => decide (x ≤ y)) = keysJ f := by
  have hp : ss.Perm (keysJ f) := hs.trans h.perm.symm
  have tr : ∀ a b c : Int, decide (a ≤ b) = true → decide (b ≤ c) = true → decide (a ≤ c) = true := fun a b c h1 h2 => by simp only [decide_eq_true_eq] at *; omega
  have tot : ∀ a b : Int, (decide (a ≤ b) || decide (b ≤ a)) = true := fun a b => by simp only [Bool.or_eq_true, decide_eq_true_eq]; omega
  refine List.Perm.eq_of_pairwise (le := fun a b => decide (a ≤ b) = true) (fun a b _ _ h1 h2 => ?_) (List.pairwise_mergeSort tr tot ss) ((keys_rises f).imp fun h => by rw [decide_eq_true_eq]; omega) ((List.mergeSort_perm ss _).trans hp)
  simp only [decide_eq_true_eq] at h1 h2
  omega
theorem size_le {f : List Ap} {D : DataW En} (h : Told f D) : size D = (keysJ f).length := by
  obtain ⟨es, e, hk⟩ := h.keys
  have := h.perm.length_eq
  rw [this, e]
  simp [size, intKeys]
theorem keys_len (f : List Ap) : (keysJ f).length ≤ f.length := by
  have hi : ∀ (i : Int) (l : List Int), (insJ i l).length ≤ l.length + 1 := fun i l => by
    induction l with
    | nil => simp [insJ]
    | cons k l ih =>
      unfold insJ
      split
      · simp
      · split
        · simp
        · simp; exact ih
  induction f with
  | nil => simp [keysJ]
  | cons x f ih =>
    have := hi x.idx (keysJ f)
    unfold keysJ
    simp only [List.length_cons]
    omega
end Go.Proofs.Ytkkoookmnnmiiaa

