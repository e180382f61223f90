/- Texts that the claim leans on, part 5: Blk, Qui, Blk2, D10, D11, D12, D13, D14. -/
import Derived.Test.YthfolocjkpiljaaGreatDoorZ1
import Derived.Test.YthfolocjkpiljaaGreatDoorZ2
import Derived.Test.YthfolocjkpiljaaGreatDoorZ3
import Derived.Test.YthfolocjkpiljaaGreatDoorZ4
import Derived.Laws.Rows
import Derived.Deep.Quiet
import Derived.Deep.RegionHeld3
import Derived.Test.YthfolocjkpiljaaGreatDoorRows
import Derived.WalkKit
import Derived.WalkSpells
import Derived.WalkLawsBesides
import Derived.Handy
import Derived.Deep.QuietTactic
import Derived.BigQuiet
import Derived.Deep.DeepCutAuto
import Derived.Lib.Hide
import Derived.RegionTactic
import Derived.ChangeAlike
import Derived.Laws.ResultCell
import Derived.Outline
import Derived.ProofKit
import Derived.OpenShut
import Derived.Laws.CopyOwn
import Derived.Laws.CopyRow
import Derived.Laws.NewBlocks
import Derived.Deep.RegionLaw
namespace Go.Proofs.YthfolocjkpiljaaGreatDoor
open Go.RowKit
variable {P : Program}

theorem run_loadVar_part (w : World) (g off n : Nat) (T ty : TypeId) (cs : Array Value) (ha : (isAgg ty).run P w = .ok true w) (hs : (sizeOf ty).run P w = .ok n w) (hg : w.heap[g]? = some (.cells cs T (0, 0))) (hn : off + n ≤ cs.size) :
    (loadVar ty ⟨g, off, none⟩).run P w = .ok (.agg (cs.extract off (off + n))) w := by
  have hlen : (cs.extract off (off + n)).toList.length = n := by simp; omega
  have hl := run_loadCells_list (P := P) (w := w) ⟨g, off, none⟩ (cs.extract off (off + n)).toList (fun j v hv => by
    have hj := (List.getElem?_eq_some_iff.1 hv).1
    rw [hlen] at hj
    rw [addr_add, cell_of_row w g (off + j) cs T (0, 0) hg]
    have h2 : (cs.extract off (off + n))[j]? = some v := by rw [← Array.getElem?_toList]; exact hv
    rw [Array.getElem?_extract] at h2
    split at h2
    · exact h2
    · cases h2)
  rw [hlen] at hl
  simp only [Array.toArray_toList] at hl
  simp only [loadVar, Sem.run_bind, ha, hs, hl, Result.andThen_ok, if_true, Sem.run_pure]

theorem arr_all {cs : Array Value} {n : Nat} (h : cs.size = n) : 0 + n ≤ cs.size ∧ cs.extract 0 (0 + n) = cs := ⟨by omega, by subst h; simp⟩
/-- What an aggregate's load at an operand reads. -/
def LdAt (P : Program) (a : Act) (w : World) (ty : TypeId) (x : Operand) (v : Array Value) : Prop :=
  ∃ (g off n : Nat) (cs : Array Value) (T : TypeId), (∀ w, (isAgg ty).run P w = .ok true w) ∧ (∀ w, (sizeOf ty).run P w = .ok n w) ∧ a.eval x = .pointer (some ⟨g, off, none⟩) ∧ w.heap[g]? = some (.cells cs T (0, 0)) ∧ (off + n ≤ cs.size ∧ cs.extract off (off + n) = v)

theorem wp_ldB {a : Act} {w : World} {K : Act → World → Prop} {Q : Exit → Act → World → Prop} {dst : Option Tmp} {ty' : TypeId} {pos : String} {af : Array Edge} {gd : Option (Nat × Bool)} (ty : TypeId) (x : Operand) (hl : ∃ v, LdAt P a w ty x v ∧ K (a.put dst (.agg v)) w) : (Oper.mk dst (.load ty x) ty' pos af gd).wp P a w K Q := by
  obtain ⟨v, ⟨g, off, n, cs, T, ha, hs, hx, hg, hn, rfl⟩, h⟩ := hl
  unfold Oper.wp execOp
  simp only [hx, Instr.loadAt, Instr.sureAddr, Sem.run_bind, Sem.run_pure, Result.andThen_ok, run_loadVar_part w g off n T ty cs (ha w) (hs w) hg hn]
  exact h
theorem wpList_ldB {ops : Array Oper} {rest : List Oper} {a : Act} {w : World} {Q : Exit → Act → World → Prop} {dst : Option Tmp} {ty' : TypeId} {pos : String} {af : Array Edge} {gd : Option (Nat × Bool)} (ty : TypeId) (x : Operand)
    (hl : Region.wanted (Oper.mk dst (.load ty x) ty' pos af gd) (yielded ops a.tmps) = true ∧ ∃ v, LdAt P a w ty x v ∧ wpList P ops Q rest (a.put dst (.agg v)) w) : wpList P ops Q (Oper.mk dst (.load ty x) ty' pos af gd :: rest) a w :=
  BigFrame.wpList_want hl.1 fun _ hK => wp_ldB ty x (hl.2.imp fun _ h => ⟨h.1, hK _ _ h.2⟩)
theorem exec_ldB {a : Act} {w : World} {dst : Option Tmp} {ty' : TypeId} {pos : String} {af : Array Edge} {gd : Option (Nat × Bool)} (ty : TypeId) (x : Operand) {v : Array Value} (hl : LdAt P a w ty x v) : (execOp a.eval (Oper.mk dst (.load ty x) ty' pos af gd)).run P w = .ok (.value (.agg v)) w := by
  obtain ⟨g, off, n, cs, T, ha, hs, hx, hg, hn, rfl⟩ := hl
  unfold execOp
  simp only [hx, Instr.loadAt, Instr.sureAddr, Sem.run_bind, Sem.run_pure, Result.andThen_ok, run_loadVar_part w g off n T ty cs (ha w) (hs w) hg hn]

theorem run_storeVar_part (w : World) (g off n : Nat) (T ty : TypeId) (cs : Array Value) (v : Value) (hs : (sizeOf ty).run P w = .ok n w) (hv : v.cells.size = n) (h1 : ∀ u ∈ v.cells.toList, u.oneCell' = true) (hg : w.heap[g]? = some (.cells cs T (0, 0))) (hn : off + n ≤ cs.size) :
    (storeVar ty ⟨g, off, none⟩ v).run P w = .ok () (w.setRow g (cs.toList.take off ++ v.cells.toList ++ cs.toList.drop (off + n)).toArray) := by
  have hst := run_storeCells_at P g off T v.cells.toList 0 cs w hg (by simpa [hv] using hn) h1
  simp only [Nat.add_zero, Array.length_toList, hv] at hst
  simp [storeVar, Sem.run_bind, hs, hv, hst]

/-- What a store at an operand turns a block into. -/
def StAt (P : Program) (a : Act) (w : World) (ty : TypeId) (x y : Operand) (g : Nat) (T : TypeId) (cs' : Array Value) : Prop :=
  ∃ (off n : Nat) (cs : Array Value), (∀ w, (sizeOf ty).run P w = .ok n w) ∧ a.eval x = .pointer (some ⟨g, off, none⟩) ∧ w.heap[g]? = some (.cells cs T (0, 0)) ∧
    (off + n ≤ cs.size ∧ (a.eval y).cells.size = n ∧ (∀ u ∈ (a.eval y).cells.toList, u.oneCell' = true) ∧ (cs.toList.take off ++ (a.eval y).cells.toList ++ cs.toList.drop (off + n)).toArray = cs')

theorem setRow_grown (w : World) (g : Nat) (cs : Array Value) : w.grownBy (w.setRow g cs) (some g) := grownBy_setRow w g cs

theorem wp_stB {a : Act} {w : World} {K : Act → World → Prop} {Q : Exit → Act → World → Prop} {ty' : TypeId} {pos : String} {af : Array Edge} {gd : Option (Nat × Bool)} (ty : TypeId) (x y : Operand) (hl : ∃ (g : Nat) (T : TypeId) (cs' : Array Value), StAt P a w ty x y g T cs' ∧ ∀ w', w'.heap[g]? = some (.cells cs' T (0, 0)) → w.grownBy w' (some g) → K a w') : (Oper.mk none (.store ty x y) ty' pos af gd).wp P a w K Q := by
  obtain ⟨g, T, cs', ⟨off, n, cs, hs, hx, hg, hn, hv, h1, hc⟩, h⟩ := hl
  unfold Oper.wp execOp
  simp only [hx, Instr.storeAt, Instr.sureAddr, Sem.run_bind, Sem.run_pure, Result.andThen_ok, run_storeVar_part w g off n T ty cs _ (hs w) hv h1 hg hn, hc]
  exact h _ (setRow_heap w g _ _ T _ hg) (setRow_grown w g _)
theorem wpList_stB {ops : Array Oper} {rest : List Oper} {a : Act} {w : World} {Q : Exit → Act → World → Prop} {ty' : TypeId} {pos : String} {af : Array Edge} (ty : TypeId) (x y : Operand) (hl : ∃ (g : Nat) (T : TypeId) (cs' : Array Value), StAt P a w ty x y g T cs' ∧ ∀ w', w'.heap[g]? = some (.cells cs' T (0, 0)) → w.grownBy w' (some g) → wpList P ops Q rest a w') : wpList P ops Q (Oper.mk none (.store ty x y) ty' pos af none :: rest) a w := by
  obtain ⟨g, T, cs', hs, h⟩ := hl
  exact wpList_plain rfl fun _ hK => wp_stB ty x y ⟨g, T, cs', hs, fun w' h1 h2 => hK _ _ (h w' h1 h2)⟩

/-- A store over the whole of the newest block. -/
def StNew (P : Program) (a : Act) (w : World) (ty : TypeId) (x y : Operand) (n : Nat) (cs' : Array Value) : Prop :=
  (∀ w, (sizeOf ty).run P w = .ok n w) ∧ a.eval x = .pointer (some ⟨w.heap.size, 0, none⟩) ∧ (a.eval y).cells = cs' ∧ cs'.size = n ∧ (∀ u ∈ cs'.toList, u.oneCell' = true)
theorem setRow_alloc (w : World) (cs cs' : Array Value) (T : TypeId) : (w.alloc (.cells cs T)).setRow w.heap.size cs' = w.alloc (.cells cs' T) := by
  unfold World.setRow World.alloc
  congr 1
  apply Array.ext
  · simp
  · intro i h1 h2
    rw [Array.getElem_modify]
    simp only [Array.getElem_push]
    by_cases hi : w.heap.size = i
    · subst hi; simp
    · have : i < w.heap.size := by simp at h2; omega
      simp [hi, this]
theorem wp_stNew {a : Act} {w : World} {K : Act → World → Prop} {Q : Exit → Act → World → Prop} {ty' : TypeId} {pos : String} {af : Array Edge} {gd : Option (Nat × Bool)} (ty : TypeId) (x y : Operand) {cs : Array Value} {T : TypeId} (hl : ∃ (n : Nat) (cs' : Array Value), StNew P a w ty x y n cs' ∧ cs.size = n ∧ K a (w.alloc (.cells cs' T))) : (Oper.mk none (.store ty x y) ty' pos af gd).wp P a (w.alloc (.cells cs T)) K Q := by
  obtain ⟨n, cs', ⟨hs, hx, hv, hc, h1⟩, hsz, h⟩ := hl
  have hst := run_storeVar_part (P := P) (w.alloc (.cells cs T)) w.heap.size 0 n T ty cs (a.eval y) (hs _) (by rw [hv]; exact hc) (by rw [hv]; exact h1) (heap_alloc_new w _) (by omega)
  rw [hv] at hst
  have e : (cs.toList.take 0 ++ cs'.toList ++ cs.toList.drop (0 + n)).toArray = cs' := by
    rw [List.drop_of_length_le (by simp; omega)]
    simp
  rw [e, setRow_alloc] at hst
  unfold Oper.wp execOp
  simp only [hx, Instr.storeAt, Instr.sureAddr, Sem.run_bind, Sem.run_pure, Result.andThen_ok, hst]
  exact h
theorem wpList_stNew {ops : Array Oper} {rest : List Oper} {a : Act} {w : World} {Q : Exit → Act → World → Prop} {ty' : TypeId} {pos : String} {af : Array Edge} (ty : TypeId) (x y : Operand) {cs : Array Value} {T : TypeId} (hl : ∃ (n : Nat) (cs' : Array Value), StNew P a w ty x y n cs' ∧ cs.size = n ∧ wpList P ops Q rest a (w.alloc (.cells cs' T))) : wpList P ops Q (Oper.mk none (.store ty x y) ty' pos af none :: rest) a (w.alloc (.cells cs T)) := by
  obtain ⟨n, cs', hs, hsz, h⟩ := hl
  exact wpList_plain rfl fun _ hK => wp_stNew ty x y ⟨n, cs', hs, hsz, hK _ _ h⟩

/-! Facts on blocks, carried on. -/
theorem tr_gb {w w' : World} {r : Option Nat} {j : Nat} {o : Obj} (hg : w.grownBy w' r) (h : w.heap[j]? = some o) (hne : r ≠ some j) : w'.heap[j]? = some o := (hg.block j (Array.getElem?_eq_some_iff.1 h).1 (fun e => hne e.symm)).trans h
theorem tr_st {w w' : World} {g j : Nat} {o : Obj} (hg : w.grownBy w' (some g)) (h : w.heap[j]? = some o) (hne : g ≠ j) : w'.heap[j]? = some o := tr_gb hg h (fun e => hne (Option.some.inj e))
theorem tr_bl {w w' : World} {j : Nat} {o : Obj} (hb : Below w.heap.size w w') (h : w.heap[j]? = some o) : w'.heap[j]? = some o := (hb.block j (Array.getElem?_eq_some_iff.1 h).1).trans h
theorem tr_al {w : World} {j : Nat} {o : Obj} (o' : Obj) (h : w.heap[j]? = some o) : (w.alloc o').heap[j]? = some o := tr_bl (blw w o') h
theorem lt_blk {w : World} {j : Nat} {o : Obj} (h : w.heap[j]? = some o) : j < w.heap.size := (Array.getElem?_eq_some_iff.1 h).1

theorem owns_st {w w' : World} {base n size g : Nat} {e : TypeId} {v : Value} {xs : List Value} (h : w.ownsRow base e size v n xs) (hg : w.grownBy w' (some g)) (hlt : g < base) : w'.ownsRow base e size v n xs := by
  obtain ⟨hl, h | ⟨k, cap, cur, hv, hk, hc, r⟩⟩ := h
  · exact ⟨hl, .inl h⟩
  · exact ⟨hl, .inr ⟨k, cap, cur, hv, hk, tr_st hg hc (by omega), r⟩⟩
theorem owns_ne {w w' : World} {base n size g : Nat} {e T : TypeId} {v : Value} {xs : List Value} {cs : Array Value} (h : w.ownsRow base e size v n xs) (hg : w.grownBy w' (some g)) (hc : w.heap[g]? = some (.cells cs T (0, 0))) (hne : e ≠ T) : w'.ownsRow base e size v n xs := by
  obtain ⟨hl, h | ⟨k, cap, cur, hv, hk, hc2, r⟩⟩ := h
  · exact ⟨hl, .inl h⟩
  · refine ⟨hl, .inr ⟨k, cap, cur, hv, hk, tr_st hg hc2 ?_, r⟩⟩
    rintro rfl
    rw [hc] at hc2
    injection hc2 with hc2
    injection hc2 with _ ht
    exact hne ht.symm
theorem owns_bl {w w' : World} {base n size : Nat} {e : TypeId} {v : Value} {xs : List Value} (h : w.ownsRow base e size v n xs) (hb : Below w.heap.size w w') : w'.ownsRow base e size v n xs := owns_after h hb
theorem bl_st {B : Nat} {w w' w'' : World} {g : Nat} (hb : Below B w w') (hg : w'.grownBy w'' (some g)) (hB : B ≤ w'.heap.size) (h : B ≤ g) : Below B w w'' := hb.grown hg hB (fun k e => by cases e; exact h)

/-! Results that lie in blocks. -/
theorem results_c1 {fn : Func} {p t : Nat} {tmps : Array Value} {w : World} {A : Addr} {v : Value} (hf : fn.results = #[.cell p t]) (hp : tmps.getD p undef = .pointer (some A)) (hl : (loadVar t A).run P w = .ok v w) : (results fn tmps).run P w = .ok v w := by
  have hp' : tmps[p]?.getD undef = .pointer (some A) := by simpa using hp
  simp [results, hf, hp', asAddr, hl]
theorem results_c1t1 {fn : Func} {p t q : Nat} {tmps : Array Value} {w : World} {A : Addr} {v : Value} (hf : fn.results = #[.cell p t, .tmp q]) (hp : tmps.getD p undef = .pointer (some A)) (hl : (loadVar t A).run P w = .ok v w) : (results fn tmps).run P w = .ok (.tuple #[v, tmps.getD q undef]) w := by
  have hp' : tmps[p]?.getD undef = .pointer (some A) := by simpa using hp
  simp [results, hf, hp', asAddr, hl]
theorem results_c2t1 {fn : Func} {p t p2 t2 q : Nat} {tmps : Array Value} {w : World} {A A2 : Addr} {v v2 : Value} (hf : fn.results = #[.cell p t, .cell p2 t2, .tmp q]) (hp : tmps.getD p undef = .pointer (some A)) (hl : (loadVar t A).run P w = .ok v w)
    (hp2 : tmps.getD p2 undef = .pointer (some A2)) (hl2 : (loadVar t2 A2).run P w = .ok v2 w) : (results fn tmps).run P w = .ok (.tuple #[v, v2, tmps.getD q undef]) w := by
  have hp' : tmps[p]?.getD undef = .pointer (some A) := by simpa using hp
  have hp2' : tmps[p2]?.getD undef = .pointer (some A2) := by simpa using hp2
  simp [results, hf, hp', hp2', asAddr, hl, hl2]
/-- A whole block, loaded. -/
theorem run_loadVar_all {w : World} {g n : Nat} {T ty : TypeId} {cs : Array Value} (ha : ∀ w, (isAgg ty).run P w = .ok true w) (hs : ∀ w, (sizeOf ty).run P w = .ok n w) (hg : w.heap[g]? = some (.cells cs T (0, 0))) (hn : cs.size = n) : (loadVar ty ⟨g, 0, none⟩).run P w = .ok (.agg cs) w := by
  have := run_loadVar_part (P := P) w g 0 n T ty cs (ha w) (hs w) hg (by omega)
  rw [this]
  subst hn
  simp
end Go.Proofs.YthfolocjkpiljaaGreatDoor

namespace Go.Proofs.YthfolocjkpiljaaGreatDoor
open Go.RowKit
variable {P : Program} {ops : Array Oper} {C : World → Prop}

theorem wp_region_cls {id : Nat} {Q : Exit → Act → World → Prop} {a : Act} {w : World} {l : List Oper} (hm : P.follows .mixedOrders = true) (hB : Region.lexB .any l.toArray = true) (hC : C w.drew)
    (h : wpQuiet P l.toArray C (fun a' => ∀ w', C w' → Q .normal a' w') l a) : (Code.region id l.toArray true).wp P Q a w :=
  wp_region_quiet (C := C) hm hB hC (by simpa using h)
theorem wpQuiet_gen {Q : Act → Prop} {a : Act} {o : Oper} {rest : List Oper} (hw : Region.wanted o (yielded ops a.tmps) = true) (v : Value) (hy : ∀ w, C w → o.quietAt P a C w v)
    (h : wpQuiet P ops C Q rest (a.put o.dst v)) : wpQuiet P ops C Q (o :: rest) a := by
  unfold wpQuiet
  rw [if_pos hw]
  exact ⟨v, hy, h⟩
theorem wpQuiet_val {Q : Act → Prop} {a : Act} {o : Oper} {rest : List Oper} (hw : Region.wanted o (yielded ops a.tmps) = true) (v : Value) (hy : ∀ w, C w → (execOp a.eval o).run P w = .ok (.value v) w)
    (h : wpQuiet P ops C Q rest (a.put o.dst v)) : wpQuiet P ops C Q (o :: rest) a :=
  wpQuiet_gen hw v (fun w hC => by unfold Oper.quietAt; rw [hy w hC]; exact ⟨rfl, rfl⟩) h
theorem wpQuiet_skip {Q : Act → Prop} {a : Act} {o : Oper} {rest : List Oper} (hw : Region.wanted o (yielded ops a.tmps) = false) (h : wpQuiet P ops C Q rest (a.put o.dst undef)) : wpQuiet P ops C Q (o :: rest) a := by
  unfold wpQuiet
  rw [if_neg (by rw [hw]; simp)]
  exact h
end Go.Proofs.YthfolocjkpiljaaGreatDoor

namespace Go.Proofs.YthfolocjkpiljaaGreatDoor
open Go.RowKit
variable {P : Program}

/-- What an aggregate's load at an operand reads, cell by cell. -/
def LdCs (P : Program) (a : Act) (w : World) (ty : TypeId) (x : Operand) (v : Array Value) : Prop :=
  ∃ (b off n : Nat), (∀ w, (isAgg ty).run P w = .ok true w) ∧ (∀ w, (sizeOf ty).run P w = .ok n w) ∧ a.eval x = .pointer (some ⟨b, off, none⟩) ∧ v.size = n ∧ ∀ j u, v[j]? = some u → w.cell? ⟨b, off + j, none⟩ = some u
theorem run_loadVar_cs (w : World) (b off n : Nat) (ty : TypeId) (v : Array Value) (ha : (isAgg ty).run P w = .ok true w) (hs : (sizeOf ty).run P w = .ok n w) (hn : v.size = n) (hc : ∀ j u, v[j]? = some u → w.cell? ⟨b, off + j, none⟩ = some u) :
    (loadVar ty ⟨b, off, none⟩).run P w = .ok (.agg v) w := by
  have hl := run_loadCells_list (P := P) (w := w) ⟨b, off, none⟩ v.toList (fun j u hu => by
    rw [addr_add]
    exact hc j u (by rw [← Array.getElem?_toList]; exact hu))
  rw [Array.length_toList, hn] at hl
  simp only [Array.toArray_toList] at hl
  simp only [loadVar, Sem.run_bind, ha, hs, hl, Result.andThen_ok, if_true, Sem.run_pure]
theorem exec_ldC {a : Act} {w : World} {dst : Option Tmp} {ty' : TypeId} {pos : String} {af : Array Edge} {gd : Option (Nat × Bool)} (ty : TypeId) (x : Operand) {v : Array Value} (hl : LdCs P a w ty x v) : (execOp a.eval (Oper.mk dst (.load ty x) ty' pos af gd)).run P w = .ok (.value (.agg v)) w := by
  obtain ⟨b, off, n, ha, hs, hx, hn, hc⟩ := hl
  unfold execOp
  simp only [hx, Instr.loadAt, Instr.sureAddr, Sem.run_bind, Sem.run_pure, Result.andThen_ok, run_loadVar_cs w b off n ty v (ha w) (hs w) hn hc]
theorem wpList_ldC {ops : Array Oper} {rest : List Oper} {a : Act} {w : World} {Q : Exit → Act → World → Prop} {dst : Option Tmp} {ty' : TypeId} {pos : String} {af : Array Edge} {gd : Option (Nat × Bool)} (ty : TypeId) (x : Operand)
    (hl : Region.wanted (Oper.mk dst (.load ty x) ty' pos af gd) (yielded ops a.tmps) = true ∧ ∃ v, LdCs P a w ty x v ∧ wpList P ops Q rest (a.put dst (.agg v)) w) : wpList P ops Q (Oper.mk dst (.load ty x) ty' pos af gd :: rest) a w := by
  obtain ⟨hw, v, h1, h2⟩ := hl
  refine BigFrame.wpList_want hw fun K hK => ?_
  unfold Oper.wp
  rw [exec_ldC ty x h1]
  exact hK _ _ h2
end Go.Proofs.YthfolocjkpiljaaGreatDoor

namespace Go.Proofs.YthfolocjkpiljaaGreatDoor
open Go.RowKit

def fix64 (l : List UInt8) : List UInt8 := (l ++ List.replicate 64 0).take 64
theorem fix64_len (l : List UInt8) : (fix64 l).length = 64 := by
  unfold fix64
  rw [List.length_take, List.length_append, List.length_replicate]
  omega
theorem fix64_of {l : List UInt8} (h : l.length = 64) : fix64 l = l := by
  unfold fix64
  rw [← h, List.take_left]
/-- A place's cells: what it holds at rest, what it is meant to, whether it is lost. -/
def plC (p : Pl) : List Value := bys (fix64 p.rest) ++ (bys (fix64 p.meant) ++ [.bool p.lost])
theorem plC_len (p : Pl) : (plC p).length = 129 := by simp [plC, bys_len, fix64_len]
def plsV (l : List Pl) : Array Value := (l.flatMap plC).toArray
theorem plsV_size (l : List Pl) : (plsV l).size = 129 * l.length := by
  simp only [plsV, List.size_toArray]
  exact flat_len plC_len l
/-- A write's cells. -/
def wtC (x : List UInt8 × Nat) : List Value := bys (fix64 x.1) ++ [.int .i64 (x.2 : Int)]
theorem wtC_len (x : List UInt8 × Nat) : (wtC x).length = 65 := by simp [wtC, bys_len, fix64_len]
def dkA (gp : Nat) (wv : Value) (d : Dk) : Array Value := #[.slice (some ⟨gp, 0, none⟩) d.pl.length d.pl.length, wv, .bool d.down, .bool d.dead, .int .i64 d.left]

structure DiskB (B g gp : Nat) (wv : Value) (d : Dk) (w : World) : Prop where
  box : w.heap[g]? = some (.cells (dkA gp wv d) 175 (0, 0))
  pls : w.heap[gp]? = some (.cells (plsV d.pl) 218 (0, 0))
  wts : w.ownsRow B 278 65 wv d.waits.length (d.waits.flatMap wtC)
  gb : B ≤ g
  pb : B ≤ gp
  n0 : 0 < d.pl.length
  nl : d.pl.length ≤ 1024
  lo : -1 ≤ d.left
  hi : d.left ≤ 9223372036854775807
  ok : ∀ p ∈ d.pl, p.rest.length = 64 ∧ p.meant.length = 64
  wk : ∀ x ∈ d.waits, x.1.length = 64 ∧ x.2 < d.pl.length
/-- What stays beside a disk: what lay below, and whatever is of another type. -/
structure Kt (B : Nat) (w w' : World) : Prop where
  bl : Below B w w'
  ty : ∀ (j : Nat) (cs : Array Value) (T : TypeId), w.heap[j]? = some (.cells cs T (0, 0)) → T ≠ 175 → T ≠ 218 → T ≠ 278 → w'.heap[j]? = some (.cells cs T (0, 0))
theorem Kt.refl (B : Nat) (w : World) : Kt B w w := ⟨Below.refl _ _, fun _ _ _ h _ _ _ => h⟩
theorem Kt.trans {B : Nat} {w w' w'' : World} (h : Kt B w w') (h2 : Kt B w' w'') : Kt B w w'' := ⟨h.bl.trans h2.bl, fun j cs T a b c d => h2.ty j cs T (h.ty j cs T a b c d) b c d⟩
theorem Kt.of {B : Nat} {w w' : World} (hb : Below w.heap.size w w') (h : B ≤ w.heap.size) : Kt B w w' := ⟨hb.mono h, fun _ _ _ a _ _ _ => tr_bl hb a⟩
/-- A store into one of the disk's blocks. -/
theorem Kt.st {B g : Nat} {w w' : World} {cs : Array Value} {T : TypeId} (hg : w.grownBy w' (some g)) (hc : w.heap[g]? = some (.cells cs T (0, 0))) (hT : T = 175 ∨ T = 218 ∨ T = 278) (hB : B ≤ g) : Kt B w w' := by
  refine ⟨(Below.refl B w).grown hg (by have := lt_blk hc; omega) (fun k e => by cases e; exact hB), fun j cs' T' h h1 h2 h3 => tr_st hg h ?_⟩
  rintro rfl
  rw [hc] at h
  injection h with h
  injection h with _ e
  subst e
  rcases hT with h | h | h
  · exact h1 h
  · exact h2 h
  · exact h3 h
section
variable {B g gp : Nat} {wv : Value} {d : Dk} {w w' : World}
theorem DiskB.below (h : DiskB B g gp wv d w) (hb : Below w.heap.size w w') : DiskB B g gp wv d w' := ⟨tr_bl hb h.box, tr_bl hb h.pls, owns_bl h.wts hb, h.gb, h.pb, h.n0, h.nl, h.lo, h.hi, h.ok, h.wk⟩
theorem DiskB.c0 (h : DiskB B g gp wv d w) : w.cell? ⟨g, 0, none⟩ = some (.slice (some ⟨gp, 0, none⟩) d.pl.length d.pl.length) := blk_cell h.box 0 _ rfl
theorem DiskB.c1 (h : DiskB B g gp wv d w) : w.cell? ⟨g, 1, none⟩ = some wv := blk_cell h.box 1 _ rfl
theorem DiskB.c2 (h : DiskB B g gp wv d w) : w.cell? ⟨g, 2, none⟩ = some (.bool d.down) := blk_cell h.box 2 _ rfl
theorem DiskB.c3 (h : DiskB B g gp wv d w) : w.cell? ⟨g, 3, none⟩ = some (.bool d.dead) := blk_cell h.box 3 _ rfl
theorem DiskB.c4 (h : DiskB B g gp wv d w) : w.cell? ⟨g, 4, none⟩ = some (.int .i64 d.left) := blk_cell h.box 4 _ rfl
end

section
variable {B g gp : Nat} {wv : Value} {d : Dk} {w : World}
theorem dsize (h : DiskB B g gp wv d w) : Calls Tryz.prog 93 #[.pointer (some ⟨g, 0, none⟩)] w fun e w' => e = .returned (.int .i64 d.pl.length) ∧ w = w' := size_at g _ _ _ w h.c0
set_option maxRecDepth 100000 in
theorem there_no (h : DiskB B g gp wv d w) : Calls Tryz.prog 124 #[.pointer (some ⟨g, 0, none⟩), .slice none 0 0] w fun e w' => e = .returned (.int .i64 0) ∧ w = w' := by
  have h0 : ((d.pl.length : Int) == 0) = false := by have := h.n0; rw [beq_eq_false_iff_ne]; omega
  go_enter Tryz.func124, Tryz.ntmps124
  go_wp2_with (go_at_call 93; refine (dsize h).mono ?_; rintro e w1 ⟨rfl, rfl⟩)
  go_loopw [12] (fun i wr => i = .int .i64 0 ∧ wr = w) (fun _ _ => 0)
  case atStart => exact ⟨rfl, rfl⟩
  case round =>
    obtain ⟨rfl, rfl⟩ := hrel
    go_wp2
    go_ret
    exact ⟨rfl, rfl⟩
set_option maxRecDepth 100000 in
theorem live_no (h : DiskB B g gp wv d w) : Calls Tryz.prog 140 #[.pointer (some ⟨g, 0, none⟩), .slice none 0 0] w fun e w' => e = .returned (.int .i64 (live0 d)) ∧ w = w' := by
  have h0 : (0 : Int) < d.pl.length := by have := h.n0; omega
  have c2 := h.c2
  have c3 := h.c3
  obtain ⟨r, hr⟩ : ∃ r, live0 d = r := ⟨_, rfl⟩
  rw [hr]
  unfold live0 there0 at hr
  have hn := h.n0
  cases hdn : d.down
  case true =>
    rw [hdn] at c2 hr
    obtain rfl : r = 5 := by rw [← hr, if_pos ⟨hn, .inl rfl⟩]
    clear hr
    go_enter Tryz.func140, Tryz.ntmps140
    go_wp2_with (first
      | (go_at_call 93; refine (dsize h).mono ?_; rintro e w1 ⟨rfl, rfl⟩)
      | (go_at_call 124; refine (there_no h).mono ?_; rintro e w1 ⟨rfl, rfl⟩))
    go_ret
    exact ⟨rfl, rfl⟩
  case false =>
    rw [hdn] at c2 hr
    cases hde : d.dead
    case true =>
      rw [hde] at c3 hr
      obtain rfl : r = 5 := by rw [← hr, if_pos ⟨hn, .inr rfl⟩]
      clear hr
      go_enter Tryz.func140, Tryz.ntmps140
      go_wp2_with (first
        | (go_at_call 93; refine (dsize h).mono ?_; rintro e w1 ⟨rfl, rfl⟩)
        | (go_at_call 124; refine (there_no h).mono ?_; rintro e w1 ⟨rfl, rfl⟩))
      go_ret
      exact ⟨rfl, rfl⟩
    case false =>
      rw [hde] at c3 hr
      obtain rfl : r = 0 := by rw [← hr, if_neg (by simp), if_neg (by omega)]
      clear hr
      go_enter Tryz.func140, Tryz.ntmps140
      go_wp2_with (first
        | (go_at_call 93; refine (dsize h).mono ?_; rintro e w1 ⟨rfl, rfl⟩)
        | (go_at_call 124; refine (there_no h).mono ?_; rintro e w1 ⟨rfl, rfl⟩))
      go_ret
      exact ⟨rfl, rfl⟩
end
end Go.Proofs.YthfolocjkpiljaaGreatDoor

namespace Go.Proofs.YthfolocjkpiljaaGreatDoor
open Go.RowKit

theorem dk_down (gp : Nat) (wv : Value) (d : Dk) (x : Bool) : 2 + 1 ≤ (dkA gp wv d).size ∧ (Value.bool x).cells.size = 1 ∧ (∀ u ∈ (Value.bool x).cells.toList, u.oneCell' = true) ∧ ((dkA gp wv d).toList.take 2 ++ (Value.bool x).cells.toList ++ (dkA gp wv d).toList.drop (2 + 1)).toArray = dkA gp wv { d with down := x } :=
  ⟨by show _ ≤ 5; omega, rfl, by simp [Value.cells, Value.oneCell'], rfl⟩
theorem dk_dead (gp : Nat) (wv : Value) (d : Dk) (x : Bool) : 3 + 1 ≤ (dkA gp wv d).size ∧ (Value.bool x).cells.size = 1 ∧ (∀ u ∈ (Value.bool x).cells.toList, u.oneCell' = true) ∧ ((dkA gp wv d).toList.take 3 ++ (Value.bool x).cells.toList ++ (dkA gp wv d).toList.drop (3 + 1)).toArray = dkA gp wv { d with dead := x } :=
  ⟨by show _ ≤ 5; omega, rfl, by simp [Value.cells, Value.oneCell'], rfl⟩
theorem dk_left (gp : Nat) (wv : Value) (d : Dk) (x : Int) : 4 + 1 ≤ (dkA gp wv d).size ∧ (Value.int .i64 x).cells.size = 1 ∧ (∀ u ∈ (Value.int .i64 x).cells.toList, u.oneCell' = true) ∧ ((dkA gp wv d).toList.take 4 ++ (Value.int .i64 x).cells.toList ++ (dkA gp wv d).toList.drop (4 + 1)).toArray = dkA gp wv { d with left := x } :=
  ⟨by show _ ≤ 5; omega, rfl, by simp [Value.cells, Value.oneCell'], rfl⟩
section
variable {B g gp : Nat} {wv : Value} {d d' : Dk} {w w' : World}
/-- One field of the disk's box turned. -/
theorem DiskB.turn (h : DiskB B g gp wv d w) (hB : w'.heap[g]? = some (.cells (dkA gp wv d') 175 (0, 0))) (hg : w.grownBy w' (some g)) (h1 : d'.pl = d.pl) (h2 : d'.waits = d.waits) (h3 : -1 ≤ d'.left) (h4 : d'.left ≤ 9223372036854775807) : DiskB B g gp wv d' w' ∧ Kt B w w' := by
  have hne : g ≠ gp := by
    rintro rfl
    have := h.box.symm.trans h.pls
    injection this with this
    injection this with _ e
    revert e
    decide
  refine ⟨⟨hB, ?_, ?_, h.gb, h.pb, by rw [h1]; exact h.n0, by rw [h1]; exact h.nl, h3, h4, by rw [h1]; exact h.ok, by rw [h1, h2]; exact h.wk⟩, Kt.st hg h.box (.inl rfl) h.gb⟩
  · rw [h1]
    exact tr_st hg h.pls hne
  · rw [h2]
    exact owns_ne h.wts hg h.box (by decide)
end
section
variable {B g gp : Nat} {wv : Value} {d : Dk} {w : World}
set_option maxRecDepth 100000 in
theorem spend_any (h : DiskB B g gp wv d w) : Calls Tryz.prog 182 #[.pointer (some ⟨g, 0, none⟩)] w fun e w' => e = .returned (.int .i64 (spendD d).2) ∧ DiskB B g gp wv (spendD d).1 w' ∧ Kt B w w' := by
  have c4 := h.c4
  have hB := h.box
  have hlo := h.lo
  have hhi := h.hi
  by_cases h0 : d.left = 0
  · have hs : spendD d = ({ d with dead := true }, 5) := by unfold spendD; rw [if_pos h0]
    rw [hs]
    rw [h0] at c4
    clear hs
    go_enter Tryz.func182, Tryz.ntmps182
    go_wp2_with ((first | (with_reducible refine wpList_stB 4 _ _ ?_) | (with_reducible refine wp_stB 4 _ _ ?_)); refine ⟨_, _, _, ⟨_, _, _, Tryz.sizeOf4, rfl, ‹_›, dk_dead _ _ _ true⟩, ?_⟩; intro w5 B5 g5)
    go_ret
    exact ⟨rfl, h.turn B5 g5 rfl rfl hlo hhi⟩
  · by_cases h1 : 0 < d.left
    · have hs : spendD d = ({ d with left := d.left - 1 }, 0) := by unfold spendD; rw [if_neg h0, if_pos h1]
      rw [hs]
      have h0b : (d.left == 0) = false := by rw [beq_eq_false_iff_ne]; exact h0
      clear hs
      go_enter Tryz.func182, Tryz.ntmps182
      go_wp2_with ((first | (with_reducible refine wpList_stB 3 _ _ ?_) | (with_reducible refine wp_stB 3 _ _ ?_)); refine ⟨_, _, _, ⟨_, _, _, Tryz.sizeOf3, rfl, ‹_›, dk_left _ _ _ (d.left - 1)⟩, ?_⟩; intro w5 B5 g5)
      go_ret
      exact ⟨rfl, h.turn B5 g5 rfl rfl (by simp only; omega) (by simp only; omega)⟩
    · have hs : spendD d = (d, 0) := by unfold spendD; rw [if_neg h0, if_neg h1]
      rw [hs]
      have h0b : (d.left == 0) = false := by rw [beq_eq_false_iff_ne]; exact h0
      clear hs
      go_enter Tryz.func182, Tryz.ntmps182
      go_wp2
      go_ret
      exact ⟨rfl, h, Kt.refl _ _⟩
set_option maxRecDepth 100000 in
theorem power_any (h : DiskB B g gp wv d w) (n : Int) (hn : n ≤ 9223372036854775807) : Calls Tryz.prog 54 #[.pointer (some ⟨g, 0, none⟩), .int .i64 n] w fun e w' => e = .returned (.int .i64 (powerD d n).2) ∧ DiskB B g gp wv (powerD d n).1 w' ∧ Kt B w w' := by
  have hB := h.box
  obtain ⟨r, hr⟩ : ∃ r, live0 d = r := ⟨_, rfl⟩
  have hlv := live_no h
  rw [hr] at hlv
  unfold powerD
  rw [hr]
  by_cases h0 : r = 0
  · subst h0
    rw [if_neg (by simp)]
    by_cases h1 : n < 0
    · rw [if_pos h1]
      go_enter Tryz.func54, Tryz.ntmps54
      go_wp2_with (go_at_call 140; refine hlv.mono ?_; rintro e w1 ⟨rfl, rfl⟩)
      go_ret
      exact ⟨rfl, h, Kt.refl _ _⟩
    · rw [if_neg h1]
      go_enter Tryz.func54, Tryz.ntmps54
      go_wp2_with (first
        | (go_at_call 140; refine hlv.mono ?_; rintro e w1 ⟨rfl, rfl⟩)
        | ((first | (with_reducible refine wpList_stB 3 _ _ ?_) | (with_reducible refine wp_stB 3 _ _ ?_)); refine ⟨_, _, _, ⟨_, _, _, Tryz.sizeOf3, rfl, ‹_›, dk_left _ _ _ n⟩, ?_⟩; intro w5 B5 g5))
      go_ret
      exact ⟨rfl, h.turn B5 g5 rfl rfl (by simp only; omega) hn⟩
  · rw [if_pos h0]
    have h0b : (r != 0) = true := by simpa using h0
    go_enter Tryz.func54, Tryz.ntmps54
    go_wp2_with (go_at_call 140; refine hlv.mono ?_; rintro e w1 ⟨rfl, rfl⟩)
    go_ret
    exact ⟨rfl, h, Kt.refl _ _⟩
set_option maxRecDepth 100000 in
theorem start_any (h : DiskB B g gp wv d w) : Calls Tryz.prog 57 #[.pointer (some ⟨g, 0, none⟩)] w fun e w' => e = .returned (.int .i64 (startD d).2) ∧ DiskB B g gp wv (startD d).1 w' ∧ Kt B w w' := by
  have hB := h.box
  have c2 := h.c2
  have hn := h.n0
  have ht := there_no h
  unfold startD there0
  rw [if_neg (show ¬ d.pl.length = 0 by omega), if_neg (by simp)]
  cases hdn : d.down
  case false =>
    rw [hdn] at c2
    rw [if_pos rfl]
    go_enter Tryz.func57, Tryz.ntmps57
    go_wp2_with (go_at_call 124; refine ht.mono ?_; rintro e w1 ⟨rfl, rfl⟩)
    go_ret
    exact ⟨rfl, h, Kt.refl _ _⟩
  case true =>
    rw [hdn] at c2
    rw [if_neg (by simp)]
    go_enter Tryz.func57, Tryz.ntmps57
    go_wp2_with (first
      | (go_at_call 124; refine ht.mono ?_; rintro e w1 ⟨rfl, rfl⟩)
      | ((first | (with_reducible refine wpList_stB 4 _ _ ?_) | (with_reducible refine wp_stB 4 _ _ ?_)); refine ⟨_, _, _, ⟨_, _, _, Tryz.sizeOf4, rfl, ‹_›, dk_down _ _ d false⟩, ?_⟩; intro w5 B5 g5; have D5 := h.turn B5 g5 rfl rfl h.lo h.hi)
      | ((first | (with_reducible refine wpList_stB 4 _ _ ?_) | (with_reducible refine wp_stB 4 _ _ ?_)); refine ⟨_, _, _, ⟨_, _, _, Tryz.sizeOf4, rfl, ‹_›, dk_dead _ _ _ false⟩, ?_⟩; intro w6 B6 g6; have D6 := D5.1.turn B6 g6 rfl rfl h.lo h.hi)
      | ((first | (with_reducible refine wpList_stB 3 _ _ ?_) | (with_reducible refine wp_stB 3 _ _ ?_)); refine ⟨_, _, _, ⟨_, _, _, Tryz.sizeOf3, rfl, ‹_›, dk_left _ _ _ (-1)⟩, ?_⟩; intro w7 B7 g7; have D7 := D6.1.turn B7 g7 rfl rfl (by simp) (by simp)))
    go_ret
    exact ⟨rfl, D7.1, (D5.2.trans D6.2).trans D7.2⟩
set_option maxRecDepth 100000 in
theorem up_any (h : DiskB B g gp wv d w) : Calls Tryz.prog 129 #[.pointer (some ⟨g, 0, none⟩)] w fun e w' => e = .returned (.bool (upD d)) ∧ w = w' := by
  have c2 := h.c2
  have c3 := h.c3
  have hn := h.n0
  have h0 : (0 : Int) < d.pl.length := by omega
  unfold upD
  rw [decide_eq_true hn]
  cases hdn : d.down <;> cases hde : d.dead
  all_goals
    rw [hdn] at c2
    rw [hde] at c3
    go_enter Tryz.func129, Tryz.ntmps129
    go_wp2_with (go_at_call 93; refine (dsize h).mono ?_; rintro e w1 ⟨rfl, rfl⟩)
    go_ret
    exact ⟨rfl, rfl⟩
end
end Go.Proofs.YthfolocjkpiljaaGreatDoor

namespace Go.Proofs.YthfolocjkpiljaaGreatDoor
open Go.RowKit

section
variable {B g gp : Nat} {wv : Value} {d : Dk} {w : World}
set_option maxRecDepth 100000 in
theorem there_1 (h : DiskB B g gp wv d w) (s : Int) (q : Nat) (hq : w.cell? ⟨q, 0, none⟩ = some (.int .i64 s)) : Calls Tryz.prog 124 #[.pointer (some ⟨g, 0, none⟩), .slice (some ⟨q, 0, none⟩) 1 1] w fun e w' => e = .returned (.int .i64 (thereD d s)) ∧ w = w' := by
  have h0 : ((d.pl.length : Int) == 0) = false := by have := h.n0; rw [beq_eq_false_iff_ne]; omega
  have c0 := h.c0
  obtain ⟨r, hr⟩ : ∃ r, thereD d s = r := ⟨_, rfl⟩
  rw [hr]
  unfold thereD at hr
  rw [if_neg (show ¬ d.pl.length = 0 by have := h.n0; omega)] at hr
  have HR := Lib.hid hr
  clear hr
  go_enter Tryz.func124, Tryz.ntmps124
  go_wp2_with (go_at_call 93; refine (dsize h).mono ?_; rintro e w1 ⟨rfl, rfl⟩)
  go_loopw [12, 6] (fun i _ wr => ∃ k : Nat, k ≤ 1 ∧ i = .int .i64 (k : Nat) ∧ (k = 1 → r = 0) ∧ wr = w) (fun i _ _ => 1 - (intOf i).toNat)
  case atStart => exact ⟨0, by omega, rfl, by omega, rfl⟩
  case round =>
    obtain ⟨k, hk, rfl, hkr, rfl⟩ := hrel
    rcases (show k = 0 ∨ k = 1 by omega) with rfl | rfl
    · by_cases h1 : s < 0
      · obtain rfl : r = 2 := by rw [← HR.out, if_pos (.inl h1)]
        go_wp2
        go_ret
        exact ⟨rfl, rfl⟩
      · by_cases h2 : (d.pl.length : Int) ≤ s
        · obtain rfl : r = 2 := by rw [← HR.out, if_pos (.inr h2)]
          go_wp2
          go_ret
          exact ⟨rfl, rfl⟩
        · obtain rfl : r = 0 := by rw [← HR.out, if_neg (by omega)]
          go_wp2
          go_roundw
          case rel => exact ⟨1, by omega, by first | rfl | go_num, by simp, by first | trivial | rfl⟩
          case measure => first | (simp [intOf]; done) | (simp [intOf]; omega)
    · obtain rfl : r = 0 := hkr rfl
      go_wp2
      go_ret
      exact ⟨rfl, rfl⟩
set_option maxRecDepth 100000 in
theorem live_1 (h : DiskB B g gp wv d w) (s : Int) (q : Nat) (hq : w.cell? ⟨q, 0, none⟩ = some (.int .i64 s)) : Calls Tryz.prog 140 #[.pointer (some ⟨g, 0, none⟩), .slice (some ⟨q, 0, none⟩) 1 1] w fun e w' => e = .returned (.int .i64 (liveD d s)) ∧ w = w' := by
  have h0 : (0 : Int) < d.pl.length := by have := h.n0; omega
  have c2 := h.c2
  have c3 := h.c3
  have hn := h.n0
  have ht := there_1 h s q hq
  unfold liveD
  cases hdn : d.down
  case true =>
    rw [hdn] at c2
    rw [if_pos ⟨hn, .inl rfl⟩]
    go_enter Tryz.func140, Tryz.ntmps140
    go_wp2_with (go_at_call 93; refine (dsize h).mono ?_; rintro e w1 ⟨rfl, rfl⟩)
    go_ret
    exact ⟨rfl, rfl⟩
  case false =>
    rw [hdn] at c2
    cases hde : d.dead
    case true =>
      rw [hde] at c3
      rw [if_pos ⟨hn, .inr rfl⟩]
      go_enter Tryz.func140, Tryz.ntmps140
      go_wp2_with (go_at_call 93; refine (dsize h).mono ?_; rintro e w1 ⟨rfl, rfl⟩)
      go_ret
      exact ⟨rfl, rfl⟩
    case false =>
      rw [hde] at c3
      rw [if_neg (by simp)]
      go_enter Tryz.func140, Tryz.ntmps140
      go_wp2_with (first
        | (go_at_call 93; refine (dsize h).mono ?_; rintro e w1 ⟨rfl, rfl⟩)
        | (go_at_call 124; refine ht.mono ?_; rintro e w1 ⟨rfl, rfl⟩))
      go_ret
      exact ⟨rfl, rfl⟩
end
end Go.Proofs.YthfolocjkpiljaaGreatDoor

namespace Go.Proofs.YthfolocjkpiljaaGreatDoor
open Go.RowKit

theorem pl_split {l : List Pl} {s : Nat} {p : Pl} (h : l[s]? = some p) : ∃ a b, l = a ++ p :: b ∧ a.length = s ∧ ∀ p', l.set s p' = a ++ p' :: b := by
  have hs := (List.getElem?_eq_some_iff.1 h).1
  have hp := (List.getElem?_eq_some_iff.1 h).2
  refine ⟨l.take s, l.drop (s + 1), ?_, by rw [List.length_take]; omega, fun p' => by rw [List.set_eq_take_append_cons_drop, if_pos hs]⟩
  rw [← hp, ← List.drop_eq_getElem_cons hs, List.take_append_drop]
/-- A part of a sector's cells turned. -/
theorem flat_part {l : List Pl} {s r : Nat} {p p' : Pl} {v : List Value} (h : l[s]? = some p) (hr : r + v.length ≤ 129) (hv : (plC p).take r ++ v ++ (plC p).drop (r + v.length) = plC p') : (l.flatMap plC).take (s * 129 + r) ++ v ++ (l.flatMap plC).drop (s * 129 + r + v.length) = (l.set s p').flatMap plC := by
  obtain ⟨a, b, rfl, hl, hset⟩ := pl_split h
  have hfa : (a.flatMap plC).length = s * 129 := by rw [flat_len plC_len, hl, Nat.mul_comm]
  have hc := plC_len p
  rw [hset p', List.flatMap_append, List.flatMap_cons, List.flatMap_append, List.flatMap_cons, ← hv]
  have e1 : (a.flatMap plC ++ (plC p ++ b.flatMap plC)).take (s * 129 + r) = a.flatMap plC ++ (plC p).take r := by
    rw [List.take_append, List.take_of_length_le (by omega), hfa, show s * 129 + r - s * 129 = r by omega, List.take_append_of_le_length (by omega)]
  have e2 : (a.flatMap plC ++ (plC p ++ b.flatMap plC)).drop (s * 129 + r + v.length) = (plC p).drop (r + v.length) ++ b.flatMap plC := by
    rw [List.drop_append, List.drop_of_length_le (show (a.flatMap plC).length ≤ s * 129 + r + v.length by omega), hfa, show s * 129 + r + v.length - s * 129 = r + v.length by omega, List.nil_append, List.drop_append_of_le_length (by omega)]
  rw [e1, e2]
  simp only [List.append_assoc]
/-- A store into a part of a sector. -/
theorem pls_part {l : List Pl} {s r n : Nat} {p p' : Pl} {x : Value} (h : l[s]? = some p) (hn : x.cells.size = n) (hr : r + n ≤ 129) (h1 : ∀ u ∈ x.cells.toList, u.oneCell' = true) (hv : (plC p).take r ++ x.cells.toList ++ (plC p).drop (r + n) = plC p') :
    s * 129 + r + n ≤ (plsV l).size ∧ x.cells.size = n ∧ (∀ u ∈ x.cells.toList, u.oneCell' = true) ∧ ((plsV l).toList.take (s * 129 + r) ++ x.cells.toList ++ (plsV l).toList.drop (s * 129 + r + n)).toArray = plsV (l.set s p') := by
  have hs := (List.getElem?_eq_some_iff.1 h).1
  have hn2 : x.cells.toList.length = n := by rw [Array.length_toList]; exact hn
  refine ⟨by rw [plsV_size]; omega, hn, h1, ?_⟩
  unfold plsV
  simp only
  rw [← hn2] at hv hr ⊢
  rw [flat_part h hr hv]
/-- A part of a sector, read. -/
theorem pls_at {l : List Pl} {s r : Nat} {p : Pl} {u : Value} (h : l[s]? = some p) (hu : (plC p)[r]? = some u) : (plsV l)[s * 129 + r]? = some u := by
  unfold plsV
  rw [List.getElem?_toArray]
  exact flat_at plC_len h r u hu
theorem pl_lost (p : Pl) (x : Bool) : (plC p).take 128 ++ (Value.bool x).cells.toList ++ (plC p).drop (128 + 1) = plC { p with lost := x } := by
  have h1 : (bys (fix64 p.rest)).length = 64 := by rw [bys_len, fix64_len]
  have h2 : (bys (fix64 p.meant)).length = 64 := by rw [bys_len, fix64_len]
  have h3 : (bys (fix64 p.rest) ++ bys (fix64 p.meant)).length = 128 := by rw [List.length_append, h1, h2]
  have e : plC p = (bys (fix64 p.rest) ++ bys (fix64 p.meant)) ++ [.bool p.lost] := by simp [plC]
  have e1 : (plC p).take 128 = bys (fix64 p.rest) ++ bys (fix64 p.meant) := by rw [e, ← h3, List.take_left]
  have e2 : (plC p).drop (128 + 1) = [] := List.drop_of_length_le (by rw [plC_len]; omega)
  rw [e1, e2]
  simp [plC, Value.cells]
theorem pls_lost {l : List Pl} {s : Nat} {p : Pl} (h : l[s]? = some p) : s * 129 + 128 + 1 ≤ (plsV l).size ∧ (Value.bool true).cells.size = 1 ∧ (∀ u ∈ (Value.bool true).cells.toList, u.oneCell' = true) ∧ ((plsV l).toList.take (s * 129 + 128) ++ (Value.bool true).cells.toList ++ (plsV l).toList.drop (s * 129 + 128 + 1)).toArray = plsV (l.set s { p with lost := true }) :=
  pls_part h rfl (by omega) (by simp [Value.cells, Value.oneCell']) (pl_lost p true)
section
variable {B g gp : Nat} {wv : Value} {d : Dk} {w w' : World}
/-- A sector turned. -/
theorem DiskB.sect (h : DiskB B g gp wv d w) {s : Nat} {p' : Pl} (hB : w'.heap[gp]? = some (.cells (plsV (d.pl.set s p')) 218 (0, 0))) (hg : w.grownBy w' (some gp)) (hp : p'.rest.length = 64 ∧ p'.meant.length = 64) : DiskB B g gp wv { d with pl := d.pl.set s p' } w' ∧ Kt B w w' := by
  have hne : gp ≠ g := by
    rintro rfl
    have := h.box.symm.trans h.pls
    injection this with this
    injection this with _ e
    revert e
    decide
  have hl : (d.pl.set s p').length = d.pl.length := List.length_set
  refine ⟨⟨?_, hB, owns_ne h.wts hg h.pls (by decide), h.gb, h.pb, by rw [hl]; exact h.n0, by rw [hl]; exact h.nl, h.lo, h.hi, ?_, ?_⟩, Kt.st hg h.pls (.inr (.inl rfl)) h.pb⟩
  · have e : dkA gp wv { d with pl := d.pl.set s p' } = dkA gp wv d := by unfold dkA; simp only [hl]
    rw [e]
    exact tr_st hg h.box hne
  · intro q hq
    rcases List.mem_or_eq_of_mem_set hq with hq | rfl
    · exact h.ok q hq
    · exact hp
  · intro x hx
    simp only [hl]
    exact h.wk x hx
theorem modify_set {l : List Pl} {s : Nat} {p : Pl} (f : Pl → Pl) (h : l[s]? = some p) : l.modify s f = l.set s (f p) := by
  obtain ⟨a, b, rfl, hl, hset⟩ := pl_split h
  rw [hset, ← hl]
  clear h hset hl
  induction a with
  | nil => rfl
  | cons x a ih =>
    show (x :: (a ++ p :: b)).modify (a.length + 1) f = x :: (a ++ f p :: b)
    rw [List.modify_succ_cons, ih]
set_option maxRecDepth 100000 in
theorem lose_any (h : DiskB B g gp wv d w) (hb : B ≤ w.heap.size) (s : Int) : Calls Tryz.prog 139 #[.pointer (some ⟨g, 0, none⟩), .int .i64 s] w fun e w' => e = .returned (.int .i64 (loseD d s).2) ∧ DiskB B g gp wv (loseD d s).1 w' ∧ Kt B w w' := by
  have hbA := blw w (Obj.cells #[.int .i64 s] 3)
  have hA := h.below hbA
  have hk := Kt.of hbA hb
  have hq : (w.alloc (Obj.cells #[.int .i64 s] 3)).cell? ⟨w.heap.size, 0, none⟩ = some (.int .i64 s) := blk_cell (heap_alloc_new w _) 0 _ rfl
  have ht := there_1 hA s w.heap.size hq
  have c0 := hA.c0
  have hP := hA.pls
  unfold loseD
  by_cases h0 : thereD d s = 0
  · rw [if_neg (by simpa using h0)]
    rw [h0] at ht
    have hsr : 0 ≤ s ∧ s < d.pl.length := by
      unfold thereD at h0
      split at h0
      · cases h0
      · split at h0
        · cases h0
        · omega
    obtain ⟨k, rfl⟩ : ∃ k : Nat, s = k := ⟨s.toNat, by omega⟩
    have hk2 : k < d.pl.length := by omega
    have hpk : d.pl[k]? = some d.pl[k] := List.getElem?_eq_getElem hk2
    simp only [Int.toNat_natCast]
    rw [modify_set _ hpk]
    have hok := h.ok _ (List.getElem_mem hk2)
    generalize d.pl[k] = p at *
    go_enter Tryz.func139, Tryz.ntmps139
    go_wp2_with (first
      | (go_at_call 124; refine ht.mono ?_; rintro e w1 ⟨rfl, rfl⟩)
      | ((first | (with_reducible refine wpList_stB 4 _ _ ?_) | (with_reducible refine wp_stB 4 _ _ ?_)); refine ⟨_, _, _, ⟨_, _, _, Tryz.sizeOf4, rfl, ‹_›, pls_lost hpk⟩, ?_⟩; intro w5 B5 g5))
    go_ret
    have hs := hA.sect B5 g5 hok
    exact ⟨rfl, hs.1, hk.trans hs.2⟩
  · rw [if_pos (by simpa using h0)]
    have h0b : (thereD d s != 0) = true := by simpa using h0
    go_enter Tryz.func139, Tryz.ntmps139
    go_wp2_with (go_at_call 124; refine ht.mono ?_; rintro e w1 ⟨rfl, rfl⟩)
    go_ret
    exact ⟨rfl, hA, hk⟩
end

set_option maxRecDepth 100000 in
theorem own_any (b : List UInt8) (hb : b.length = 64) (w : World) : Calls Tryz.prog 125 #[.agg (bys b).toArray] w fun e w' => (∃ a c, e = .returned (.slice a 64 c) ∧ w'.ownsRow w.heap.size 5 1 (.slice a 64 c) 64 (bys b)) ∧ Below w.heap.size w w' := by
  have hr : Row (w.alloc (Obj.cells (bys b).toArray 216)) (some ⟨w.heap.size, 0, none⟩) (bys b) := Row.of_block (heap_alloc_new w (Obj.cells (bys b).toArray 216)) 0 (fun i u hu => by rw [Nat.zero_add]; exact hu)
  go_enter Tryz.func125, Tryz.ntmps125
  refine wp_seq_k (fun K hK => ?_)
  have HK := Lib.hid hK
  clear hK
  go_wp2
  refine HK.out _ _ ?_
  clear HK
  change Code.wp _ _ _ _ (w.alloc (Obj.cells (bys b).toArray 216))
  go_wp2_with (at_builtin; refine wpList_append_row rfl _ _ 34 5 elByte rfl w.heap.size _ 0 [] rfl (World.ownsRow_nil _ _ _ _) (some ⟨w.heap.size, 0, none⟩) 64 64 (bys b) rfl (by rw [bys_len]; omega) hr bys_one (by decide) (by decide) (by simp) ?_; intro v4 w4 ho4 hb4)
  rw [Nat.zero_add, List.nil_append] at ho4
  obtain ⟨a, c, rfl, _⟩ := Row.of_owns ho4
  go_ret
  exact ⟨⟨a, c, rfl, ho4⟩, (blw w (Obj.cells (bys b).toArray 216)).trans hb4⟩
end Go.Proofs.YthfolocjkpiljaaGreatDoor

namespace Go.Proofs.YthfolocjkpiljaaGreatDoor
open Go.RowKit

theorem lastW_hit {b : List UInt8} {k s : Nat} {l : List (List UInt8 × Nat)} (h : lastW l s = none) (hk : k = s) : lastW ((b, k) :: l) s = some b := by
  simp only [lastW, h]
  rw [if_pos hk]
theorem lastW_miss {b : List UInt8} {k s : Nat} {l : List (List UInt8 × Nat)} (h : lastW l s = none) (hk : k ≠ s) : lastW ((b, k) :: l) s = none := by
  simp only [lastW, h]
  rw [if_neg hk]
theorem lastW_pre {s : Nat} {b : List UInt8} : ∀ (a l : List (List UInt8 × Nat)), lastW l s = some b → lastW (a ++ l) s = some b
  | [], _, h => h
  | (c, k) :: a, l, h => by
    have := lastW_pre a l h
    simp only [List.cons_append, lastW, this]
theorem pl_rest {l : List Pl} {k : Nat} {p : Pl} (h : l[k]? = some p) (hp : p.rest.length = 64) : k * 129 + 64 ≤ (plsV l).size ∧ (plsV l).extract (k * 129) (k * 129 + 64) = (bys p.rest).toArray := by
  have hs := (List.getElem?_eq_some_iff.1 h).1
  refine ⟨by rw [plsV_size]; omega, ?_⟩
  obtain ⟨a, b, rfl, hl, _⟩ := pl_split h
  have hfa : (a.flatMap plC).length = k * 129 := by rw [flat_len plC_len, hl, Nat.mul_comm]
  have h64 : (bys p.rest).length = 64 := by rw [bys_len]; exact hp
  have e : (plsV (a ++ p :: b)).toList = a.flatMap plC ++ (bys p.rest ++ (bys (fix64 p.meant) ++ [.bool p.lost] ++ b.flatMap plC)) := by
    unfold plsV
    simp only [List.flatMap_append, List.flatMap_cons]
    rw [show plC p = bys p.rest ++ (bys (fix64 p.meant) ++ [.bool p.lost]) by unfold plC; rw [fix64_of hp]]
    simp only [List.append_assoc]
  apply Array.toList_inj.1
  rw [Array.toList_extract, e]
  show List.take (k * 129 + 64 - k * 129) (List.drop (k * 129) _) = bys p.rest
  rw [← hfa, List.drop_left, show (a.flatMap plC).length + 64 - (a.flatMap plC).length = 64 by omega, ← h64, List.take_left]
theorem pl_lostAt (p : Pl) : (plC p)[128]? = some (.bool p.lost) := by
  have h1 : (bys (fix64 p.rest)).length = 64 := by rw [bys_len, fix64_len]
  have h2 : (bys (fix64 p.meant)).length = 64 := by rw [bys_len, fix64_len]
  unfold plC
  rw [List.getElem?_append_right (by omega), h1, List.getElem?_append_right (by omega), h2]
  rfl
theorem wt_sec (x : List UInt8 × Nat) : (wtC x)[64]? = some (.int .i64 (x.2 : Int)) := by
  have h1 : (bys (fix64 x.1)).length = 64 := by rw [bys_len, fix64_len]
  unfold wtC
  rw [List.getElem?_append_right (by omega), h1]
  rfl
theorem wt_bytes {x : List UInt8 × Nat} (hx : x.1.length = 64) {j : Nat} {u : Value} (h : (bys x.1).toArray[j]? = some u) : (wtC x)[j]? = some u := by
  rw [List.getElem?_toArray] at h
  unfold wtC
  rw [fix64_of hx, List.getElem?_append_left (List.getElem?_eq_some_iff.1 h).1]
  exact h

/-- What a call that tells bytes of a sector hands back. -/
def ReadRes (base : Nat) (r : List UInt8 × Int) (e : Ending) (w' : World) : Prop :=
  if r.2 = 0 then ∃ a c, e = .returned (.tuple #[.slice a 64 c, .int .i64 0]) ∧ w'.ownsRow base 5 1 (.slice a 64 c) 64 (bys r.1) else e = .returned (.tuple #[.slice none 0 0, .int .i64 r.2])

theorem ReadRes.err {base : Nat} {x : Int} {w' : World} (h : x ≠ 0) : ReadRes base ([], x) (.returned (.tuple #[.slice none 0 0, .int .i64 x])) w' := by
  unfold ReadRes
  rw [if_neg h]
theorem ReadRes.ok {base : Nat} {b : List UInt8} {w' : World} {a : Option Addr} {c : Nat} (h : w'.ownsRow base 5 1 (.slice a 64 c) 64 (bys b)) : ReadRes base (b, 0) (.returned (.tuple #[.slice a 64 c, .int .i64 0])) w' := by
  unfold ReadRes
  rw [if_pos rfl]
  exact ⟨a, c, rfl, h⟩
section
variable {B g gp : Nat} {wv : Value} {d : Dk} {w : World}
set_option maxRecDepth 100000 in
set_option maxHeartbeats 1000000 in
theorem read_any (h : DiskB B g gp wv d w) (s : Int) : Calls Tryz.prog 197 #[.pointer (some ⟨g, 0, none⟩), .int .i64 s] w fun e w' => ReadRes w.heap.size (readD d s) e w' ∧ Below w.heap.size w w' := by
  have hbA := blw w (Obj.cells #[.int .i64 s] 3)
  have hA := h.below hbA
  have hq : (w.alloc (Obj.cells #[.int .i64 s] 3)).cell? ⟨w.heap.size, 0, none⟩ = some (.int .i64 s) := blk_cell (heap_alloc_new w _) 0 _ rfl
  have ht := live_1 hA s w.heap.size hq
  by_cases h0 : liveD d s = 0
  case neg =>
    rw [show readD d s = ([], liveD d s) by unfold readD; rw [if_pos h0]]
    have h0b : (liveD d s != 0) = true := by simpa using h0
    go_enter Tryz.func197, Tryz.ntmps197
    go_wp2_with (go_at_call 140; refine ht.mono ?_; rintro e w1 ⟨rfl, rfl⟩)
    go_ret2
    exact ⟨ReadRes.err h0, hbA⟩
  case pos =>
    rw [h0] at ht
    have hsr : 0 ≤ s ∧ s < d.pl.length := by
      unfold liveD at h0
      split at h0
      · cases h0
      · unfold thereD at h0
        split at h0
        · cases h0
        · split at h0
          · cases h0
          · omega
    obtain ⟨k, rfl⟩ : ∃ k : Nat, s = k := ⟨s.toNat, by omega⟩
    obtain ⟨R, hR⟩ : ∃ R, readD d k = R := ⟨_, rfl⟩
    rw [hR]
    unfold readD at hR
    rw [if_neg (by simpa using h0)] at hR
    clear h0 hq
    have hk2 : k < d.pl.length := by omega
    have hpk : d.pl[k]? = some d.pl[k] := List.getElem?_eq_getElem hk2
    have hok := h.ok _ (List.getElem_mem hk2)
    simp only [Int.toNat_natCast] at hR
    rw [hpk] at hR
    simp only at hR
    generalize d.pl[k] = p at *
    obtain ⟨wa, wc, rfl, hwr, hwl, hwm⟩ := Row.of_owns hA.wts
    unfold maxLen at hwm
    have c0 := hA.c0
    have c1 := hA.c1
    have hP := hA.pls
    have cl : (w.alloc (Obj.cells #[.int .i64 (k : Int)] 3)).cell? ⟨gp, k * 129 + 128, none⟩ = some (.bool p.lost) := blk_cell hP _ _ (pls_at hpk (pl_lostAt p))
    have hwk := Lib.hid h.wk
    have HW := Lib.hid hwr
    have hwA : w.heap.size ≤ (w.alloc (Obj.cells #[.int .i64 (k : Int)] 3)).heap.size := hbA.size
    have HR := Lib.hid hR
    clear hR hwr h
    go_enter Tryz.func197, Tryz.ntmps197
    refine wp_seq_k (fun K hK => ?_)
    have HK := Lib.hid hK
    clear hK
    go_wp2
    refine HK.out _ _ ?_
    clear HK
    refine wp_seq_k (fun K hK => ?_)
    have HK := Lib.hid hK
    clear hK
    go_wp2_with (go_at_call 140; refine ht.mono ?_; rintro e w1 ⟨rfl, rfl⟩)
    refine HK.out _ _ ?_
    clear HK
    generalize w.alloc (Obj.cells #[.int .i64 (k : Int)] 3) = wA at *
    refine wp_seq_k (fun K hK => ?_)
    have HK := Lib.hid hK
    clear hK
    go_wp2_with fail
    go_loopw [7] (fun i wr => ∃ j : Nat, j ≤ d.waits.length ∧ i = .int .i64 ((j : Int) - 1) ∧ Hid (lastW (d.waits.drop j) k = none) ∧ wr = wA) (fun i _ => ((intOf i) + 1).toNat)
    case atStart => exact ⟨d.waits.length, Nat.le_refl _, rfl, Lib.hid (by rw [List.drop_length]; rfl), rfl⟩
    case round =>
      obtain ⟨j, hj, rfl, hla, rfl⟩ := hrel
      cases j with
      | zero =>
        have hln : lastW d.waits k = none := by have h := hla.out; rw [List.drop_zero] at h; exact h
        have hR := HR.out
        rw [hln] at hR
        simp only at hR
        clear hla hln HR
        cases hlo : p.lost
        case true =>
          rw [hlo, if_pos rfl] at hR
          rw [hlo] at cl
          subst hR
          rw [show (((0 : Nat) : Int) - 1) = -1 by omega]
          go_wp2
          refine HK.out _ _ ?_
          clear HK
          go_wp2
          go_ret2
          exact ⟨ReadRes.err (by decide), hbA⟩
        case false =>
          rw [hlo, if_neg (by simp)] at hR
          rw [hlo] at cl
          subst hR
          rw [show (((0 : Nat) : Int) - 1) = -1 by omega]
          go_wp2
          refine HK.out _ _ ?_
          clear HK
          go_wp2_with (first
            | ((with_reducible refine wpList_ldB 216 _ ?_); refine ⟨rfl, _, ⟨_, _, _, _, _, Tryz.isAgg216, Tryz.sizeOf216, rfl, ‹_›, pl_rest hpk hok.1⟩, ?_⟩)
            | (go_at_call 125; refine (own_any _ hok.1 _).mono ?_; rintro e w5 ⟨⟨a5, c5, rfl, ho5⟩, hb5⟩))
          go_ret2
          exact ⟨ReadRes.ok (owns_mono ho5 hwA), hbA.trans (hb5.mono hwA)⟩
      | succ j =>
        have hat : d.waits[j]? = some d.waits[j] := List.getElem?_eq_getElem (by omega)
        have hxk := hwk.out _ (List.getElem_mem (show j < d.waits.length by omega))
        have hdr := List.drop_eq_getElem_cons (show j < d.waits.length by omega)
        generalize d.waits[j] = x at *
        obtain ⟨b, off, rfl, hbl, hc0, hcs⟩ := HW.out.flat0 wtC_len (by decide) hat
        have cs := hcs 64 _ (wt_sec x)
        have HDR := Lib.hid hdr
        have HAT := Lib.hid hat
        clear hdr hat
        rw [show (((j + 1 : Nat) : Int) - 1) = (j : Int) by omega]
        obtain ⟨bx, kx⟩ := x
        simp only at hxk cs
        by_cases hkx : kx = k
        case pos =>
          subst hkx
          have hl2 : lastW d.waits kx = some bx := by
            have h := lastW_pre (d.waits.take j) (d.waits.drop j) (by rw [HDR.out]; exact lastW_hit hla.out rfl)
            rwa [List.take_append_drop] at h
          have hR := HR.out
          rw [hl2] at hR
          simp only at hR
          subst hR
          clear hl2 hla HR
          go_wp2_with (first
            | ((with_reducible refine wpList_ldC 216 _ ?_); refine ⟨rfl, _, ⟨_, _, _, Tryz.isAgg216, Tryz.sizeOf216, rfl, (show (bys bx).toArray.size = 64 by rw [List.size_toArray, bys_len]; exact hxk.1), fun j u hu => hcs j u (wt_bytes hxk.1 hu)⟩, ?_⟩)
            | (go_at_call 125; refine (own_any _ hxk.1 _).mono ?_; rintro e w5 ⟨⟨a5, c5, rfl, ho5⟩, hb5⟩))
          go_ret2
          exact ⟨ReadRes.ok (owns_mono ho5 hwA), hbA.trans (hb5.mono hwA)⟩
        case neg =>
          have hl2 : lastW (d.waits.drop j) k = none := by rw [HDR.out]; exact lastW_miss hla.out hkx
          have HL2 := Lib.hid hl2
          have hkb : ((kx : Int) == (k : Int)) = false := by rw [beq_eq_false_iff_ne]; omega
          clear hl2 hla
          go_wp2
          go_roundw
          case rel => exact ⟨j, by omega, by go_num, HL2, by first | trivial | rfl⟩
          case measure => first | (simp [intOf]; done) | (simp [intOf]; omega)
end
end Go.Proofs.YthfolocjkpiljaaGreatDoor

