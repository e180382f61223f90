/- Texts that the claim leans on, part 8: S3, Rng, Rng2, S4, Rng3, S5, D36, D37a. -/
import Derived.Test.YtbdonjenekhmdaaGreatDoorZ1
import Derived.Test.YtbdonjenekhmdaaGreatDoorZ2
import Derived.Test.YtbdonjenekhmdaaGreatDoorZ3
import Derived.Test.YtbdonjenekhmdaaGreatDoorZ4
import Derived.Test.YtbdonjenekhmdaaGreatDoorZ5
import Derived.Test.YtbdonjenekhmdaaGreatDoorZ6
import Derived.Test.YtbdonjenekhmdaaGreatDoorZ7
import Derived.Test.YtbdonjenekhmdaaGreatDoorRows
import Derived.WalkKit
import Derived.WalkSpells
import Derived.WalkLawsBesides
import Derived.Handy
import Derived.Deep.QuietTactic
import Derived.BigQuiet
import Derived.Deep.DeepCutAuto
import Derived.Lib.Hide
import Derived.RegionTactic
import Derived.ChangeAlike
import Derived.Laws.ResultCell
import Derived.Outline
import Derived.Carry
import Derived.Maps.Own
import Derived.Maps.Keyed
import Derived.RangeFuncNested
import Derived.RangeFuncBound
import Derived.RangeFuncCalls
import Derived.RangeFuncLeaves
import Derived.RangeFuncBox
import Derived.RangeFuncRecord
import Derived.Shelf.Abstract
import Derived.Shelf.RegionOpen
import Derived.OwnWalkIn
import Derived.TacticsInMore
import Derived.LoopNIn
import Derived.LoopIn
import Derived.OrdersIn
import Derived.OrdersHeld
import Derived.Maps.AppendAt
import Derived.Lib.SliceRun
import Derived.Laws.MakeOwn
import Derived.IntWalk
import Derived.Laws.BitsAllLaws
import Derived.Great.BuildSlice
import Derived.Great.FillDense
import Derived.Laws.Rows
import Derived.Deep.Quiet
import Derived.Deep.RegionHeld3
import Derived.ProofKit
import Derived.OpenShut
import Derived.Deep.RegionHeld
import Derived.Laws.CopyOwn
import Derived.Laws.CopyRow
import Derived.Laws.NewBlocks
import Derived.Deep.RegionLaw
namespace Go.Proofs.YtbdonjenekhmdaaGreatDoor
open Go.RowKit Go.Maps
theorem wp_append_row {P : Program} {w : World} {o : Oper} {a : Act} {K : Act → World → Prop} {Q : Exit → Act → World → Prop} (s x : Operand) (t e : TypeId) {size bytes : Nat} (hT : ElemT P t e size bytes)
  (ho : o.op = .call { callee := .builtin .append, args := #[s, x], argTypes := #[t, t] })
  (base : Nat) (v : Value) (n : Nat) (xs : List Value) (hs : a.eval s = v) (hown : w.ownsRow base e size v n xs)
  (ad : Option Addr) (m c : Nat) (news : List Value) (hx : a.eval x = .slice ad m c) (hl : news.length = m * size) (hrow : Row w ad news) (h1 : ∀ u ∈ news, u.oneCell' = true)
  (hn : n + m ≤ 4294967296) (hby : bytes ≤ 4096) (hbase : base ≤ w.heap.size)
  (h : ∀ v' w', w'.ownsRow base e size v' (n + m) (xs ++ news) → Below base w w' → w.grownBy w' v.ownBlock → K (a.put o.dst v') w') : o.wp P a w K Q := by
 by_cases hm : m = 0
 ·subst hm
  have hnil : news = [] := List.eq_nil_of_length_eq_zero (by simpa using hl)
  subst hnil
  obtain ⟨ba, cap, hv, _, hnc, _⟩ := Row.of_owns hown
  subst hv
  refine wp_run (exec_append s x t t ho _ _ hs hx (run_append_nothing (P := P) w t o.type e hT ba n cap hnc ad c)) (h _ _ ?_ (Below.refl _ _) (World.grownBy.refl _ _))
  simpa using hown
 ·obtain ⟨i, z, ht, hi, hz, hsize, hbytes, hzs, hsz⟩ := hT.ex
  have hpos : 0 < news.length := by rw [hl]; exact Nat.mul_pos (by omega) hsz
  obtain ⟨b, off, rfl, hc⟩ := hrow.at hpos
  refine wp_appN s x t t e e hT ht ho base v n xs hs hown ⟨b, off, none⟩ m c news hx hl (fun j u hj => ?_) h1 hn hby hbase (fun v' w' h2 h3 => h v' w' h2 (gb_to_below h3 hbase fun k e => ?_) h3)
  ·rw [addr_add]
   exact hc j u hj
  ·rcases hown.2 with ⟨e2, _⟩ | ⟨g, cap, cur, e2, h5, _⟩
   ·rw [e2] at e; cases e
   ·rw [e2] at e; simp [Value.ownBlock] at e; omega
theorem wp_mapUpdate_own {H : Type} {P : Program} {w : World} {o : Oper} {a : Act} {K : Act → World → Prop} {Q : Exit → Act → World → Prop}
  (m x v : Operand) (t : TypeId) (hop : o.op = Op.mapUpdate t m x v)
  (k e : TypeId) (Kd : Keyed P k) (ht : P.underlying t = some (.map k e)) (R : Value → Option (DataW H × List MemPlace)) (b n : Nat) (D : DataW H)
  (hm : a.eval m = .map (some b)) (hown : w.ownsMap P k R b n D) (hn : n < maxLen) (key val : Value) (kl : Lit) (hx : a.eval x = key) (hv : a.eval v = val) (hkey : keyOf P k key = some kl)
  (d : DataW H) (ps : List MemPlace) (hval : R val = some (d, ps))
  (hK : ∀ w', w'.ownsMap P k R b (n + 1) (D.put kl d) → w.grownBy w' (some b) → K (a.put o.dst undef) w') : o.wp P a w K Q := by
 obtain ⟨w', hrun, r1, r2⟩ := hown.update Kd ht hn hkey hval
 unfold Oper.wp
 simp [execOp, hop, hm, hx, hv, hrun, Result.andThen]
 exact hK w' r1 r2
def mute (_ : Value) : Option (DataW Unit × List MemPlace) := some (.lit (.bool true), [])
structure HpB (w : World) (q m : Nat) (cnt : Int) (D : DataW Unit) (n : Nat) : Prop where
 box : w.heap[q]? = some (.cells #[.int .i64 cnt, .map (some m)] 258 (0, 0))
 map : w.ownsMap Tryz.prog 3 mute m n D
theorem HpB.below {w w' : World} {q m n : Nat} {cnt : Int} {D : DataW Unit} (h : HpB w q m cnt D n) (hb : Below w.heap.size w w') : HpB w' q m cnt D n :=
 ⟨tr_bl hb h.box, h.map.kept (gb_of_below hb none) (by simp)⟩
set_option maxRecDepth 100000 in
theorem hnone_any {w : World} {q m n : Nat} {cnt : Int} {D : DataW Unit} (h : HpB w q m cnt D n) (hc : 1 ≤ cnt) : Calls Tryz.prog 184 #[.pointer (some ⟨q, 0, none⟩)] w fun e w' => e = .returned (.bool false) ∧ w = w' := by
 have c0 := blk_cell h.box 0 _ rfl
 have e0 : (cnt == 0) = false := by rw [beq_eq_false_iff_ne]; omega
 go_enter Tryz.func184, Tryz.ntmps184
 go_wp2
 go_ret
 exact ⟨ret_bool rfl, rfl⟩
set_option maxRecDepth 100000 in
theorem knew_bad (cnt : Int) (w : World) (h : cnt < 1 ∨ 8 < cnt) : Calls Tryz.prog 123 #[.int .i64 cnt] w fun e w' => e = .returned (.tuple #[.pointer none, .int .i64 2]) ∧ w = w' := by
 by_cases h1 : cnt < 1
 ·go_enter Tryz.func123, Tryz.ntmps123
  go_wp2
  go_ret2
  exact ⟨rfl, rfl⟩
 ·have h2 : 8 < cnt := by omega
  go_enter Tryz.func123, Tryz.ntmps123
  go_wp2
  go_ret2
  exact ⟨rfl, rfl⟩
set_option maxRecDepth 100000 in
theorem knew_ok (cnt : Int) (w : World) (h1 : 1 ≤ cnt) (h2 : cnt ≤ 8) : Calls Tryz.prog 123 #[.int .i64 cnt] w fun e w' => (∃ q m, e = .returned (.tuple #[.pointer (some ⟨q, 0, none⟩), .int .i64 0]) ∧ w.heap.size ≤ q ∧ w.heap.size ≤ m ∧ HpB w' q m cnt (.map []) 0) ∧ Below w.heap.size w w' := by
 have i1 : ¬ cnt < 1 := by omega
 have i2 : ¬ 8 < cnt := by omega
 have hmm := @run_makeMap Tryz.prog
 have hm0 := World.ownsMap_made (H := Unit) w Tryz.prog 3 mute
 go_enter Tryz.func123, Tryz.ntmps123
 refine seqH (fun K HK => ?_)
 go_wp2
 refine HK.out _ _ ?_
 clear HK
 refine seqH (fun K HK => ?_)
 go_wp2
 refine HK.out _ _ ?_
 clear HK
 go_wp2
 go_ret2
 have hbx := heap_alloc_new (w.alloc (.map #[] 0)) (.cells #[.int .i64 cnt, .map (some w.heap.size)] 258)
 rw [show (w.alloc (.map #[] 0)).heap.size = w.heap.size + 1 by simp] at hbx
 exact ⟨⟨w.heap.size + 1, w.heap.size, rfl, Nat.le_succ _, Nat.le_refl _, ⟨hbx, hm0.alloc _⟩⟩, by (repeat' (first | (with_reducible exact Below.refl _ _) | (with_reducible assumption) | (with_reducible refine Below.alloc ?_ ?_ _) | (with_reducible refine Below.drew ?_) | (with_reducible refine below_drewN ?_ _) | (with_reducible refine Below.setCell ?_ ?_ _) | (with_reducible refine Below.trans ?_ (by assumption)) | go_size))⟩
set_option maxRecDepth 100000 in
theorem kput_any {w : World} {q m n : Nat} {cnt : Int} {D : DataW Unit} (h : HpB w q m cnt D n) (h1 : 1 ≤ cnt) (h2 : cnt ≤ 8) (hn : n < 1000) (b : Nat) (hbm : b ≤ m) (hbw : b ≤ w.heap.size) (k : Int) (a : Option Addr) (cap : Nat) (c : List UInt8) (hs : SlB w a cap c) :
  Calls Tryz.prog 124 #[.pointer (some ⟨q, 0, none⟩), .int .i64 k, .slice a c.length cap] w fun e w' => e = .returned (.int .i64 (if fitsC k cnt c.length = true then 0 else 2)) ∧ Below b w w' := by
 have c0 := blk_cell h.box 0 _ rfl
 have hno := fun w (h : HpB w q m cnt D n) => hnone_any h h1
 have hfi := fun w => kfits_any k cnt c.length (by omega) w
 cases hf : fitsC k cnt c.length
 case false =>
  rw [if_neg (by simp)]
  rw [hf] at hfi
  clear hf
  go_enter Tryz.func124, Tryz.ntmps124
  go_wp2_with (first
   | (go_at_call 184; refine (hno _ h).mono ?_; rintro e w1 ⟨rfl, rfl⟩)
   | (go_at_call 185; refine (hfi _).mono ?_; rintro e w2 ⟨rfl, hb2⟩))
  go_ret
  exact ⟨rfl, hb2.mono hbw⟩
 case true =>
  rw [if_pos rfl]
  have hc80 : c.length ≤ 80 ∧ 0 ≤ k ∧ k ≤ 8 := by
   unfold fitsC at hf
   split at hf
   ·cases hf
   ·omega
  rw [hf] at hfi
  clear hf
  go_enter Tryz.func124, Tryz.ntmps124
  refine seqH (fun K HK => ?_)
  go_wp2
  refine HK.out _ _ ?_
  clear HK
  refine seqH (fun K HK => ?_)
  go_wp2_with (first
     | (go_at_call 184; refine (hno _ h).mono ?_; rintro e w1 ⟨rfl, rfl⟩)
     | (go_at_call 185; refine (hfi _).mono ?_; rintro e w2 ⟨rfl, hb2⟩))
  refine HK.out _ _ ?_
  clear HK
  have h3 := h.below hb2
  have s3 := hs.below hb2
  have hbb := hb2.mono hbw
  clear hno hfi hs c0
  refine seqH (fun K HK => ?_)
  go_wp2_with fail
  have hbd := (Below.refl w2.heap.size w2).drew
  have h4 := h3.below hbd
  have s4 := s3.below hbd
  have hB2 : b ≤ w2.heap.size := Nat.le_trans hbw hbb.size
  have hb4 := hbb.trans (hbd.mono hB2)
  have c1 := blk_cell h4.box 1 _ rfl
  refine wp_region_held_drew (S := fun w' => w'.cell? ⟨q, 1, none⟩ = some (.map (some m))) (by kernel_rfl) c1 (fun hS0 => ?_)
  generalize w2.drew = x0 at *
  refine tkT 0 rfl (by intro wS hSw; go_simp; (try with_reducible rfl)) ?_
  refine tkT 1 rfl (by intro wS hSw; go_simp; (try with_reducible rfl)) ?_
  refine tkT 2 rfl (by intro wS hSw; go_simp; (try with_reducible rfl)) ?_
  refine tkT 3 rfl (by intro wS hSw; have c := hSw; go_simp; (try with_reducible rfl)) ?_
  refine tkT 4 rfl (by intro wS hSw; go_simp; (try with_reducible rfl)) ?_
  refine tkT 6 rfl (by intro wS hSw; go_simp; (try with_reducible rfl)) ?_
  refine rdy1 5 rfl (fun K' hK' => ?_)
  go_simp
  have ho := owns_empty x0 5 1
  have hba := blw x0 (Obj.cells #[] 5)
  have s5 := s4.below hba
  refine hK'.out _ _ (cell_later hba c1) (fun _ => ?_)
  clear hK'
  (try simp only [Act.put]); (try simp only [List.setIfInBounds_toArray]); (try simp only [List.set_cons_succ]); (try simp only [List.set_cons_zero])
  refine rdy1 7 rfl (fun K' hK' => ?_)
  refine wp_append_row _ _ 37 5 elByte rfl x0.heap.size _ 0 [] rfl ho a c.length cap (bys c) rfl (by rw [bys_len]; omega) s5.row bys_one (by omega) (by decide) hba.size ?_
  intro v6 w6 ho6 hb6 hg6
  have hb7 := hba.trans hb6
  have h6 := h4.below hb7
  refine hK'.out _ _ (cell_later hb7 c1) (fun _ => ?_)
  clear hK'
  (try simp only [Act.put]); (try simp only [List.setIfInBounds_toArray]); (try simp only [List.set_cons_succ]); (try simp only [List.set_cons_zero])
  refine rdy1 8 rfl (fun K' hK' => ?_)
  refine wp_mapUpdate_own _ _ _ 256 rfl 3 37 (int_keyed Tryz.underlying3) Tryz.underlying256 mute m n D rfl h6.map (by unfold maxLen; omega) (.int .i64 k) v6 (.int .i64 k) rfl rfl (keyOf_int_mk Tryz.underlying3 (by simp only [Lit.wf, IntKind.min, IntKind.max, IntKind.signed, IntKind.bits, Bool.and_eq_true, decide_eq_true_eq, if_true]; omega)) (.lit (.bool true)) [] rfl ?_
  intro w7 hm7 hg7
  have h4b := blk_cell h6.box 1 _ rfl
  have hb8 := (hb4.trans (hb7.mono (Nat.le_trans hB2 hbd.size))).grown hg7 (Nat.le_trans hB2 (Nat.le_trans hbd.size hb7.size)) (fun j e => by cases e; exact hbm)
  refine hK'.out _ _ (blk_cell (tr_st hg7 h6.box ?_) 1 _ rfl) (fun _ => ?_)
  ·rintro rfl
   obtain ⟨es, cl, hh, _⟩ := h6.map
   rw [h6.box] at hh
   cases hh
  clear hK'
  (try simp only [Act.put]); (try simp only [List.setIfInBounds_toArray]); (try simp only [List.set_cons_succ]); (try simp only [List.set_cons_zero])
  refine wpAnyH_done (by kernel_rfl) ?_ _
  refine HK.out _ _ ?_
  clear HK
  go_wp2
  go_ret
  exact ⟨rfl, hb8⟩
set_option maxRecDepth 100000 in
theorem sfits_any (k cnt : Int) (a : Option Addr) (cap : Nat) (c : List UInt8) (w : World) (hs : SlB w a cap c) : Calls Tryz.prog 55 #[.int .i64 k, .int .i64 cnt, .slice a c.length cap] w fun e w' => e = .returned (.bool (fitsC k cnt c.length)) ∧ Below w.heap.size w w' := by
 by_cases hb : cnt < 1 ∨ 8 < cnt
 ·have hf : fitsC k cnt c.length = false := by unfold fitsC; rw [if_pos (by omega)]
  rw [hf]
  clear hf
  go_enter Tryz.func55, Tryz.ntmps55
  go_wp2_with (go_at_call 123; refine (knew_bad cnt _ hb).mono ?_; rintro e w1 ⟨rfl, rfl⟩)
  go_ret
  exact ⟨rfl, Below.refl _ _⟩
 ·have h1 : 1 ≤ cnt := by omega
  have h2 : cnt ≤ 8 := by omega
  have hp := fun w1 q m (hb1 : Below w.heap.size w w1) (hm : w.heap.size ≤ m) (h : HpB w1 q m cnt (.map []) 0) => kput_any h h1 h2 (by omega) w.heap.size hm hb1.size k a cap c (hs.below hb1)
  have hn := knew_ok cnt w h1 h2
  clear hb h1 h2
  cases hf : fitsC k cnt c.length
  case true =>
   simp only [hf, if_true] at hp
   clear hf
   go_enter Tryz.func55, Tryz.ntmps55
   go_wp2_with (first
    | (go_at_call 123; refine hn.mono ?_; rintro e w1 ⟨⟨q, m, rfl, hq, hm, hh⟩, hb1⟩)
    | (go_at_call 124; refine (hp _ q m hb1 hm hh).mono ?_; rintro e w2 ⟨rfl, hb2⟩))
   go_ret
   exact ⟨rfl, hb1.trans hb2⟩
  case false =>
   simp only [hf] at hp
   clear hf
   go_enter Tryz.func55, Tryz.ntmps55
   go_wp2_with (first
    | (go_at_call 123; refine hn.mono ?_; rintro e w1 ⟨⟨q, m, rfl, hq, hm, hh⟩, hb1⟩)
    | (go_at_call 124; refine (hp _ q m hb1 hm hh).mono ?_; rintro e w2 ⟨rfl, hb2⟩))
   go_ret
   exact ⟨rfl, hb1.trans hb2⟩
end Go.Proofs.YtbdonjenekhmdaaGreatDoor
namespace Go.Proofs.YtbdonjenekhmdaaGreatDoor
open Go.RowKit
theorem calls_marks {P : Program} {f : FuncId} {fn : Func} {c : Code} {args : Array Value} {w : World} {R : Ending → World → Prop} (hf : P.funcs[f]? = some fn) (hb : fn.body = some c)
  (h : c.wp P (bodyPostM Fence.wide 3 P fn R) { tmps := args ++ Array.replicate (fn.ntmps - args.size) undef, defers := [] } w) : Calls P f args w R :=
 callsIn_wide.1 (callsIn_of_wp_marks (F := Fence.wide) (n := 3) hf hb trivial (wpIn_wide.2 h))
structure KpH (n m : Nat) (W W' : World) : Prop where
 bl : Below n W W'
 bx : ∀ k, m ≤ k → k < m + 4 → W'.heap[k]? = W.heap[k]?
theorem KpH.trans {n m : Nat} {A B C : World} (h : KpH n m A B) (k : KpH n m B C) : KpH n m A C := ⟨h.bl.trans k.bl, fun i h1 h2 => (k.bx i h1 h2).trans (h.bx i h1 h2)⟩
theorem KpH.put {n m : Nat} {w : World} (hn : n ≤ w.heap.size) (hm : m + 4 ≤ w.heap.size) (W : World) (l : Nat) (o o' : Obj) (hl : w.heap.size ≤ l) (h : W.heap[l]? = some o) (h1 : o.isCells = false) (h2 : o.isWalk = false) : KpH n m W (W.putObj l o') :=
 ⟨belowK_b hn W l o o' hl h h1 h2, fun k _ hk => (grownBy_putObj' W l o').block k (by have := (Array.getElem?_eq_some_iff.1 h).1; omega) (fun e => by cases e; omega)⟩
theorem KpH.below {n m : Nat} {W W' : World} (h : Below W.heap.size W W') (hn : n ≤ W.heap.size) (hm : m + 4 ≤ W.heap.size) : KpH n m W W' := ⟨h.mono hn, fun k _ hk => h.block k (by omega)⟩
theorem marks_ret {P : Program} {fn : Func} {R : Ending → World → Prop} {tmps : Array Value} {D : Nat} {v : Value} {w : World} (hK : w.heap[D]? = some (.deferred (some []))) (hres : (results fn tmps).run P (w.putObj D (.deferred none)) = .ok v (w.putObj D (.deferred none)))
  (hR : R (.returned v) (w.putObj D (.deferred none))) : bodyPostM Fence.wide 3 P fn R .ret { tmps := tmps, defers := [{ target := .collected D, args := #[] }] } w :=
 ⟨by simp, .inl ⟨_, _, rfl, run_takeDeferred hK, v, hres, hR⟩⟩
theorem marks_end {P : Program} {fn : Func} {R : Ending → World → Prop} {tmps : Array Value} {v : Value} {w : World} (hres : (results fn tmps).run P w = .ok v w) (hR : R (.returned v) w) : bodyPostM Fence.wide 3 P fn R .ret { tmps := tmps, defers := [] } w := ⟨v, hres, hR⟩
theorem below_mark {n D : Nat} {w W : World} (h : Below n w W) (hD : n ≤ D) : Below n w (W.putObj D (.deferred none)) :=
 h.trans ⟨rfl, rfl, rfl, by simp [World.putObj], fun k hk => World.putObj_heap_other (by omega)⟩
end Go.Proofs.YtbdonjenekhmdaaGreatDoor
namespace Go.Proofs.YtbdonjenekhmdaaGreatDoor
open Go.RowKit
structure KpB (n m : Nat) (A B : World) : Prop where
 bl : Below n A B
 bx : B.heap[m]? = A.heap[m]?
theorem KpB.trans {n m : Nat} {A B C : World} (h : KpB n m A B) (k : KpB n m B C) : KpB n m A C := ⟨h.bl.trans k.bl, k.bx.trans h.bx⟩
theorem KpB.put {n m : Nat} {W : World} {l : Nat} {o : Obj} (o' : Obj) (hn : n ≤ l) (hm : m < l) (h : W.heap[l]? = some o) : KpB n m W (W.putObj l o') := by
 have hl := (Array.getElem?_eq_some_iff.1 h).1
 exact ⟨(Below.refl n W).grown (grownBy_putObj' W l o') (by omega) (fun k e => by cases e; exact hn), (grownBy_putObj' W l o').block m (by omega) (fun e => by cases e; omega)⟩
def Carry {α : Type} (B m : Nat) (I : List α → World → Prop) : Prop :=
 ∀ s A B' row, I s A → A.grownBy B' row → (∀ r, row = some r → r = m ∨ (B ≤ r ∧ ∃ o : Obj, A.heap[r]? = some o ∧ o.isCells = false)) → I s B'
theorem Carry.put {α : Type} {B m l : Nat} {I : List α → World → Prop} (h : Carry B m I) {s : List α} {W : World} {o : Obj} (o' : Obj) (hs : I s W) (hB : B ≤ l) (hl : W.heap[l]? = some o) (ho : o.isCells = false) : I s (W.putObj l o') :=
 h s W _ (some l) hs (grownBy_putObj' W l o') (fun r e => by cases e; exact .inr ⟨hB, o, hl, ho⟩)
theorem Carry.al {α : Type} {B m : Nat} {I : List α → World → Prop} (h : Carry B m I) {s : List α} {W : World} (o : Obj) (hs : I s W) : I s (W.alloc o) :=
 h s W _ none hs (World.grownBy_alloc W o none) (fun r e => by cases e)
theorem grown_at {A B : World} {row : Option Nat} {m k : Nat} {o : Obj} (hg : A.grownBy B row) (hr : ∀ r, row = some r → r = m) (hk : A.heap[k]? = some o) (hne : k ≠ m) : B.heap[k]? = some o :=
 (hg.block k (Array.getElem?_eq_some_iff.1 hk).1 (fun e => hne (hr k e.symm))).trans hk
theorem wp_range_box {α : Type} {P : Program} {g : Operand} {ps : Array Tmp} {assign body : Code} {Q : Exit → Act → World → Prop} {a : Act} {w : World}
  {gf : Nat} {lb : Array Value} (hg : a.eval g = .func (.func gf) #[] lb) (eg : ∀ args w, (callFunc gf args).run P w = .ok (.enter gf args) w)
  {encs : α → Array Value} {n m N : Nat} {S : List α → Prop} (hm : m < w.heap.size) (hn : n ≤ w.heap.size)
  (hseq : ∀ (l : Nat) (J : List α → World → Prop) (W : World), Below w.heap.size w W → (∀ s A B row, J s A → A.grownBy B row → (∀ r, row = some r → r = m) → J s B) →
   (∀ pre x W1, J pre W1 → pre.length < N → YieldAt Fence.wide 1 P l (encs x) W1 fun e W' => e = .returned (.bool true) ∧ J (pre ++ [x]) W' ∧ KpB n m W1 W') → J [] W →
   CallsIn Fence.wide 2 P gf (#[.func (.yield l) #[] #[]] ++ lb) W fun e W' => (∃ v, e = .returned v) ∧ ∃ xs, S xs ∧ J xs W')
  (hps : ∀ x, (encs x).size = ps.size) (I : List α → World → Prop) (hI : Carry w.heap.size m I) (h0 : I [] w) (a₁ : α → Act)
  (hassign : ∀ (l : Nat) (x : α) (W : World) (K : Act → World → Prop), K (a₁ x) W →
   assign.wpIn (Fence.wide.inRound l) 1 P (Exit.then K (fun _ _ _ => False)) { tmps := (ps.zip (encs x)).foldl (fun t (p, v) => t.setIfInBounds p v) a.tmps, defers := [] } W)
  (hbody : ∀ (l : Nat) (pre : List α) (x : α) (W : World), I pre W → pre.length < N → body.wpIn (Fence.wide.inRound l) 1 P (fun e _ W' => e = .normal ∧ KeepsFrom w.heap.size W W' ∧ KpB n m W W' ∧ I (pre ++ [x]) W') (a₁ x) W)
  (hdone : ∀ (D : Nat) (xs : List α) (W : World), w.heap.size ≤ D → S xs → I xs W → W.heap[D]? = some (.deferred (some [])) → Q .normal { a with defers := { target := .collected D, args := #[] } :: a.defers } W) :
  (Code.rangeFunc g ps assign body).wp P Q a w := by
 refine wpIn_wide.1 (wpIn_rangeFunc (F := Fence.wide) (n := 3) (fun fn hfn => ?_))
 obtain ⟨rec, hrec⟩ : ∃ rec : LoopState → Loop, rec = fun st => { state := st, pending := none, fn, tmps := a.tmps, params := ps, assign, body, defers := w.heap.size } := ⟨_, rfl⟩
 obtain ⟨D, hD⟩ : ∃ D, w.heap.size = D := ⟨_, rfl⟩
 have he := run_enterLoop_outer (P := P) (w := w) fn a.tmps ps assign body
 obtain ⟨W1, hW1⟩ : ∃ W1, (w.alloc (.deferred (some []))).alloc (.loop { state := .ready, pending := none, fn, tmps := a.tmps, params := ps, assign, body, defers := w.heap.size }) = W1 := ⟨_, rfl⟩
 rw [hW1] at he
 have hL1 : W1.heap[D + 1]? = some (.loop (rec .ready)) := by
  rw [← hW1, hrec]
  have := World.alloc_heap_new (w.alloc (.deferred (some []))) (.loop { state := .ready, pending := none, fn, tmps := a.tmps, params := ps, assign, body, defers := w.heap.size })
  rw [World.size_alloc, hD] at this
  rw [hD]
  exact this
 have hK1 : W1.heap[D]? = some (.deferred (some [])) := by
  rw [← hW1, ← hD]
  exact (Below.heap_alloc _ _ _ (by simp)).trans (World.alloc_heap_new w _)
 have hI1 : I [] W1 := by rw [← hW1]; exact hI.al _ (hI.al _ h0)
 have hb1 : Below w.heap.size w W1 := by
  rw [← hW1]
  exact ((Below.refl _ w).alloc (Nat.le_refl _) _).alloc (by simp) _
 rw [hD] at he
 refine ⟨D + 1, [{ target := .collected D, args := #[] }], W1, { target := .fn (.func gf) lb, args := #[.func (.yield (D + 1)) #[] #[]] }, W1, gf, #[.func (.yield (D + 1)) #[] #[]] ++ lb, W1, he, ?_, fun _ _ => trivial, ?_, fun _ => by decide, ?_⟩
 ·simp only [resolve, hg]
  simp [go_sem]
 ·simp [invoke, go_sem, eg]
 ·refine (hseq (D + 1) (fun pre W => I pre W ∧ W.heap[D + 1]? = some (.loop (rec .ready)) ∧ W.heap[D]? = some (.deferred (some []))) W1 hb1 ?_ ?_ ⟨hI1, hL1, hK1⟩).mono ?_
  ·rintro s A B row ⟨h1, h2, h3⟩ hgr hr
   exact ⟨hI s A B row h1 hgr (fun r e => .inl (hr r e)), grown_at hgr hr h2 (by omega), grown_at hgr hr h3 (by omega)⟩
  ·rintro pre x W ⟨hi, hl, hk⟩ hlen
   have hy := run_yield (P := P) (args := encs x) hl (by rw [hrec]; exact hps x)
   rw [hrec] at hy
   refine ⟨fn, _, assign, body, hy, roundIn_of_wpIn hfn (hassign _ x W _ ?_)⟩
   refine ⟨_, run_beginRound hl (by rw [hrec]), ?_⟩
   have hlt := (Array.getElem?_eq_some_iff.1 hl).1
   have hl2 : (W.putObj (D + 1) (.loop { rec .ready with state := .busy })).heap[D + 1]? = some (.loop { rec .ready with state := .busy }) := World.putObj_heap_same hlt
   have hk2 : (W.putObj (D + 1) (.loop { rec .ready with state := .busy })).heap[D]? = some (.deferred (some [])) := (World.putObj_heap_other (by omega)).trans hk
   have hp2 : KpB n m W (W.putObj (D + 1) (.loop { rec .ready with state := .busy })) := KpB.put _ (by omega) (by omega) hl
   refine wpIn_mono (hbody _ pre x _ (hI.put _ hi (by omega) hl rfl) hlen) ?_
   rintro e a3 W3 ⟨rfl, hk3, hkp3, hi3⟩
   have hl3 := hk3.same _ _ (by omega) hl2 rfl
   have hd3 := hk3.same _ _ (by omega) hk2 rfl
   have hr := run_endRound (P := P) none hl3
   rw [hrec] at hr hl3
   refine ⟨_, _, hr, rfl, ⟨hI.put _ hi3 (by omega) hl3 rfl, ?_, (World.putObj_heap_other (by omega)).trans hd3⟩, (hp2.trans hkp3).trans (KpB.put _ (by omega) (by omega) hl3)⟩
   rw [hrec]
   exact World.putObj_heap_same (Array.getElem?_eq_some_iff.1 hl3).1
  ·rintro e W2 ⟨⟨v, rfl⟩, xs, hS, hi, hl, hk⟩
   refine ⟨none, _, by have := run_endLoop (P := P) hl (by rw [hrec]; simp); rw [hrec] at this; exact this, ?_⟩
   exact hdone D xs _ (by omega) hS (hI.put _ hi (by omega) hl rfl) ((World.putObj_heap_other (by omega)).trans hk)
end Go.Proofs.YtbdonjenekhmdaaGreatDoor
namespace Go.Proofs.YtbdonjenekhmdaaGreatDoor
open Go.RowKit Go.Shelf
def adrC (a : Option Addr) (k : Nat) : Option Addr := a.map (·.add (80 * k))
def slC (a : Option Addr) (cap : Nat) (b : List UInt8) (k : Nat) : Value := .slice (adrC a k) (b.length - 80 * k) (cap - 80 * k)
def encC (a : Option Addr) (cap : Nat) (b : List UInt8) (k : Nat) : Array Value := #[.slice (adrC a k) (pcC b k).length (cap - 80 * k)]
theorem pcC_len (b : List UInt8) (k : Nat) : (pcC b k).length = min 80 (b.length - 80 * k) := by unfold pcC; rw [List.length_take, List.length_drop]
theorem adr_zero (a : Option Addr) : adrC a 0 = a := by
 cases a with
 | none => rfl
 | some x => simp [adrC, Addr.add]
theorem adr_some (bk off k : Nat) : adrC (some ⟨bk, off, none⟩) k = some ⟨bk, off + 80 * k, none⟩ := by simp [adrC, addr_add]
theorem piece_slb {w : World} {a : Option Addr} {cap : Nat} {b : List UInt8} (h : SlB w a cap b) (k : Nat) : SlB w (adrC a k) (cap - 80 * k) (pcC b k) := by
 by_cases hk : 80 * k < b.length
 ·obtain ⟨bk, off, e⟩ := h.some_of (by omega)
  subst e
  rw [adr_some]
  exact h.sub (80 * k) 80 (by omega)
 ·have h0 : pcC b k = [] := List.eq_nil_of_length_eq_zero (by rw [pcC_len]; omega)
  rw [h0]
  refine ⟨.inl rfl, Nat.zero_le _, by have := h.max; omega, fun e => ?_⟩
  cases a with
  | none => have := h.nil rfl; omega
  | some x => cases e
set_option maxRecDepth 100000 in
theorem pieces_any (a : Option Addr) (cap : Nat) (n : Nat) (w : World) : Calls Tryz.prog 107 #[.slice a n cap] w fun e w' =>
  e = .returned (.func (.func 177) #[] #[.pointer (some ⟨w.heap.size, 0, none⟩)]) ∧ Boxed w' w.heap.size 37 (.slice a n cap) ∧ Below w.heap.size w w' := by
 go_enter Tryz.func107, Tryz.ntmps107
 refine seqH (fun K HK => ?_)
 go_wp2
 refine HK.out _ _ ?_
 clear HK
 go_wp2
 go_ret
 exact ⟨rfl, Boxed.new _ _ _, by (repeat' (first | (with_reducible exact Below.refl _ _) | (with_reducible assumption) | (with_reducible refine Below.alloc ?_ ?_ _) | (with_reducible refine Below.drew ?_) | (with_reducible refine below_drewN ?_ _) | (with_reducible refine Below.setCell ?_ ?_ _) | (with_reducible refine Below.trans ?_ (by assumption)) | go_size))⟩
theorem boxed_kpb {n m : Nat} {A B : World} {t : TypeId} {v : Value} (h : Boxed A m t v) (hk : KpB n m A B) : Boxed B m t v := hk.bx.trans h
def lenOf (w : World) (m : Nat) : Nat := match w.cell? ⟨m, 0, none⟩ with | some (.slice _ n _) => n | _ => 0
theorem lenOf_eq {w : World} {m n c : Nat} {a : Option Addr} {t : TypeId} (h : Boxed w m t (.slice a n c)) : lenOf w m = n := by unfold lenOf; rw [h.cell]
set_option maxRecDepth 100000 in
set_option maxHeartbeats 4000000 in
theorem pieces_in (a : Option Addr) (cap : Nat) (b : List UInt8) (hle : b.length ≤ cap) (hmx : b.length ≤ 640) (ha : 0 < b.length → ∃ bk off, a = some ⟨bk, off, none⟩) (n m l N : Nat) (hN : numC b.length ≤ N) (J : List Nat → World → Prop) (W : World) (hbx : Boxed W m 37 (.slice a b.length cap))
  (hJ : ∀ s A B row, J s A → A.grownBy B row → (∀ r, row = some r → r = m) → J s B)
  (hY : ∀ pre x W1, J pre W1 → pre.length < N → YieldAt Fence.wide 1 Tryz.prog l (encC a cap b x) W1 fun e W' => e = .returned (.bool true) ∧ J (pre ++ [x]) W' ∧ KpB n m W1 W') (h0 : J [] W) :
  CallsIn Fence.wide 2 Tryz.prog 177 (#[.func (.yield l) #[] #[]] ++ #[.pointer (some ⟨m, 0, none⟩)]) W fun e W' => (∃ v, e = .returned v) ∧ ∃ xs, xs = List.range (numC b.length) ∧ J xs W' := by
 refine callsIn_of_wp Tryz.func177 rfl trivial ?_ rfl
 simp only [Tryz.ntmps177, List.size_toArray, List.length_cons, List.length_nil, Nat.reduceAdd, Nat.reduceSub, Array.replicate_succ, Array.replicate_zero, List.push_toArray, List.append_toArray, List.nil_append, List.cons_append]
 gi_wp2
 gi_loopw [] (fun wr => ∃ k : Nat, (k = 0 ∨ 80 * k < b.length) ∧ Boxed wr m 37 (slC a cap b k) ∧ J (List.range k) wr) (fun wr => lenOf wr m)
 case atStart => exact ⟨0, .inl rfl, by unfold slC; rw [adr_zero]; exact hbx, h0⟩
 case round =>
  obtain ⟨k, hk, hbr, hJs⟩ := hrel
  unfold slC at hbr
  have hlo := lenOf_eq hbr
  have hcell := hbr.cell
  have hfr := hbr.frozen
  have hmn : k + 1 ≤ numC b.length := by unfold numC; split <;> omega
  have hYk := hY (List.range k) k wr hJs (by rw [List.length_range]; omega)
  rw [← List.range_succ] at hYk
  obtain ⟨fn, tmps, assign, body, hy, hR⟩ := hYk
  by_cases hlt : 80 < b.length - 80 * k
  ·have hk2 : k + 2 ≤ numC b.length := by unfold numC; split <;> omega
   obtain ⟨bk, off, rfl⟩ := ha (by omega)
   have he : encC (some ⟨bk, off, none⟩) cap b k = #[.slice (some ⟨bk, off + 80 * k, none⟩) 80 (cap - 80 * k)] := by
    unfold encC
    rw [adr_some, pcC_len, Nat.min_eq_left (by omega)]
   rw [he] at hy
   have hs2 : slC (some ⟨bk, off, none⟩) cap b (k + 1) = .slice (some ⟨bk, off + 80 * k + 80, none⟩) (b.length - 80 * k - 80) (cap - 80 * k - 80) := by
    unfold slC
    rw [adr_some, show off + 80 * (k + 1) = off + 80 * k + 80 by omega, show b.length - 80 * (k + 1) = b.length - 80 * k - 80 by omega, show cap - 80 * (k + 1) = cap - 80 * k - 80 by omega]
   rw [adr_some] at hbr hcell
   clear he
   have hc1 : 80 ≤ cap - 80 * k := by omega
   have hc2 : ¬ cap - 80 * k = 80 := by omega
   have hl2 : b.length - 80 * k ≤ cap - 80 * k := by omega
   generalize hr : b.length - 80 * k = r at *
   generalize hcc : cap - 80 * k = C at *
   have hI : (80 : Int) < (r : Int) := by omega
   gi_wp2
   refine hR.mono ?_
   rintro e W3 ⟨rfl, hJ3, hk3⟩
   have hb3 := boxed_kpb hbr hk3
   have hc3 := hb3.cell
   have hf3 := hb3.frozen
   clear hcell hfr hy hR
   gi_wp2
   go_roundw
   case rel => exact ⟨k + 1, .inr (by omega), by rw [hs2]; exact hb3.set _, hJ _ _ _ _ hJ3 (grownBy_setCell' _ _ _) (fun r e => by cases e; rfl)⟩
   case measure =>
    rw [hlo, lenOf_eq (hb3.set _)]
    omega
  ·have hnk : numC b.length = k + 1 := by
    unfold numC
    split <;> omega
   have he : encC a cap b k = #[.slice (adrC a k) (b.length - 80 * k) (cap - 80 * k)] := by
    unfold encC
    rw [pcC_len, Nat.min_eq_right (by omega)]
   rw [he] at hy
   clear he
   generalize adrC a k = ad at *
   generalize hr : b.length - 80 * k = r at *
   generalize hcc : cap - 80 * k = C at *
   have hI : ¬ (80 : Int) < (r : Int) := by omega
   gi_wp2
   refine hR.mono ?_
   rintro e W3 ⟨rfl, hJ3, hk3⟩
   gi_wp2
   go_end0
   exact ⟨⟨_, rfl⟩, _, by rw [hnk], hJ3⟩
end Go.Proofs.YtbdonjenekhmdaaGreatDoor
namespace Go.Proofs.YtbdonjenekhmdaaGreatDoor
open Go.RowKit
section
variable {P : Program} {ops : Array Oper} {Q : Exit → Act → World → Prop} {md : Region.Mode}
theorem rows_in {n : Nat} {row : String} {args : Array Value} {w : World} {R : Value → World → Prop} (l : Nat) (h : Rows P row args w R) : RowsIn (Fence.wide.inRound l) n P row args w R :=
 fun c cs _ => let ⟨v, w', r, s⟩ := h c cs; ⟨v, w', r, stepsIn_wide.2 s⟩
theorem wp_in {o : Oper} {n l : Nat} {a : Act} {w : World} {K : Act → World → Prop} (hd : ∀ c, o.op ≠ .defer c) (h : o.wp P a w K Q) : o.wpIn (Fence.wide.inRound l) n P a w K Q := by
 refine ⟨fun _ _ => trivial, ?_⟩
 rw [Oper.semAt_plain _ _ _ hd]
 unfold Oper.wp at h
 generalize (execOp a.eval o).run P w = r at *
 cases r with
 | ok x w' =>
  cases x with
  | enter f args => exact ⟨fun hh => (by simp [Fence.wide] at hh), callsIn_wide.2 h⟩
  | row rw args => exact ⟨fun hh => (by simp [Fence.wide] at hh), rows_in l h⟩
  | _ => first | exact h | exact h.elim
 | halt x w' => cases x <;> first | exact h | exact h.elim
theorem any_in {n l : Nat} (hd : ∀ (i : Nat) (o : Oper), ops[i]? = some o → ∀ c, o.op ≠ .defer c) (hQ : ¬ LetsOut Q) : ∀ (fuel : Nat) (listed : Array Bool) (a : Act) (w : World), wpAny P md ops Q fuel listed a w → wpAnyIn (Fence.wide.inRound l) n P md ops Q fuel listed a w := by
 intro fuel
 induction fuel with
 | zero => intro listed a w h; exact h
 | succ fuel ih =>
  intro listed a w h
  refine ⟨h.1, fun i hi => ?_⟩
  have h1 := h.2 i hi
  unfold wpOp at h1
  unfold wpOpIn
  cases ho : ops[i]? with
  | none =>
   rw [ho] at h1
   exact ih _ _ _ h1
  | some o =>
   rw [ho] at h1
   simp only at h1 ⊢
   by_cases hw : Region.wanted o (yielded ops a.tmps) = true
   ·rw [if_pos hw] at h1 ⊢
    rcases h1 with h1 | ⟨_, h2⟩
    ·exact Oper.wpIn_mono (fun a w hh => ih _ a w hh) (wp_in (hd i o ho) h1)
    ·exact (hQ h2).elim
   ·rw [if_neg hw] at h1 ⊢
    exact ⟨fun _ _ => trivial, ih _ _ _ h1⟩
theorem wpIn_region_held_drew {S : World → Prop} {l n id : Nat} {a : Act} {w : World} (hd : ∀ o ∈ ops, ∀ c, o.op ≠ .defer c) (hQ : ¬ LetsOut Q) (hm : P.follows .mixedOrders = true) (hS : S w.drew) (h : S w.drew → wpAnyH P .any ops Q S ops.size (Array.replicate ops.size false) a w.drew) :
  (Code.region id ops true).wpIn (Fence.wide.inRound l) n P Q a w :=
 wpIn_region_any hm (any_in (fun _ o ho => hd o (Array.mem_of_getElem? ho)) hQ _ _ _ _ (wpAny_of_held _ _ _ _ (h hS)))
end
end Go.Proofs.YtbdonjenekhmdaaGreatDoor
namespace Go.Proofs.YtbdonjenekhmdaaGreatDoor
open Go.RowKit Go.Shelf
attribute [local go_sem] Oper.semAt_some
set_option maxRecDepth 100000 in
theorem sclone_any (a : Option Addr) (cap : Nat) (l : List UInt8) (w : World) (hs : SlB w a cap l) (hl : l.length ≤ 1000) : Calls Tryz.prog 108 #[.slice a l.length cap] w fun e w' => (∃ a' c', e = .returned (.slice a' l.length c') ∧ OwnS w' w.heap.size a' c' l) ∧ Below w.heap.size w w' := by
 cases a with
 | none =>
  have hc := hs.nil rfl
  have h0 : l.length = 0 := by have := hs.le; omega
  have h00 := List.eq_nil_of_length_eq_zero h0
  subst h00
  subst hc
  have hq : (binOp .eql 37 (.slice none 0 0) (.slice none 0 0)).run Tryz.prog w = .ok (.bool true) w := by
   have := Lib.run_eql_slice_nil (P := Tryz.prog) w 37 5 none 0 0 0 0 Tryz.underlying37
   exact this
  go_enter Tryz.func108, Tryz.ntmps108
  refine seqH (fun K HK => ?_)
  go_wp2
  refine HK.out _ _ ?_
  clear HK
  go_wp2
  go_ret
  exact ⟨⟨none, 0, rfl, OwnB.none _ _, Nat.le_refl _, by decide, fun _ => rfl⟩, Below.refl _ _⟩
 | some ad =>
  have hq : (binOp .eql 37 (.slice (some ad) l.length cap) (.slice none 0 0)).run Tryz.prog w = .ok (.bool false) w := by
   have := Lib.run_eql_slice_nil (P := Tryz.prog) w 37 5 (some ad) l.length cap 0 0 Tryz.underlying37
   exact this
  have hbe := blw w (Obj.cells #[] 5)
  have ho := owns_empty w 5 1
  have hse := hs.below hbe
  go_enter Tryz.func108, Tryz.ntmps108
  refine seqH (fun K HK => ?_)
  go_wp2
  refine HK.out _ _ ?_
  clear HK
  refine seqH (fun K HK => ?_)
  go_wp2
  refine HK.out _ _ ?_
  clear HK
  clear hq
  go_wp2_with (at_builtin; refine wpList_append_row rfl _ _ 37 5 elByte rfl w.heap.size _ 0 [] rfl ho (some ad) l.length cap (bys l) rfl (by rw [bys_len]; omega) hse.row bys_one (by omega) (by decide) hbe.size ?_; intro v4 w4 ho4 hb4)
  rw [Nat.zero_add, List.nil_append] at ho4
  go_ret
  refine ⟨?_, hbe.trans hb4⟩
  rcases ho4.2 with ⟨h1, h2⟩ | ⟨g, c, cur, h1, h2, h3, h4, h5, h6, h7⟩
  ·have h00 := List.eq_nil_of_length_eq_zero h2
   subst h00
   subst h1
   exact ⟨none, 0, rfl, OwnB.none _ _, Nat.le_refl _, by decide, fun _ => rfl⟩
  ·refine ⟨some ⟨g, 0, none⟩, c, by rw [h1]; rfl, ?_, h4, h5, fun e => by cases e⟩
   refine .inr ⟨g, cur.toList.drop (bys l).length, rfl, h2, Nat.le_refl _, Nat.le_trans h4 h5, ?_⟩
   rw [Nat.mul_one] at h7
   have e : bys l ++ cur.toList.drop (bys l).length = cur.toList := by
    rw [bys_len, ← h7, List.take_append_drop]
   rw [e, Array.toArray_toList]
   exact h3
/-! Chunks in memory: an element of a slice of slices. -/
abbrev Ek := Option Addr × Nat × List UInt8
def ekV (e : Ek) : Value := .slice e.1 e.2.2.length e.2.1
def ChIn (w : World) (base : Nat) (v : Value) (l : List (List UInt8)) : Prop :=
 ∃ es : List Ek, w.ownsRow base 37 1 v es.length (es.map ekV) ∧ es.map (·.2.2) = l ∧ ∀ e ∈ es, OwnS w base e.1 e.2.1 e.2.2
section
variable {w w' : World} {base : Nat} {v : Value} {l : List (List UInt8)} {row : Option Nat}
theorem OwnS.kept {a : Option Addr} {c : Nat} {b : List UInt8} (h : OwnS w base a c b) (hg : w.grownBy w' row) (hr : ∀ r, row = some r → r < base ∨ ∃ o : Obj, w.heap[r]? = some o ∧ o.isCells = false) : OwnS w' base a c b := by
 refine ⟨?_, h.2⟩
 rcases h.1 with h1 | ⟨g, ys, h1, h2, h3, h4, h5⟩
 ·exact .inl h1
 ·refine .inr ⟨g, ys, h1, h2, h3, h4, (hg.block g (Array.getElem?_eq_some_iff.1 h5).1 (fun e => ?_)).trans h5⟩
  rcases hr g e.symm with h6 | ⟨o, h6, h7⟩
  ·omega
  ·rw [h5] at h6; cases h6; cases h7
theorem owns_kept {e : TypeId} {size n : Nat} {xs : List Value} (h : w.ownsRow base e size v n xs) (hg : w.grownBy w' row) (hr : ∀ r, row = some r → r < base ∨ ∃ o : Obj, w.heap[r]? = some o ∧ o.isCells = false) : w'.ownsRow base e size v n xs := by
 refine h.kept hg ?_
 rcases h.2 with ⟨rfl, _⟩ | ⟨g, cap, cur, rfl, h2, h3, _⟩
 ·exact .inl rfl
 ·refine .inr fun e' => ?_
  rcases hr g e'.symm with h6 | ⟨o, h6, h7⟩
  ·omega
  ·rw [h3] at h6; cases h6; cases h7
theorem ChIn.kept (h : ChIn w base v l) (hg : w.grownBy w' row) (hr : ∀ r, row = some r → r < base ∨ ∃ o : Obj, w.heap[r]? = some o ∧ o.isCells = false) : ChIn w' base v l := by
 obtain ⟨es, h1, h2, h3⟩ := h
 exact ⟨es, owns_kept h1 hg hr, h2, fun e he => (h3 e he).kept hg hr⟩
theorem ChIn.below (h : ChIn w base v l) (hb : Below w.heap.size w w') : ChIn w' base v l := h.kept (gb_of_below hb none) (fun r e => by cases e)
theorem ChIn.kt {B : Nat} (h : ChIn w base v l) (hk : Kt B w w') : ChIn w' base v l := by
 obtain ⟨es, h1, h2, h3⟩ := h
 refine ⟨es, ⟨h1.1, ?_⟩, h2, fun e he => (h3 e he).kt hk⟩
 rcases h1.2 with h4 | ⟨g, cap, cur, h4, h5, h6, h7⟩
 ·exact .inl h4
 ·exact .inr ⟨g, cap, cur, h4, h5, hk.ty _ _ _ h6 (by decide) (by decide) (by decide), h7⟩
theorem ChIn.mono {base' : Nat} (h : ChIn w base v l) (hb : base' ≤ base) : ChIn w base' v l := by
 obtain ⟨es, h1, h2, h3⟩ := h
 exact ⟨es, owns_mono h1 hb, h2, fun e he => (h3 e he).mono hb⟩
theorem ChIn.nil (w : World) (base : Nat) : ChIn w base (.slice none 0 0) [] := ⟨[], World.ownsRow_nil _ _ _ _, rfl, fun _ h => by cases h⟩
end
theorem elSl : ElemT Tryz.prog 54 37 1 24 := ElemT.of (.slice none 0 0) Tryz.underlying54 (by kernel_rfl) rfl (by decide)
def SpI (b : List UInt8) (B n1 : Nat) (w : World) (pre : List Nat) (W : World) : Prop :=
 ∃ v, Boxed W B 54 v ∧ ChIn W n1 v (pre.map (pcC b)) ∧ Below w.heap.size w W ∧ n1 ≤ W.heap.size
theorem sp_carry {b : List UInt8} {w : World} {n1 : Nat} (h1 : w.heap.size + 2 ≤ n1) : Carry n1 (w.heap.size + 1) (SpI b w.heap.size n1 w) := by
 rintro s A B' row ⟨v, hv, hc, hb, hn⟩ hg hr
 refine ⟨v, hv.kept hg (fun e => ?_), hc.kept hg (fun r e => ?_), hb.grown hg hb.size (fun r e => ?_), Nat.le_trans hn hg.size⟩
 ·rcases hr _ e.symm with h | ⟨h, _⟩ <;> omega
 ·rcases hr _ e with h | ⟨_, h⟩
  ·exact .inl (by omega)
  ·exact .inr h
 ·rcases hr _ e with h | ⟨h, _⟩ <;> omega
theorem sp_round {b : List UInt8} {w W w3 w5 : World} {n1 c3 x : Nat} {a3 : Option Addr} {v v5 : Value} {es : List Ek} {pre : List Nat} (hz : w.heap.size + 2 ≤ n1) (hv : Boxed W w.heap.size 54 v) (hr : W.ownsRow n1 37 1 v es.length (es.map ekV)) (he : es.map (·.2.2) = pre.map (pcC b)) (ho : ∀ e ∈ es, OwnS W n1 e.1 e.2.1 e.2.2)
  (hB : Below w.heap.size w W) (hsW : n1 ≤ W.heap.size) (hb3 : Below W.drew.heap.size W.drew w3) (hO3 : OwnS w3 W.drew.heap.size a3 c3 (pcC b x)) (ho5 : w5.ownsRow n1 37 1 v5 (es.length + 1) (es.map ekV ++ [ekV (a3, c3, pcC b x)])) (hg5 : (w3.alloc (Obj.cells #[ekV (a3, c3, pcC b x)] 37)).grownBy w5 v.ownBlock) :
  Boxed w5 w.heap.size 54 v ∧ KeepsFrom n1 W (w5.setCell ⟨w.heap.size, 0, none⟩ v5) ∧ KpB w.heap.size (w.heap.size + 1) W (w5.setCell ⟨w.heap.size, 0, none⟩ v5) ∧ SpI b w.heap.size n1 w (pre ++ [x]) (w5.setCell ⟨w.heap.size, 0, none⟩ v5) := by
 have hb3' : Below W.heap.size W w3 := (Below.refl W.heap.size W).drew.trans hb3
 have hv3 : Boxed w3 w.heap.size 54 v := tr_bl hb3' hv
 have hr3 := owns_bl hr hb3'
 have hs3 : W.heap.size ≤ w3.heap.size := hb3'.size
 have hno : ∀ r, v.ownBlock = some r → n1 ≤ r ∧ ∃ cur, w3.heap[r]? = some (.cells cur 37 (0, 0)) := by
  intro r e
  rcases hr3.2 with ⟨rfl, _⟩ | ⟨g, cap, cur, rfl, h2, h3, _⟩
  ·cases e
  ·simp [Value.ownBlock] at e
   subst e
   exact ⟨h2, cur, h3⟩
 have hv4 := hv3.alloc (Obj.cells #[ekV (a3, c3, pcC b x)] 37)
 have hv5 : Boxed w5 w.heap.size 54 v := hv4.kept hg5 (fun e => by have := (hno _ e.symm).1; omega)
 have hb4 : Below W.heap.size W (w3.alloc (Obj.cells #[ekV (a3, c3, pcC b x)] 37)) := hb3'.alloc hs3 _
 have hb5 : Below n1 W w5 := (hb4.mono hsW).grown hg5 (by simp; omega) (fun r e => (hno r e).1)
 have hb6 : Below w.heap.size W (w5.setCell ⟨w.heap.size, 0, none⟩ v5) := (hb5.mono (show w.heap.size ≤ n1 by omega)).setCell (p := ⟨w.heap.size, 0, none⟩) (Nat.le_refl _) v5
 have hk4 : KeepsOthers W (w3.alloc (Obj.cells #[ekV (a3, c3, pcC b x)] 37)) := (KeepsOthers.of_grownBy (gb_of_below hb3' none) (fun _ _ e => by cases e)).trans (KeepsOthers.alloc _ _)
 have hk5 : KeepsOthers W w5 := hk4.trans (KeepsOthers.of_grownBy hg5 (fun j o ej hj => by
  obtain ⟨cur, hc⟩ := (hno j ej).2
  rw [tr_al _ hc] at hj
  cases hj
  rfl))
 refine ⟨hv5, (hk5.trans (KeepsOthers.setCell _ _ _)).from _, ⟨hb6, ?_⟩, v5, hv5.set _, ?_, hB.trans hb6, ?_⟩
 ·have e1 : (w5.setCell ⟨w.heap.size, 0, none⟩ v5).heap[w.heap.size + 1]? = w5.heap[w.heap.size + 1]? := Below.heap_setCell _ _ _ _ (by simp)
  rw [e1]
  exact hb5.block _ (by omega)
 ·refine ⟨es ++ [(a3, c3, pcC b x)], ?_, ?_, ?_⟩
  ·rw [List.map_append, List.length_append]
   exact ho5.kept (grownBy_setCell' _ _ _) (.inr (hv5.not_row (by decide) ho5).symm)
  ·rw [List.map_append, List.map_append, he]
   rfl
  ·intro e hm
   have hset : ∀ r, some w.heap.size = some r → r < n1 ∨ ∃ o : Obj, w5.heap[r]? = some o ∧ o.isCells = false := fun r e => by cases e; exact .inl (by omega)
   have key : ∀ (a : Option Addr) (c : Nat) (l : List UInt8), OwnS w3 n1 a c l → OwnS (w5.setCell ⟨w.heap.size, 0, none⟩ v5) n1 a c l := by
    intro a c l h3
    have h4 := h3.below (blw w3 (Obj.cells #[ekV (a3, c3, pcC b x)] 37))
    refine OwnS.kept (w := w5) ?_ (grownBy_setCell' _ _ _) hset
    refine ⟨?_, h4.2⟩
    rcases h4.1 with h5 | ⟨g, ys, h5, h6, h7, h8, h9⟩
    ·exact .inl h5
    ·refine .inr ⟨g, ys, h5, h6, h7, h8, (hg5.block g (Array.getElem?_eq_some_iff.1 h9).1 (fun e => ?_)).trans h9⟩
     obtain ⟨cur, hc⟩ := (hno g e.symm).2
     rw [tr_al _ hc] at h9
     injection h9 with h9
     injection h9 with _ h10
     exact absurd h10 (by decide)
   rcases List.mem_append.1 hm with hm | hm
   ·exact key _ _ _ ((ho e hm).below hb3')
   ·cases List.mem_singleton.1 hm
    exact key _ _ _ (hO3.mono hsW)
 ·exact Nat.le_trans hsW (Nat.le_trans hb5.size (grownBy_setCell' w5 w.heap.size v5).size)
def SplRes (base : Nat) (b : List UInt8) (e : Ending) (w' : World) : Prop :=
 if 640 < b.length then e = .returned (.tuple #[.slice none 0 0, .int .i64 3]) else ∃ a c, e = .returned (.tuple #[.slice a (numC b.length) c, .int .i64 0]) ∧ ChIn w' base (.slice a (numC b.length) c) (splitC b)
theorem SplRes.long {base : Nat} {b : List UInt8} {w' : World} (h : 640 < b.length) : SplRes base b (.returned (.tuple #[.slice none 0 0, .int .i64 3])) w' := by
 unfold SplRes
 rw [if_pos h]
theorem SplRes.ok {base : Nat} {b : List UInt8} {w' : World} {v : Value} (h : ¬ 640 < b.length) (hc : ChIn w' base v (splitC b)) : SplRes base b (.returned (.tuple #[v, .int .i64 0])) w' := by
 unfold SplRes
 rw [if_neg h]
 obtain ⟨es, h1, h2, h3⟩ := hc
 obtain ⟨a, c, rfl, h4⟩ := Row.of_owns h1
 have hl : es.length = numC b.length := by
  have h5 := congrArg List.length h2
  simpa [splitC] using h5
 rw [← hl]
 exact ⟨a, c, rfl, es, h1, h2, h3⟩
set_option maxRecDepth 100000 in
set_option maxHeartbeats 4000000 in
theorem split_any (a : Option Addr) (cap : Nat) (b : List UInt8) (w : World) (hs : SlB w a cap b) : Calls Tryz.prog 42 #[.slice a b.length cap] w fun e w' => SplRes w.heap.size b e w' ∧ Below w.heap.size w w' := by
 by_cases hl : 640 < b.length
 ·have hI : (640 : Int) < b.length := by omega
  refine calls_marks Tryz.func42 rfl ?_
  simp only [Tryz.ntmps42, List.size_toArray, List.length_cons, List.length_nil, Nat.reduceAdd, Nat.reduceSub, Array.replicate_succ, Array.replicate_zero, List.push_toArray, List.append_toArray, List.nil_append, List.cons_append]
  go_wp2
  exact marks_end (results_tmp2 rfl _ _ _) ⟨SplRes.long hl, Below.refl _ _⟩
 have hI : ¬ (640 : Int) < b.length := by omega
 have hbA := blw w (Obj.cells #[.slice none 0 0] 54)
 have bO := Boxed.new w 54 (.slice none 0 0)
 have hpc := pieces_any a cap b.length (w.alloc (Obj.cells #[.slice none 0 0] 54))
 have hs0 := hs.below hbA
 refine calls_marks Tryz.func42 rfl ?_
 simp only [Tryz.ntmps42, List.size_toArray, List.length_cons, List.length_nil, Nat.reduceAdd, Nat.reduceSub, Array.replicate_succ, Array.replicate_zero, List.push_toArray, List.append_toArray, List.nil_append, List.cons_append]
 go_wp2_with (go_at_call 107; refine hpc.mono ?_; rintro e w2 ⟨rfl, hq, hb2⟩)
 have bO2 : Boxed w2 w.heap.size 54 (.slice none 0 0) := tr_bl hb2 bO
 rw [World.size_alloc] at hq hb2
 have hz : w.heap.size + 2 ≤ w2.heap.size := by have := hq.lt; omega
 have hB2 : Below w.heap.size w w2 := hbA.trans (hb2.mono (by omega))
 have hs2 := hs.below hB2
 have hn8 := (numC_le (show b.length ≤ 640 by omega)).2
 clear hb2 hpc bO hbA hs0
 refine wp_range_box (gf := 177) rfl (enters_of Tryz.func177 (by kernel_rfl) rfl) (encs := encC a cap b) (n := w.heap.size) (m := w.heap.size + 1) (N := numC b.length) (S := fun xs => xs = List.range (numC b.length)) (by omega) (by omega) ?seq (fun _ => rfl)
  (SpI b w.heap.size w2.heap.size w) (sp_carry hz) ⟨_, bO2, ChIn.nil _ _, hB2, Nat.le_refl _⟩
  (fun k => { tmps := #[.slice a b.length cap, undef, .slice none 0 0, .int .i64 0, .pointer (some ⟨w.heap.size, 0, none⟩), .slice (adrC a k) (pcC b k).length (cap - 80 * k), .slice a b.length cap, .int .i64 b.length, .bool false, .slice a b.length cap, .func (.func 177) #[] #[.pointer (some ⟨w.heap.size + 1, 0, none⟩)], .slice (adrC a k) (pcC b k).length (cap - 80 * k), undef, undef, undef, undef, undef, undef], defers := [] }) ?assign ?body ?done
 case seq =>
  intro l J W hW hJ hY h0
  exact pieces_in a cap b hs.le (by omega) (fun h => hs.some_of h) w.heap.size (w.heap.size + 1) l _ (Nat.le_refl _) J W (tr_bl hW hq) hJ hY h0
 case assign =>
  intro l x W K hK
  unfold encC
  gi_wp2
  exact hK
 case body =>
  rintro l pre x W ⟨v, hv, hc, hB, hsW⟩ hlt
  obtain ⟨es, hr, he, ho⟩ := hc
  have hp := piece_slb (hs.below hB) x
  have hpl : (pcC b x).length ≤ 80 := by rw [pcC_len]; omega
  have hlen : es.length ≤ 8 := by
   have h5 := congrArg List.length he
   simp at h5
   omega
  have hbd := (Below.refl W.heap.size W).drew
  have hp0 := hp.below hbd
  have hv0 : Boxed W.drew w.heap.size 54 v := tr_bl hbd hv
  have hr0 := owns_bl hr hbd
  have hsd : w2.heap.size ≤ W.drew.heap.size := Nat.le_trans hsW hbd.size
  refine wpIn_block ?_
  refine wpIn_region_held_drew (S := fun _ => True) ?_ ?_ (by kernel_rfl) trivial (fun hS0 => ?_)
  ·intro o hm c
   simp at hm
   rcases hm with rfl | rfl | rfl | rfl | rfl | rfl <;> simp
  ·rintro ⟨a', w', h⟩
   simp [Exit.inBlock] at h
  ·skip
   refine tkT 1 rfl (by intro wS hSw; go_simp; (try with_reducible rfl)) ?_
   refine wpAnyH_ready (rs := [0, 2]) (by kernel_rfl) (by simp) ?_
   refine AllReadyH.cons (o := ⟨_, _, _, _, _, _⟩) rfl (fun K' hK' => ?_) (AllReadyH.cons (o := ⟨_, _, _, _, _, _⟩) rfl (fun K' hK' => ?_) AllReadyH.nil)
   ·skip
    refine (if_pos (by rfl)).mpr ?_
    have hcl := hv0.cell
    go_simp
    refine hK'.out _ _ trivial (fun _ => ?_)
    clear hK' hcl
    (try simp only [Act.put]); (try simp only [List.setIfInBounds_toArray]); (try simp only [List.set_cons_succ]); (try simp only [List.set_cons_zero])
    refine rdy1 2 rfl (fun K' hK' => ?_)
    go_simp
    refine (sclone_any _ _ (pcC b x) _ hp0 (by omega)).mono ?_
    rintro e w3 ⟨⟨a3, c3, rfl, hO⟩, hb3⟩
    have hv3 := tr_bl hb3 hv0
    change Boxed w3 w.heap.size 54 v at hv3
    refine hK'.out _ _ trivial (fun _ => ?_)
    clear hK'
    (try simp only [Act.put]); (try simp only [List.setIfInBounds_toArray]); (try simp only [List.set_cons_succ]); (try simp only [List.set_cons_zero])
    refine rdy1 3 rfl (fun K' hK' => ?_)
    go_simp
    change K' _ (World.alloc w3 (Obj.cells #[ekV (a3, c3, pcC b x)] 37))
    have hv4 := hv3.alloc (Obj.cells #[ekV (a3, c3, pcC b x)] 37)
    refine hK'.out _ _ trivial (fun _ => ?_)
    clear hK'
    (try simp only [Act.put]); (try simp only [List.setIfInBounds_toArray]); (try simp only [List.set_cons_succ]); (try simp only [List.set_cons_zero])
    refine rdy1 4 rfl (fun K' hK' => ?_)
    refine wp_appN _ _ 54 54 37 37 elSl Tryz.underlying54 rfl w2.heap.size v es.length (es.map ekV) rfl (owns_bl hr0 (hb3.alloc hb3.size _)) ⟨w3.heap.size, 0, none⟩ 1 1 [ekV (a3, c3, pcC b x)] rfl rfl (cell_one_new _ _ _) (by simp [ekV, Value.oneCell']) (by omega) (by decide) (by have := hb3.size; simp; omega) ?_
    intro v5 w5 ho5 hg5
    obtain ⟨g5, c5, rfl⟩ := ownsRow_succ ho5
    obtain ⟨hv5, hr1, hr2, hr3⟩ := sp_round hz hv hr he ho hB hsW hb3 hO ho5 hg5
    refine hK'.out _ _ trivial (fun _ => ?_)
    clear hK'
    (try simp only [Act.put]); (try simp only [List.setIfInBounds_toArray]); (try simp only [List.set_cons_succ]); (try simp only [List.set_cons_zero])
    refine rdy1 5 rfl (fun K' hK' => ?_)
    have hcl := hv5.cell
    have hfr := hv5.frozen
    go_simp
    refine hK'.out _ _ trivial (fun _ => ?_)
    clear hK'
    (try simp only [Act.put]); (try simp only [List.setIfInBounds_toArray]); (try simp only [List.set_cons_succ]); (try simp only [List.set_cons_zero])
    refine wpAnyH_done (by kernel_rfl) ?_ _
    exact ⟨rfl, hr1, hr2, hr3⟩
   ·refine (if_pos (by rfl)).mpr ?_
    go_simp
    refine (sclone_any _ _ (pcC b x) _ hp0 (by omega)).mono ?_
    rintro e w3 ⟨⟨a3, c3, rfl, hO⟩, hb3⟩
    have hv3 := tr_bl hb3 hv0
    change Boxed w3 w.heap.size 54 v at hv3
    refine hK'.out _ _ trivial (fun _ => ?_)
    clear hK'
    (try simp only [Act.put]); (try simp only [List.setIfInBounds_toArray]); (try simp only [List.set_cons_succ]); (try simp only [List.set_cons_zero])
    refine wpAnyH_ready (rs := [0, 3]) (by kernel_rfl) (by simp) ?_
    refine AllReadyH.cons (o := ⟨_, _, _, _, _, _⟩) rfl (fun K' hK' => ?_) (AllReadyH.cons (o := ⟨_, _, _, _, _, _⟩) rfl (fun K' hK' => ?_) AllReadyH.nil)
    ·skip
     refine (if_pos (by rfl)).mpr ?_
     have hcl := hv3.cell
     go_simp
     refine hK'.out _ _ trivial (fun _ => ?_)
     clear hK' hcl
     (try simp only [Act.put]); (try simp only [List.setIfInBounds_toArray]); (try simp only [List.set_cons_succ]); (try simp only [List.set_cons_zero])
     refine rdy1 3 rfl (fun K' hK' => ?_)
     go_simp
     change K' _ (World.alloc w3 (Obj.cells #[ekV (a3, c3, pcC b x)] 37))
     have hv4 := hv3.alloc (Obj.cells #[ekV (a3, c3, pcC b x)] 37)
     refine hK'.out _ _ trivial (fun _ => ?_)
     clear hK'
     (try simp only [Act.put]); (try simp only [List.setIfInBounds_toArray]); (try simp only [List.set_cons_succ]); (try simp only [List.set_cons_zero])
     refine rdy1 4 rfl (fun K' hK' => ?_)
     refine wp_appN _ _ 54 54 37 37 elSl Tryz.underlying54 rfl w2.heap.size v es.length (es.map ekV) rfl (owns_bl hr0 (hb3.alloc hb3.size _)) ⟨w3.heap.size, 0, none⟩ 1 1 [ekV (a3, c3, pcC b x)] rfl rfl (cell_one_new _ _ _) (by simp [ekV, Value.oneCell']) (by omega) (by decide) (by have := hb3.size; simp; omega) ?_
     intro v5 w5 ho5 hg5
     obtain ⟨g5, c5, rfl⟩ := ownsRow_succ ho5
     obtain ⟨hv5, hr1, hr2, hr3⟩ := sp_round hz hv hr he ho hB hsW hb3 hO ho5 hg5
     refine hK'.out _ _ trivial (fun _ => ?_)
     clear hK'
     (try simp only [Act.put]); (try simp only [List.setIfInBounds_toArray]); (try simp only [List.set_cons_succ]); (try simp only [List.set_cons_zero])
     refine rdy1 5 rfl (fun K' hK' => ?_)
     have hcl := hv5.cell
     have hfr := hv5.frozen
     go_simp
     refine hK'.out _ _ trivial (fun _ => ?_)
     clear hK'
     (try simp only [Act.put]); (try simp only [List.setIfInBounds_toArray]); (try simp only [List.set_cons_succ]); (try simp only [List.set_cons_zero])
     refine wpAnyH_done (by kernel_rfl) ?_ _
     exact ⟨rfl, hr1, hr2, hr3⟩
    ·refine (if_pos (by rfl)).mpr ?_
     go_simp
     change K' _ (World.alloc w3 (Obj.cells #[ekV (a3, c3, pcC b x)] 37))
     have hv4 := hv3.alloc (Obj.cells #[ekV (a3, c3, pcC b x)] 37)
     refine hK'.out _ _ trivial (fun _ => ?_)
     clear hK'
     (try simp only [Act.put]); (try simp only [List.setIfInBounds_toArray]); (try simp only [List.set_cons_succ]); (try simp only [List.set_cons_zero])
     refine rdy1 0 rfl (fun K' hK' => ?_)
     have hcl := hv4.cell
     go_simp
     refine hK'.out _ _ trivial (fun _ => ?_)
     clear hK' hcl
     (try simp only [Act.put]); (try simp only [List.setIfInBounds_toArray]); (try simp only [List.set_cons_succ]); (try simp only [List.set_cons_zero])
     refine rdy1 4 rfl (fun K' hK' => ?_)
     refine wp_appN _ _ 54 54 37 37 elSl Tryz.underlying54 rfl w2.heap.size v es.length (es.map ekV) rfl (owns_bl hr0 (hb3.alloc hb3.size _)) ⟨w3.heap.size, 0, none⟩ 1 1 [ekV (a3, c3, pcC b x)] rfl rfl (cell_one_new _ _ _) (by simp [ekV, Value.oneCell']) (by omega) (by decide) (by have := hb3.size; simp; omega) ?_
     intro v5 w5 ho5 hg5
     obtain ⟨g5, c5, rfl⟩ := ownsRow_succ ho5
     obtain ⟨hv5, hr1, hr2, hr3⟩ := sp_round hz hv hr he ho hB hsW hb3 hO ho5 hg5
     refine hK'.out _ _ trivial (fun _ => ?_)
     clear hK'
     (try simp only [Act.put]); (try simp only [List.setIfInBounds_toArray]); (try simp only [List.set_cons_succ]); (try simp only [List.set_cons_zero])
     refine rdy1 5 rfl (fun K' hK' => ?_)
     have hcl := hv5.cell
     have hfr := hv5.frozen
     go_simp
     refine hK'.out _ _ trivial (fun _ => ?_)
     clear hK'
     (try simp only [Act.put]); (try simp only [List.setIfInBounds_toArray]); (try simp only [List.set_cons_succ]); (try simp only [List.set_cons_zero])
     refine wpAnyH_done (by kernel_rfl) ?_ _
     exact ⟨rfl, hr1, hr2, hr3⟩
 case done =>
  rintro D ys W hD rfl ⟨v, hv, hc, hB, hsW⟩ hK
  have hcl := hv.cell
  go_wp2
  refine marks_ret hK (results_tmp2 rfl _ _ _) ?_
  exact ⟨SplRes.ok hl ((hc.kept (grownBy_putObj' _ _ _) (fun r e => by cases e; exact .inr ⟨_, hK, rfl⟩)).mono (by omega)), below_mark hB (by omega)⟩
end Go.Proofs.YtbdonjenekhmdaaGreatDoor
namespace Go.Proofs.YtbdonjenekhmdaaGreatDoor
open Go.RowKit
theorem results_t1c1t1 {P : Program} {fn : Func} {p t q r : Nat} {tmps : Array Value} {w : World} {A : Addr} {v : Value} (hf : fn.results = #[.tmp q, .cell p t, .tmp r]) (hp : tmps.getD p undef = .pointer (some A)) (hl : (loadVar t A).run P w = .ok v w) : (results fn tmps).run P w = .ok (.tuple #[tmps.getD q undef, v, tmps.getD r undef]) w := by
 have hp' : tmps[p]?.getD undef = .pointer (some A) := by simpa using hp
 simp [results, hf, hp', asAddr, hl]
def FrRes (base : Nat) (r : Nat × Tg × List UInt8) (e : Ending) (w' : World) : Prop := ∃ a c, e = .returned (.tuple #[.int .u8 (r.1 : Int), tgV r.2.1, .slice a r.2.2.length c]) ∧ OwnB w' base a c r.2.2
theorem FrRes.none {base st : Nat} {e : Ending} {w' : World} (h : e = .returned (.tuple #[.int .u8 (st : Int), tgV zeroTg, .slice .none 0 0])) : FrRes base (st, zeroTg, []) e w' := ⟨.none, 0, h, OwnB.none _ _⟩
theorem openF_size {l : List UInt8} (h : roomN l.length = 0) : openF l = (2, zeroTg, []) := by unfold openF; rw [if_pos h]
set_option maxRecDepth 100000 in
set_option maxHeartbeats 4000000 in
theorem open_odd (a : Option Addr) (cap : Nat) (l : List UInt8) (w : World) (hl : l.length ≤ 1000) (hr : roomN l.length = 0) : Calls Tryz.prog 211 #[.slice a l.length cap] w fun e w' => FrRes w.heap.size (openF l) e w' ∧ Below w.heap.size w w' := by
 rw [openF_size hr]
 have hbB := blw w (Obj.cells #[.int .i64 0, .int .i64 0, .int .i64 0, .int .i64 0, .int .i64 0] 39)
 have B3 := heap_alloc_new w (Obj.cells #[.int .i64 0, .int .i64 0, .int .i64 0, .int .i64 0, .int .i64 0] 39)
 by_cases hm : l.length % 64 = 0
 ·obtain ⟨k, hk⟩ : ∃ k, l.length = 64 * k := ⟨l.length / 64, by omega⟩
  rw [hk] at hr
  have hroom : ∀ w, Calls Tryz.prog 116 #[.int .i64 (k : Int)] w fun e w' => e = .returned (.int .i64 0) ∧ w = w' := fun w => by
   have := room_any k w
   rw [hr] at this
   exact this
  have e1 : (l.length : Int) / 64 = (k : Int) := by omega
  have e2 : ((l.length : Int).tmod 64) = 0 := by rw [Int.tmod_eq_emod_of_nonneg (by omega)]; omega
  have e3 : ((l.length : Int) % 64) = 0 := by omega
  have HK := Lib.hid hk
  clear hk hm hr
  go_enter Tryz.func211, Tryz.ntmps211
  go_wp2_with (first
   | (go_at_call 116; refine (hroom _).mono ?_; rintro e w2 ⟨rfl, rfl⟩)
   | ((with_reducible refine wpList_stB 39 _ _ ?_); refine ⟨_, _, _, ⟨_, _, _, Tryz.sizeOf39, rfl, B3, st5 _ rfl 0 0 0 0 0⟩, ?_⟩; intro w5 B5 g5))
  refine bodyPost_ret (results_t1c1t1 rfl rfl (run_loadVar_all Tryz.isAgg39 Tryz.sizeOf39 B5 rfl)) rfl ⟨FrRes.none rfl, bl_st hbB g5 hbB.size (Nat.le_refl _)⟩
 ·have e2 : ((l.length : Int).tmod 64 != 0) = true := by rw [bne_iff_ne, Int.tmod_eq_emod_of_nonneg (by omega)]; omega
  have e3 : ((l.length : Int) % 64 != 0) = true := by rw [bne_iff_ne]; omega
  clear hm hr
  go_enter Tryz.func211, Tryz.ntmps211
  go_wp2_with (first
   | ((with_reducible refine wpList_stB 39 _ _ ?_); refine ⟨_, _, _, ⟨_, _, _, Tryz.sizeOf39, rfl, B3, st5 _ rfl 0 0 0 0 0⟩, ?_⟩; intro w5 B5 g5))
  refine bodyPost_ret (results_t1c1t1 rfl rfl (run_loadVar_all Tryz.isAgg39 Tryz.sizeOf39 B5 rfl)) rfl ⟨FrRes.none rfl, bl_st hbB g5 hbB.size (Nat.le_refl _)⟩
set_option maxRecDepth 100000 in
set_option maxHeartbeats 4000000 in
theorem open_n1 (a : Option Addr) (cap : Nat) (l : List UInt8) (w : World) (hs : SlB w a cap l) (hl : l.length = 64) (hz : noughtsB l = true) : Calls Tryz.prog 211 #[.slice a 64 cap] w fun e w' => FrRes w.heap.size (openF l) e w' ∧ Below w.heap.size w w' := by
 have ho : openF l = (0, zeroTg, []) := by unfold openF; rw [hl, if_neg (by decide), if_pos hz]
 rw [ho]
 have hroom : ∀ w, Calls Tryz.prog 116 #[.int .i64 1] w fun e w' => e = .returned (.int .i64 43) ∧ w = w' := fun w => room_any 1 w
 have hbB := blw w (Obj.cells #[.int .i64 0, .int .i64 0, .int .i64 0, .int .i64 0, .int .i64 0] 39)
 have B3 := heap_alloc_new w (Obj.cells #[.int .i64 0, .int .i64 0, .int .i64 0, .int .i64 0, .int .i64 0] 39)
 have hno := noughts_any a cap l (w.alloc (Obj.cells #[.int .i64 0, .int .i64 0, .int .i64 0, .int .i64 0, .int .i64 0] 39)) (hs.below hbB)
 rw [hl, hz] at hno
 clear ho hz hl
 go_enter Tryz.func211, Tryz.ntmps211
 go_wp2_with (first
  | (go_at_call 116; refine (hroom _).mono ?_; rintro e w2 ⟨rfl, rfl⟩)
  | (go_at_call 225; refine hno.mono ?_; rintro e w2 ⟨rfl, hb2⟩; have C3 := tr_bl hb2 B3; have hb3 := hbB.trans (hb2.mono hbB.size))
  | ((with_reducible refine wpList_stB 39 _ _ ?_); refine ⟨_, _, _, ⟨_, _, _, Tryz.sizeOf39, rfl, C3, st5 _ rfl 0 0 0 0 0⟩, ?_⟩; intro w5 B5 g5))
 refine bodyPost_ret (results_t1c1t1 rfl rfl (run_loadVar_all Tryz.isAgg39 Tryz.sizeOf39 B5 rfl)) rfl ⟨FrRes.none rfl, bl_st hb3 g5 hb3.size (Nat.le_refl _)⟩
set_option maxRecDepth 100000 in
set_option maxHeartbeats 4000000 in
theorem open_n2 (a : Option Addr) (cap : Nat) (l : List UInt8) (w : World) (hs : SlB w a cap l) (hl : l.length = 128) (hz : noughtsB l = true) : Calls Tryz.prog 211 #[.slice a 128 cap] w fun e w' => FrRes w.heap.size (openF l) e w' ∧ Below w.heap.size w w' := by
 have ho : openF l = (0, zeroTg, []) := by unfold openF; rw [hl, if_neg (by decide), if_pos hz]
 rw [ho]
 have hroom : ∀ w, Calls Tryz.prog 116 #[.int .i64 2] w fun e w' => e = .returned (.int .i64 88) ∧ w = w' := fun w => room_any 2 w
 have hbB := blw w (Obj.cells #[.int .i64 0, .int .i64 0, .int .i64 0, .int .i64 0, .int .i64 0] 39)
 have B3 := heap_alloc_new w (Obj.cells #[.int .i64 0, .int .i64 0, .int .i64 0, .int .i64 0, .int .i64 0] 39)
 have hno := noughts_any a cap l (w.alloc (Obj.cells #[.int .i64 0, .int .i64 0, .int .i64 0, .int .i64 0, .int .i64 0] 39)) (hs.below hbB)
 rw [hl, hz] at hno
 clear ho hz hl
 go_enter Tryz.func211, Tryz.ntmps211
 go_wp2_with (first
  | (go_at_call 116; refine (hroom _).mono ?_; rintro e w2 ⟨rfl, rfl⟩)
  | (go_at_call 225; refine hno.mono ?_; rintro e w2 ⟨rfl, hb2⟩; have C3 := tr_bl hb2 B3; have hb3 := hbB.trans (hb2.mono hbB.size))
  | ((with_reducible refine wpList_stB 39 _ _ ?_); refine ⟨_, _, _, ⟨_, _, _, Tryz.sizeOf39, rfl, C3, st5 _ rfl 0 0 0 0 0⟩, ?_⟩; intro w5 B5 g5))
 refine bodyPost_ret (results_t1c1t1 rfl rfl (run_loadVar_all Tryz.isAgg39 Tryz.sizeOf39 B5 rfl)) rfl ⟨FrRes.none rfl, bl_st hb3 g5 hb3.size (Nat.le_refl _)⟩
end Go.Proofs.YtbdonjenekhmdaaGreatDoor
namespace Go.Proofs.YtbdonjenekhmdaaGreatDoor
open Go.RowKit
theorem getN_lt (l : List UInt8) (p k : Nat) : getN l p k < 256 ^ k := by
 unfold getN
 refine Nat.lt_of_lt_of_le (ofLe_lt _) (Nat.pow_le_pow_right (by decide) ?_)
 rw [List.length_take]
 omega
def okF (l : List UInt8) (N : Nat) : Bool := mayTg (tagAt l 2) && (decide (getN l 0 2 ≤ roomN N) && (decide (getN l (N - 4) 4 = crcS (l.take (N - 4))) && noughtsB ((l.drop (17 + getN l 0 2)).take (N - 21 - getN l 0 2))))
theorem openF_ok {l : List UInt8} {N : Nat} (hl : l.length = N) (hr : 0 < roomN N) (hz : noughtsB l = false) : openF l = if okF l N = true then (1, tagAt l 2, (l.drop 17).take (getN l 0 2)) else (2, zeroTg, []) := by
 unfold openF okF
 rw [hl, if_neg (by omega), hz, if_neg (by simp)]
 congr 1
 simp only [Bool.and_eq_true, decide_eq_true_eq]
end Go.Proofs.YtbdonjenekhmdaaGreatDoor
