/- Texts that the claim leans on, part 10: S5, D36, D37a, D37, D37b, D38, D39a, D39. -/
import Derived.Test.YthfolocjkpiljaaGreatDoorZ1
import Derived.Test.YthfolocjkpiljaaGreatDoorZ2
import Derived.Test.YthfolocjkpiljaaGreatDoorZ3
import Derived.Test.YthfolocjkpiljaaGreatDoorZ4
import Derived.Test.YthfolocjkpiljaaGreatDoorZ5
import Derived.Test.YthfolocjkpiljaaGreatDoorZ6
import Derived.Test.YthfolocjkpiljaaGreatDoorZ7
import Derived.Test.YthfolocjkpiljaaGreatDoorZ8
import Derived.Test.YthfolocjkpiljaaGreatDoorZ9
import Derived.Test.YthfolocjkpiljaaGreatDoorRows
import Derived.WalkKit
import Derived.WalkSpells
import Derived.WalkLawsBesides
import Derived.Handy
import Derived.Deep.QuietTactic
import Derived.BigQuiet
import Derived.Deep.DeepCutAuto
import Derived.Lib.Hide
import Derived.RegionTactic
import Derived.ChangeAlike
import Derived.Shelf.Abstract
import Derived.Shelf.RegionOpen
import Derived.OwnWalkIn
import Derived.TacticsInMore
import Derived.LoopNIn
import Derived.LoopIn
import Derived.Maps.AppendAt
import Derived.Laws.ResultCell
import Derived.Outline
import Derived.Lib.SliceRun
import Derived.Laws.IdiomStrings
import Derived.Laws.BytesArg
import Derived.IntWalk
import Derived.Carry
import Derived.Maps.Own
import Derived.Maps.Keyed
import Derived.RangeFuncNested
import Derived.RangeFuncBound
import Derived.RangeFuncCalls
import Derived.RangeFuncLeaves
import Derived.RangeFuncBox
import Derived.RangeFuncRecord
import Derived.OrdersIn
import Derived.OrdersHeld
import Derived.Laws.MakeOwn
import Derived.Laws.BitsAllLaws
import Derived.Great.BuildSlice
import Derived.Great.FillDense
import Derived.Laws.Rows
import Derived.Deep.Quiet
import Derived.Deep.RegionHeld3
import Derived.ProofKit
import Derived.OpenShut
import Derived.Laws.CopyOwn
import Derived.Laws.CopyRow
import Derived.Laws.NewBlocks
import Derived.Deep.RegionLaw
namespace Go.Proofs.YthfolocjkpiljaaGreatDoor
open Go.RowKit Go.Shelf

attribute [local go_sem] Oper.semAt_some

set_option maxRecDepth 100000 in
theorem sclone_any (a : Option Addr) (cap : Nat) (l : List UInt8) (w : World) (hs : SlB w a cap l) (hl : l.length ≤ 1000) : Calls Tryz.prog 218 #[.slice a l.length cap] w fun e w' => (∃ a' c', e = .returned (.slice a' l.length c') ∧ OwnS w' w.heap.size a' c' l) ∧ Below w.heap.size w w' := by
  cases a with
  | none =>
    have hc := hs.nil rfl
    have h0 : l.length = 0 := by have := hs.le; omega
    have h00 := List.eq_nil_of_length_eq_zero h0
    subst h00
    subst hc
    have hq : (binOp .eql 34 (.slice none 0 0) (.slice none 0 0)).run Tryz.prog w = .ok (.bool true) w := by
      have := Lib.run_eql_slice_nil (P := Tryz.prog) w 34 5 none 0 0 0 0 Tryz.underlying34
      exact this
    go_enter Tryz.func218, Tryz.ntmps218
    refine wp_seq_k (fun K hK => ?_)
    have HK := Lib.hid hK
    clear hK
    go_wp2
    refine HK.out _ _ ?_
    clear HK
    go_wp2
    go_ret
    exact ⟨⟨none, 0, rfl, OwnB.none _ _, Nat.le_refl _, by decide, fun _ => rfl⟩, Below.refl _ _⟩
  | some ad =>
    have hq : (binOp .eql 34 (.slice (some ad) l.length cap) (.slice none 0 0)).run Tryz.prog w = .ok (.bool false) w := by
      have := Lib.run_eql_slice_nil (P := Tryz.prog) w 34 5 (some ad) l.length cap 0 0 Tryz.underlying34
      exact this
    have hbe := blw w (Obj.cells #[] 5)
    have ho := owns_empty w 5 1
    have hse := hs.below hbe
    go_enter Tryz.func218, Tryz.ntmps218
    refine wp_seq_k (fun K hK => ?_)
    have HK := Lib.hid hK
    clear hK
    go_wp2
    refine HK.out _ _ ?_
    clear HK
    refine wp_seq_k (fun K hK => ?_)
    have HK := Lib.hid hK
    clear hK
    go_wp2
    refine HK.out _ _ ?_
    clear HK
    clear hq
    go_wp2_with (at_builtin; refine wpList_append_row rfl _ _ 34 5 elByte rfl w.heap.size _ 0 [] rfl ho (some ad) l.length cap (bys l) rfl (by rw [bys_len]; omega) hse.row bys_one (by omega) (by decide) hbe.size ?_; intro v4 w4 ho4 hb4)
    rw [Nat.zero_add, List.nil_append] at ho4
    go_ret
    refine ⟨?_, hbe.trans hb4⟩
    rcases ho4.2 with ⟨h1, h2⟩ | ⟨g, c, cur, h1, h2, h3, h4, h5, h6, h7⟩
    · have h00 := List.eq_nil_of_length_eq_zero h2
      subst h00
      subst h1
      exact ⟨none, 0, rfl, OwnB.none _ _, Nat.le_refl _, by decide, fun _ => rfl⟩
    · refine ⟨some ⟨g, 0, none⟩, c, by rw [h1]; rfl, ?_, h4, h5, fun e => by cases e⟩
      refine .inr ⟨g, cur.toList.drop (bys l).length, rfl, h2, Nat.le_refl _, Nat.le_trans h4 h5, ?_⟩
      rw [Nat.mul_one] at h7
      have e : bys l ++ cur.toList.drop (bys l).length = cur.toList := by
        rw [bys_len, ← h7, List.take_append_drop]
      rw [e, Array.toArray_toList]
      exact h3
/-! Chunks in memory: an element of a slice of slices. -/
abbrev Ek := Option Addr × Nat × List UInt8
def ekV (e : Ek) : Value := .slice e.1 e.2.2.length e.2.1
def ChIn (w : World) (base : Nat) (v : Value) (l : List (List UInt8)) : Prop :=
  ∃ es : List Ek, w.ownsRow base 34 1 v es.length (es.map ekV) ∧ es.map (·.2.2) = l ∧ ∀ e ∈ es, OwnS w base e.1 e.2.1 e.2.2
section
variable {w w' : World} {base : Nat} {v : Value} {l : List (List UInt8)} {row : Option Nat}
theorem OwnS.kept {a : Option Addr} {c : Nat} {b : List UInt8} (h : OwnS w base a c b) (hg : w.grownBy w' row) (hr : ∀ r, row = some r → r < base ∨ ∃ o : Obj, w.heap[r]? = some o ∧ o.isCells = false) : OwnS w' base a c b := by
  refine ⟨?_, h.2⟩
  rcases h.1 with h1 | ⟨g, ys, h1, h2, h3, h4, h5⟩
  · exact .inl h1
  · refine .inr ⟨g, ys, h1, h2, h3, h4, (hg.block g (Array.getElem?_eq_some_iff.1 h5).1 (fun e => ?_)).trans h5⟩
    rcases hr g e.symm with h6 | ⟨o, h6, h7⟩
    · omega
    · rw [h5] at h6; cases h6; cases h7
theorem owns_kept {e : TypeId} {size n : Nat} {xs : List Value} (h : w.ownsRow base e size v n xs) (hg : w.grownBy w' row) (hr : ∀ r, row = some r → r < base ∨ ∃ o : Obj, w.heap[r]? = some o ∧ o.isCells = false) : w'.ownsRow base e size v n xs := by
  refine h.kept hg ?_
  rcases h.2 with ⟨rfl, _⟩ | ⟨g, cap, cur, rfl, h2, h3, _⟩
  · exact .inl rfl
  · refine .inr fun e' => ?_
    rcases hr g e'.symm with h6 | ⟨o, h6, h7⟩
    · omega
    · rw [h3] at h6; cases h6; cases h7
theorem ChIn.kept (h : ChIn w base v l) (hg : w.grownBy w' row) (hr : ∀ r, row = some r → r < base ∨ ∃ o : Obj, w.heap[r]? = some o ∧ o.isCells = false) : ChIn w' base v l := by
  obtain ⟨es, h1, h2, h3⟩ := h
  exact ⟨es, owns_kept h1 hg hr, h2, fun e he => (h3 e he).kept hg hr⟩
theorem ChIn.below (h : ChIn w base v l) (hb : Below w.heap.size w w') : ChIn w' base v l := h.kept (gb_of_below hb none) (fun r e => by cases e)
theorem ChIn.kt {B : Nat} (h : ChIn w base v l) (hk : Kt B w w') : ChIn w' base v l := by
  obtain ⟨es, h1, h2, h3⟩ := h
  refine ⟨es, ⟨h1.1, ?_⟩, h2, fun e he => (h3 e he).kt hk⟩
  rcases h1.2 with h4 | ⟨g, cap, cur, h4, h5, h6, h7⟩
  · exact .inl h4
  · exact .inr ⟨g, cap, cur, h4, h5, hk.ty _ _ _ h6 (by decide) (by decide) (by decide), h7⟩
theorem ChIn.mono {base' : Nat} (h : ChIn w base v l) (hb : base' ≤ base) : ChIn w base' v l := by
  obtain ⟨es, h1, h2, h3⟩ := h
  exact ⟨es, owns_mono h1 hb, h2, fun e he => (h3 e he).mono hb⟩
theorem ChIn.nil (w : World) (base : Nat) : ChIn w base (.slice none 0 0) [] := ⟨[], World.ownsRow_nil _ _ _ _, rfl, fun _ h => by cases h⟩
end
theorem elSl : ElemT Tryz.prog 92 34 1 24 := ElemT.of (.slice none 0 0) Tryz.underlying92 (by kernel_rfl) rfl (by decide)
/-- What the round of Split carries. -/
def SpI (b : List UInt8) (B n1 : Nat) (w : World) (pre : List Nat) (W : World) : Prop :=
  ∃ v, Boxed W B 92 v ∧ ChIn W n1 v (pre.map (pcC b)) ∧ Below w.heap.size w W ∧ n1 ≤ W.heap.size
theorem sp_carry {b : List UInt8} {w : World} {n1 : Nat} (h1 : w.heap.size + 2 ≤ n1) : Carry n1 (w.heap.size + 1) (SpI b w.heap.size n1 w) := by
  rintro s A B' row ⟨v, hv, hc, hb, hn⟩ hg hr
  refine ⟨v, hv.kept hg (fun e => ?_), hc.kept hg (fun r e => ?_), hb.grown hg hb.size (fun r e => ?_), Nat.le_trans hn hg.size⟩
  · rcases hr _ e.symm with h | ⟨h, _⟩ <;> omega
  · rcases hr _ e with h | ⟨_, h⟩
    · exact .inl (by omega)
    · exact .inr h
  · rcases hr _ e with h | ⟨h, _⟩ <;> omega
/-- What a round of Split brings. -/
theorem sp_round {b : List UInt8} {w W w3 w5 : World} {n1 c3 x : Nat} {a3 : Option Addr} {v v5 : Value} {es : List Ek} {pre : List Nat} (hz : w.heap.size + 2 ≤ n1) (hv : Boxed W w.heap.size 92 v) (hr : W.ownsRow n1 34 1 v es.length (es.map ekV)) (he : es.map (·.2.2) = pre.map (pcC b)) (ho : ∀ e ∈ es, OwnS W n1 e.1 e.2.1 e.2.2)
    (hB : Below w.heap.size w W) (hsW : n1 ≤ W.heap.size) (hb3 : Below W.drew.heap.size W.drew w3) (hO3 : OwnS w3 W.drew.heap.size a3 c3 (pcC b x)) (ho5 : w5.ownsRow n1 34 1 v5 (es.length + 1) (es.map ekV ++ [ekV (a3, c3, pcC b x)])) (hg5 : (w3.alloc (Obj.cells #[ekV (a3, c3, pcC b x)] 34)).grownBy w5 v.ownBlock) :
    Boxed w5 w.heap.size 92 v ∧ KeepsFrom n1 W (w5.setCell ⟨w.heap.size, 0, none⟩ v5) ∧ KpB w.heap.size (w.heap.size + 1) W (w5.setCell ⟨w.heap.size, 0, none⟩ v5) ∧ SpI b w.heap.size n1 w (pre ++ [x]) (w5.setCell ⟨w.heap.size, 0, none⟩ v5) := by
  have hb3' : Below W.heap.size W w3 := (Below.refl W.heap.size W).drew.trans hb3
  have hv3 : Boxed w3 w.heap.size 92 v := tr_bl hb3' hv
  have hr3 := owns_bl hr hb3'
  have hs3 : W.heap.size ≤ w3.heap.size := hb3'.size
  have hno : ∀ r, v.ownBlock = some r → n1 ≤ r ∧ ∃ cur, w3.heap[r]? = some (.cells cur 34 (0, 0)) := by
    intro r e
    rcases hr3.2 with ⟨rfl, _⟩ | ⟨g, cap, cur, rfl, h2, h3, _⟩
    · cases e
    · simp [Value.ownBlock] at e
      subst e
      exact ⟨h2, cur, h3⟩
  have hv4 := hv3.alloc (Obj.cells #[ekV (a3, c3, pcC b x)] 34)
  have hv5 : Boxed w5 w.heap.size 92 v := hv4.kept hg5 (fun e => by have := (hno _ e.symm).1; omega)
  have hb4 : Below W.heap.size W (w3.alloc (Obj.cells #[ekV (a3, c3, pcC b x)] 34)) := hb3'.alloc hs3 _
  have hb5 : Below n1 W w5 := (hb4.mono hsW).grown hg5 (by simp; omega) (fun r e => (hno r e).1)
  have hb6 : Below w.heap.size W (w5.setCell ⟨w.heap.size, 0, none⟩ v5) := (hb5.mono (show w.heap.size ≤ n1 by omega)).setCell (p := ⟨w.heap.size, 0, none⟩) (Nat.le_refl _) v5
  have hk4 : KeepsOthers W (w3.alloc (Obj.cells #[ekV (a3, c3, pcC b x)] 34)) := (KeepsOthers.of_grownBy (gb_of_below hb3' none) (fun _ _ e => by cases e)).trans (KeepsOthers.alloc _ _)
  have hk5 : KeepsOthers W w5 := hk4.trans (KeepsOthers.of_grownBy hg5 (fun j o ej hj => by
    obtain ⟨cur, hc⟩ := (hno j ej).2
    rw [tr_al _ hc] at hj
    cases hj
    rfl))
  refine ⟨hv5, (hk5.trans (KeepsOthers.setCell _ _ _)).from _, ⟨hb6, ?_⟩, v5, hv5.set _, ?_, hB.trans hb6, ?_⟩
  · have e1 : (w5.setCell ⟨w.heap.size, 0, none⟩ v5).heap[w.heap.size + 1]? = w5.heap[w.heap.size + 1]? := Below.heap_setCell _ _ _ _ (by simp)
    rw [e1]
    exact hb5.block _ (by omega)
  · refine ⟨es ++ [(a3, c3, pcC b x)], ?_, ?_, ?_⟩
    · rw [List.map_append, List.length_append]
      exact ho5.kept (grownBy_setCell' _ _ _) (.inr (hv5.not_row (by decide) ho5).symm)
    · rw [List.map_append, List.map_append, he]
      rfl
    · intro e hm
      have hset : ∀ r, some w.heap.size = some r → r < n1 ∨ ∃ o : Obj, w5.heap[r]? = some o ∧ o.isCells = false := fun r e => by cases e; exact .inl (by omega)
      have key : ∀ (a : Option Addr) (c : Nat) (l : List UInt8), OwnS w3 n1 a c l → OwnS (w5.setCell ⟨w.heap.size, 0, none⟩ v5) n1 a c l := by
        intro a c l h3
        have h4 := h3.below (blw w3 (Obj.cells #[ekV (a3, c3, pcC b x)] 34))
        refine OwnS.kept (w := w5) ?_ (grownBy_setCell' _ _ _) hset
        refine ⟨?_, h4.2⟩
        rcases h4.1 with h5 | ⟨g, ys, h5, h6, h7, h8, h9⟩
        · exact .inl h5
        · refine .inr ⟨g, ys, h5, h6, h7, h8, (hg5.block g (Array.getElem?_eq_some_iff.1 h9).1 (fun e => ?_)).trans h9⟩
          obtain ⟨cur, hc⟩ := (hno g e.symm).2
          rw [tr_al _ hc] at h9
          injection h9 with h9
          injection h9 with _ h10
          exact absurd h10 (by decide)
      rcases List.mem_append.1 hm with hm | hm
      · exact key _ _ _ ((ho e hm).below hb3')
      · cases List.mem_singleton.1 hm
        exact key _ _ _ (hO3.mono hsW)
  · exact Nat.le_trans hsW (Nat.le_trans hb5.size (grownBy_setCell' w5 w.heap.size v5).size)
/-- What Split hands back. -/
def SplRes (base : Nat) (b : List UInt8) (e : Ending) (w' : World) : Prop :=
  if 640 < b.length then e = .returned (.tuple #[.slice none 0 0, .int .i64 3]) else ∃ a c, e = .returned (.tuple #[.slice a (numC b.length) c, .int .i64 0]) ∧ ChIn w' base (.slice a (numC b.length) c) (splitC b)
theorem SplRes.long {base : Nat} {b : List UInt8} {w' : World} (h : 640 < b.length) : SplRes base b (.returned (.tuple #[.slice none 0 0, .int .i64 3])) w' := by
  unfold SplRes
  rw [if_pos h]
theorem SplRes.ok {base : Nat} {b : List UInt8} {w' : World} {v : Value} (h : ¬ 640 < b.length) (hc : ChIn w' base v (splitC b)) : SplRes base b (.returned (.tuple #[v, .int .i64 0])) w' := by
  unfold SplRes
  rw [if_neg h]
  obtain ⟨es, h1, h2, h3⟩ := hc
  obtain ⟨a, c, rfl, h4⟩ := Row.of_owns h1
  have hl : es.length = numC b.length := by
    have h5 := congrArg List.length h2
    simpa [splitC] using h5
  rw [← hl]
  exact ⟨a, c, rfl, es, h1, h2, h3⟩
set_option maxRecDepth 100000 in
set_option maxHeartbeats 1000000 in
theorem split_any (a : Option Addr) (cap : Nat) (b : List UInt8) (w : World) (hs : SlB w a cap b) : Calls Tryz.prog 142 #[.slice a b.length cap] w fun e w' => SplRes w.heap.size b e w' ∧ Below w.heap.size w w' := by
  by_cases hl : 640 < b.length
  · have hI : (640 : Int) < b.length := by omega
    refine calls_marks Tryz.func142 rfl ?_
    simp only [Tryz.ntmps142, List.size_toArray, List.length_cons, List.length_nil, Nat.reduceAdd, Nat.reduceSub, Array.replicate_succ, Array.replicate_zero, List.push_toArray, List.append_toArray, List.nil_append, List.cons_append]
    go_wp2
    exact marks_end (results_tmp2 rfl _ _ _) ⟨SplRes.long hl, Below.refl _ _⟩
  have hI : ¬ (640 : Int) < b.length := by omega
  have hbA := blw w (Obj.cells #[.slice none 0 0] 92)
  have bO := Boxed.new w 92 (.slice none 0 0)
  have hpc := pieces_any a cap b.length (w.alloc (Obj.cells #[.slice none 0 0] 92))
  have hs0 := hs.below hbA
  refine calls_marks Tryz.func142 rfl ?_
  simp only [Tryz.ntmps142, List.size_toArray, List.length_cons, List.length_nil, Nat.reduceAdd, Nat.reduceSub, Array.replicate_succ, Array.replicate_zero, List.push_toArray, List.append_toArray, List.nil_append, List.cons_append]
  go_wp2_with (go_at_call 217; refine hpc.mono ?_; rintro e w2 ⟨rfl, hq, hb2⟩)
  have bO2 : Boxed w2 w.heap.size 92 (.slice none 0 0) := tr_bl hb2 bO
  rw [World.size_alloc] at hq hb2
  have hz : w.heap.size + 2 ≤ w2.heap.size := by have := hq.lt; omega
  have hB2 : Below w.heap.size w w2 := hbA.trans (hb2.mono (by omega))
  have hs2 := hs.below hB2
  have hn8 := (numC_le (show b.length ≤ 640 by omega)).2
  clear hb2 hpc bO hbA hs0
  refine wp_range_box (gf := 261) rfl (enters_of Tryz.func261 (by kernel_rfl) rfl) (encs := encC a cap b) (n := w.heap.size) (m := w.heap.size + 1) (N := numC b.length) (S := fun xs => xs = List.range (numC b.length)) (by omega) (by omega) ?seq (fun _ => rfl)
    (SpI b w.heap.size w2.heap.size w) (sp_carry hz) ⟨_, bO2, ChIn.nil _ _, hB2, Nat.le_refl _⟩
    (fun k => { tmps := #[.slice a b.length cap, undef, .slice none 0 0, .int .i64 0, .pointer (some ⟨w.heap.size, 0, none⟩), .slice (adrC a k) (pcC b k).length (cap - 80 * k), .slice a b.length cap, .int .i64 b.length, .bool false, .slice a b.length cap, .func (.func 261) #[] #[.pointer (some ⟨w.heap.size + 1, 0, none⟩)], .slice (adrC a k) (pcC b k).length (cap - 80 * k), undef, undef, undef, undef, undef, undef], defers := [] }) ?assign ?body ?done
  case seq =>
    intro l J W hW hJ hY h0
    exact pieces_in a cap b hs.le (by omega) (fun h => hs.some_of h) w.heap.size (w.heap.size + 1) l _ (Nat.le_refl _) J W (tr_bl hW hq) hJ hY h0
  case assign =>
    intro l x W K hK
    unfold encC
    gi_wp2
    exact hK
  case body =>
    rintro l pre x W ⟨v, hv, hc, hB, hsW⟩ hlt
    obtain ⟨es, hr, he, ho⟩ := hc
    have hp := piece_slb (hs.below hB) x
    have hpl : (pcC b x).length ≤ 80 := by rw [pcC_len]; omega
    have hlen : es.length ≤ 8 := by
      have h5 := congrArg List.length he
      simp at h5
      omega
    have hbd := (Below.refl W.heap.size W).drew
    have hp0 := hp.below hbd
    have hv0 : Boxed W.drew w.heap.size 92 v := tr_bl hbd hv
    have hr0 := owns_bl hr hbd
    have hsd : w2.heap.size ≤ W.drew.heap.size := Nat.le_trans hsW hbd.size
    refine wpIn_block ?_
    refine wpIn_region_held_drew (S := fun _ => True) ?_ ?_ (by kernel_rfl) trivial (fun hS0 => ?_)
    · intro o hm c
      simp at hm
      rcases hm with rfl | rfl | rfl | rfl | rfl | rfl <;> simp
    · rintro ⟨a', w', h⟩
      simp [Exit.inBlock] at h
    · skip
      refine wpAnyH_take (i := 1) (oi := ⟨_, _, _, _, _, _⟩) (v := ?_) rfl (by kernel_rfl) (by kernel_rfl) (by kernel_rfl) (fun _ _ _ h => h) (Or.inl ⟨by rfl, ?_⟩) (by assumption) ?_
      rotate_left
      · intro wS hSw
        go_simp; (try with_reducible rfl)
      (try simp only [Act.put])
      (try simp only [List.setIfInBounds_toArray])
      (try simp only [List.set_cons_succ])
      (try simp only [List.set_cons_zero])
      refine wpAnyH_ready (rs := [0, 2]) (by kernel_rfl) (by simp) ?_
      refine AllReadyH.cons (o := ⟨_, _, _, _, _, _⟩) rfl (fun K' hK' => ?_) (AllReadyH.cons (o := ⟨_, _, _, _, _, _⟩) rfl (fun K' hK' => ?_) AllReadyH.nil)
      · skip
        refine (if_pos (by rfl)).mpr ?_
        have hcl := hv0.cell
        go_simp
        refine hK'.out _ _ trivial (fun _ => ?_)
        clear hK' hcl
        (try simp only [Act.put])
        (try simp only [List.setIfInBounds_toArray])
        (try simp only [List.set_cons_succ])
        (try simp only [List.set_cons_zero])
        refine wpAnyH_ready (rs := [2]) (by kernel_rfl) (by simp) ?_
        refine AllReadyH.cons (o := ⟨_, _, _, _, _, _⟩) rfl (fun K' hK' => ?_) AllReadyH.nil
        refine (if_pos (by rfl)).mpr ?_
        go_simp
        refine (sclone_any _ _ (pcC b x) _ hp0 (by omega)).mono ?_
        rintro e w3 ⟨⟨a3, c3, rfl, hO⟩, hb3⟩
        have hv3 := tr_bl hb3 hv0
        change Boxed w3 w.heap.size 92 v at hv3
        refine hK'.out _ _ trivial (fun _ => ?_)
        clear hK'
        (try simp only [Act.put])
        (try simp only [List.setIfInBounds_toArray])
        (try simp only [List.set_cons_succ])
        (try simp only [List.set_cons_zero])
        refine wpAnyH_ready (rs := [3]) (by kernel_rfl) (by simp) ?_
        refine AllReadyH.cons (o := ⟨_, _, _, _, _, _⟩) rfl (fun K' hK' => ?_) AllReadyH.nil
        refine (if_pos (by rfl)).mpr ?_
        go_simp
        change K' _ (World.alloc w3 (Obj.cells #[ekV (a3, c3, pcC b x)] 34))
        have hv4 := hv3.alloc (Obj.cells #[ekV (a3, c3, pcC b x)] 34)
        refine hK'.out _ _ trivial (fun _ => ?_)
        clear hK'
        (try simp only [Act.put])
        (try simp only [List.setIfInBounds_toArray])
        (try simp only [List.set_cons_succ])
        (try simp only [List.set_cons_zero])
        refine wpAnyH_ready (rs := [4]) (by kernel_rfl) (by simp) ?_
        refine AllReadyH.cons (o := ⟨_, _, _, _, _, _⟩) rfl (fun K' hK' => ?_) AllReadyH.nil
        refine (if_pos (by rfl)).mpr ?_
        refine wp_appN _ _ 92 92 34 34 elSl Tryz.underlying92 rfl w2.heap.size v es.length (es.map ekV) rfl (owns_bl hr0 (hb3.alloc hb3.size _)) ⟨w3.heap.size, 0, none⟩ 1 1 [ekV (a3, c3, pcC b x)] rfl rfl (cell_one_new _ _ _) (by simp [ekV, Value.oneCell']) (by omega) (by decide) (by have := hb3.size; simp; omega) ?_
        intro v5 w5 ho5 hg5
        obtain ⟨g5, c5, rfl⟩ := ownsRow_succ ho5
        obtain ⟨hv5, hr1, hr2, hr3⟩ := sp_round hz hv hr he ho hB hsW hb3 hO ho5 hg5
        refine hK'.out _ _ trivial (fun _ => ?_)
        clear hK'
        (try simp only [Act.put])
        (try simp only [List.setIfInBounds_toArray])
        (try simp only [List.set_cons_succ])
        (try simp only [List.set_cons_zero])
        refine wpAnyH_ready (rs := [5]) (by kernel_rfl) (by simp) ?_
        refine AllReadyH.cons (o := ⟨_, _, _, _, _, _⟩) rfl (fun K' hK' => ?_) AllReadyH.nil
        refine (if_pos (by rfl)).mpr ?_
        have hcl := hv5.cell
        have hfr := hv5.frozen
        go_simp
        refine hK'.out _ _ trivial (fun _ => ?_)
        clear hK'
        (try simp only [Act.put])
        (try simp only [List.setIfInBounds_toArray])
        (try simp only [List.set_cons_succ])
        (try simp only [List.set_cons_zero])
        refine wpAnyH_done (by kernel_rfl) ?_ _
        exact ⟨rfl, hr1, hr2, hr3⟩
      · refine (if_pos (by rfl)).mpr ?_
        go_simp
        refine (sclone_any _ _ (pcC b x) _ hp0 (by omega)).mono ?_
        rintro e w3 ⟨⟨a3, c3, rfl, hO⟩, hb3⟩
        have hv3 := tr_bl hb3 hv0
        change Boxed w3 w.heap.size 92 v at hv3
        refine hK'.out _ _ trivial (fun _ => ?_)
        clear hK'
        (try simp only [Act.put])
        (try simp only [List.setIfInBounds_toArray])
        (try simp only [List.set_cons_succ])
        (try simp only [List.set_cons_zero])
        refine wpAnyH_ready (rs := [0, 3]) (by kernel_rfl) (by simp) ?_
        refine AllReadyH.cons (o := ⟨_, _, _, _, _, _⟩) rfl (fun K' hK' => ?_) (AllReadyH.cons (o := ⟨_, _, _, _, _, _⟩) rfl (fun K' hK' => ?_) AllReadyH.nil)
        · skip
          refine (if_pos (by rfl)).mpr ?_
          have hcl := hv3.cell
          go_simp
          refine hK'.out _ _ trivial (fun _ => ?_)
          clear hK' hcl
          (try simp only [Act.put])
          (try simp only [List.setIfInBounds_toArray])
          (try simp only [List.set_cons_succ])
          (try simp only [List.set_cons_zero])
          refine wpAnyH_ready (rs := [3]) (by kernel_rfl) (by simp) ?_
          refine AllReadyH.cons (o := ⟨_, _, _, _, _, _⟩) rfl (fun K' hK' => ?_) AllReadyH.nil
          refine (if_pos (by rfl)).mpr ?_
          go_simp
          change K' _ (World.alloc w3 (Obj.cells #[ekV (a3, c3, pcC b x)] 34))
          have hv4 := hv3.alloc (Obj.cells #[ekV (a3, c3, pcC b x)] 34)
          refine hK'.out _ _ trivial (fun _ => ?_)
          clear hK'
          (try simp only [Act.put])
          (try simp only [List.setIfInBounds_toArray])
          (try simp only [List.set_cons_succ])
          (try simp only [List.set_cons_zero])
          refine wpAnyH_ready (rs := [4]) (by kernel_rfl) (by simp) ?_
          refine AllReadyH.cons (o := ⟨_, _, _, _, _, _⟩) rfl (fun K' hK' => ?_) AllReadyH.nil
          refine (if_pos (by rfl)).mpr ?_
          refine wp_appN _ _ 92 92 34 34 elSl Tryz.underlying92 rfl w2.heap.size v es.length (es.map ekV) rfl (owns_bl hr0 (hb3.alloc hb3.size _)) ⟨w3.heap.size, 0, none⟩ 1 1 [ekV (a3, c3, pcC b x)] rfl rfl (cell_one_new _ _ _) (by simp [ekV, Value.oneCell']) (by omega) (by decide) (by have := hb3.size; simp; omega) ?_
          intro v5 w5 ho5 hg5
          obtain ⟨g5, c5, rfl⟩ := ownsRow_succ ho5
          obtain ⟨hv5, hr1, hr2, hr3⟩ := sp_round hz hv hr he ho hB hsW hb3 hO ho5 hg5
          refine hK'.out _ _ trivial (fun _ => ?_)
          clear hK'
          (try simp only [Act.put])
          (try simp only [List.setIfInBounds_toArray])
          (try simp only [List.set_cons_succ])
          (try simp only [List.set_cons_zero])
          refine wpAnyH_ready (rs := [5]) (by kernel_rfl) (by simp) ?_
          refine AllReadyH.cons (o := ⟨_, _, _, _, _, _⟩) rfl (fun K' hK' => ?_) AllReadyH.nil
          refine (if_pos (by rfl)).mpr ?_
          have hcl := hv5.cell
          have hfr := hv5.frozen
          go_simp
          refine hK'.out _ _ trivial (fun _ => ?_)
          clear hK'
          (try simp only [Act.put])
          (try simp only [List.setIfInBounds_toArray])
          (try simp only [List.set_cons_succ])
          (try simp only [List.set_cons_zero])
          refine wpAnyH_done (by kernel_rfl) ?_ _
          exact ⟨rfl, hr1, hr2, hr3⟩
        · refine (if_pos (by rfl)).mpr ?_
          go_simp
          change K' _ (World.alloc w3 (Obj.cells #[ekV (a3, c3, pcC b x)] 34))
          have hv4 := hv3.alloc (Obj.cells #[ekV (a3, c3, pcC b x)] 34)
          refine hK'.out _ _ trivial (fun _ => ?_)
          clear hK'
          (try simp only [Act.put])
          (try simp only [List.setIfInBounds_toArray])
          (try simp only [List.set_cons_succ])
          (try simp only [List.set_cons_zero])
          refine wpAnyH_ready (rs := [0]) (by kernel_rfl) (by simp) ?_
          refine AllReadyH.cons (o := ⟨_, _, _, _, _, _⟩) rfl (fun K' hK' => ?_) AllReadyH.nil
          refine (if_pos (by rfl)).mpr ?_
          have hcl := hv4.cell
          go_simp
          refine hK'.out _ _ trivial (fun _ => ?_)
          clear hK' hcl
          (try simp only [Act.put])
          (try simp only [List.setIfInBounds_toArray])
          (try simp only [List.set_cons_succ])
          (try simp only [List.set_cons_zero])
          refine wpAnyH_ready (rs := [4]) (by kernel_rfl) (by simp) ?_
          refine AllReadyH.cons (o := ⟨_, _, _, _, _, _⟩) rfl (fun K' hK' => ?_) AllReadyH.nil
          refine (if_pos (by rfl)).mpr ?_
          refine wp_appN _ _ 92 92 34 34 elSl Tryz.underlying92 rfl w2.heap.size v es.length (es.map ekV) rfl (owns_bl hr0 (hb3.alloc hb3.size _)) ⟨w3.heap.size, 0, none⟩ 1 1 [ekV (a3, c3, pcC b x)] rfl rfl (cell_one_new _ _ _) (by simp [ekV, Value.oneCell']) (by omega) (by decide) (by have := hb3.size; simp; omega) ?_
          intro v5 w5 ho5 hg5
          obtain ⟨g5, c5, rfl⟩ := ownsRow_succ ho5
          obtain ⟨hv5, hr1, hr2, hr3⟩ := sp_round hz hv hr he ho hB hsW hb3 hO ho5 hg5
          refine hK'.out _ _ trivial (fun _ => ?_)
          clear hK'
          (try simp only [Act.put])
          (try simp only [List.setIfInBounds_toArray])
          (try simp only [List.set_cons_succ])
          (try simp only [List.set_cons_zero])
          refine wpAnyH_ready (rs := [5]) (by kernel_rfl) (by simp) ?_
          refine AllReadyH.cons (o := ⟨_, _, _, _, _, _⟩) rfl (fun K' hK' => ?_) AllReadyH.nil
          refine (if_pos (by rfl)).mpr ?_
          have hcl := hv5.cell
          have hfr := hv5.frozen
          go_simp
          refine hK'.out _ _ trivial (fun _ => ?_)
          clear hK'
          (try simp only [Act.put])
          (try simp only [List.setIfInBounds_toArray])
          (try simp only [List.set_cons_succ])
          (try simp only [List.set_cons_zero])
          refine wpAnyH_done (by kernel_rfl) ?_ _
          exact ⟨rfl, hr1, hr2, hr3⟩
  case done =>
    rintro D ys W hD rfl ⟨v, hv, hc, hB, hsW⟩ hK
    have hcl := hv.cell
    go_wp2
    refine marks_ret hK (results_tmp2 rfl _ _ _) ?_
    exact ⟨SplRes.ok hl ((hc.kept (grownBy_putObj' _ _ _) (fun r e => by cases e; exact .inr ⟨_, hK, rfl⟩)).mono (by omega)), below_mark hB (by omega)⟩
end Go.Proofs.YthfolocjkpiljaaGreatDoor

namespace Go.Proofs.YthfolocjkpiljaaGreatDoor
open Go.RowKit

theorem results_t1c1t1 {P : Program} {fn : Func} {p t q r : Nat} {tmps : Array Value} {w : World} {A : Addr} {v : Value} (hf : fn.results = #[.tmp q, .cell p t, .tmp r]) (hp : tmps.getD p undef = .pointer (some A)) (hl : (loadVar t A).run P w = .ok v w) : (results fn tmps).run P w = .ok (.tuple #[tmps.getD q undef, v, tmps.getD r undef]) w := by
  have hp' : tmps[p]?.getD undef = .pointer (some A) := by simpa using hp
  simp [results, hf, hp', asAddr, hl]
/-- What Open and Mine hand back. -/
def FrRes (base : Nat) (r : Nat × Tg × List UInt8) (e : Ending) (w' : World) : Prop := ∃ a c, e = .returned (.tuple #[.int .u8 (r.1 : Int), tgV r.2.1, .slice a r.2.2.length c]) ∧ OwnB w' base a c r.2.2
theorem FrRes.none {base st : Nat} {e : Ending} {w' : World} (h : e = .returned (.tuple #[.int .u8 (st : Int), tgV zeroTg, .slice .none 0 0])) : FrRes base (st, zeroTg, []) e w' := ⟨.none, 0, h, OwnB.none _ _⟩
theorem openF_size {l : List UInt8} (h : roomN l.length = 0) : openF l = (2, zeroTg, []) := by unfold openF; rw [if_pos h]
set_option maxRecDepth 100000 in
set_option maxHeartbeats 1000000 in
theorem open_odd (a : Option Addr) (cap : Nat) (l : List UInt8) (w : World) (hl : l.length ≤ 1000) (hr : roomN l.length = 0) : Calls Tryz.prog 195 #[.slice a l.length cap] w fun e w' => FrRes w.heap.size (openF l) e w' ∧ Below w.heap.size w w' := by
  rw [openF_size hr]
  have hbB := blw w (Obj.cells #[.int .i64 0, .int .i64 0, .int .i64 0, .int .i64 0, .int .i64 0] 33)
  have B3 := heap_alloc_new w (Obj.cells #[.int .i64 0, .int .i64 0, .int .i64 0, .int .i64 0, .int .i64 0] 33)
  by_cases hm : l.length % 64 = 0
  · obtain ⟨k, hk⟩ : ∃ k, l.length = 64 * k := ⟨l.length / 64, by omega⟩
    rw [hk] at hr
    have hroom : ∀ w, Calls Tryz.prog 106 #[.int .i64 (k : Int)] w fun e w' => e = .returned (.int .i64 0) ∧ w = w' := fun w => by
      have := room_any k w
      rw [hr] at this
      exact this
    have e1 : (l.length : Int) / 64 = (k : Int) := by omega
    have e2 : ((l.length : Int).tmod 64) = 0 := by rw [Int.tmod_eq_emod_of_nonneg (by omega)]; omega
    have e3 : ((l.length : Int) % 64) = 0 := by omega
    have HK := Lib.hid hk
    clear hk hm hr
    go_enter Tryz.func195, Tryz.ntmps195
    go_wp2_with (first
      | (go_at_call 106; refine (hroom _).mono ?_; rintro e w2 ⟨rfl, rfl⟩)
      | ((with_reducible refine wpList_stB 33 _ _ ?_); refine ⟨_, _, _, ⟨_, _, _, Tryz.sizeOf33, rfl, B3, st5 _ rfl 0 0 0 0 0⟩, ?_⟩; intro w5 B5 g5))
    refine bodyPost_ret (results_t1c1t1 rfl rfl (run_loadVar_all Tryz.isAgg33 Tryz.sizeOf33 B5 rfl)) rfl ⟨FrRes.none rfl, bl_st hbB g5 hbB.size (Nat.le_refl _)⟩
  · have e2 : ((l.length : Int).tmod 64 != 0) = true := by rw [bne_iff_ne, Int.tmod_eq_emod_of_nonneg (by omega)]; omega
    have e3 : ((l.length : Int) % 64 != 0) = true := by rw [bne_iff_ne]; omega
    clear hm hr
    go_enter Tryz.func195, Tryz.ntmps195
    go_wp2_with (first
      | ((with_reducible refine wpList_stB 33 _ _ ?_); refine ⟨_, _, _, ⟨_, _, _, Tryz.sizeOf33, rfl, B3, st5 _ rfl 0 0 0 0 0⟩, ?_⟩; intro w5 B5 g5))
    refine bodyPost_ret (results_t1c1t1 rfl rfl (run_loadVar_all Tryz.isAgg33 Tryz.sizeOf33 B5 rfl)) rfl ⟨FrRes.none rfl, bl_st hbB g5 hbB.size (Nat.le_refl _)⟩
set_option maxRecDepth 100000 in
set_option maxHeartbeats 1000000 in
theorem open_n1 (a : Option Addr) (cap : Nat) (l : List UInt8) (w : World) (hs : SlB w a cap l) (hl : l.length = 64) (hz : noughtsB l = true) : Calls Tryz.prog 195 #[.slice a 64 cap] w fun e w' => FrRes w.heap.size (openF l) e w' ∧ Below w.heap.size w w' := by
  have ho : openF l = (0, zeroTg, []) := by unfold openF; rw [hl, if_neg (by decide), if_pos hz]
  rw [ho]
  have hroom : ∀ w, Calls Tryz.prog 106 #[.int .i64 1] w fun e w' => e = .returned (.int .i64 43) ∧ w = w' := fun w => room_any 1 w
  have hbB := blw w (Obj.cells #[.int .i64 0, .int .i64 0, .int .i64 0, .int .i64 0, .int .i64 0] 33)
  have B3 := heap_alloc_new w (Obj.cells #[.int .i64 0, .int .i64 0, .int .i64 0, .int .i64 0, .int .i64 0] 33)
  have hno := noughts_any a cap l (w.alloc (Obj.cells #[.int .i64 0, .int .i64 0, .int .i64 0, .int .i64 0, .int .i64 0] 33)) (hs.below hbB)
  rw [hl, hz] at hno
  clear ho hz hl
  go_enter Tryz.func195, Tryz.ntmps195
  go_wp2_with (first
    | (go_at_call 106; refine (hroom _).mono ?_; rintro e w2 ⟨rfl, rfl⟩)
    | (go_at_call 241; refine hno.mono ?_; rintro e w2 ⟨rfl, hb2⟩; have C3 := tr_bl hb2 B3; have hb3 := hbB.trans (hb2.mono hbB.size))
    | ((with_reducible refine wpList_stB 33 _ _ ?_); refine ⟨_, _, _, ⟨_, _, _, Tryz.sizeOf33, rfl, C3, st5 _ rfl 0 0 0 0 0⟩, ?_⟩; intro w5 B5 g5))
  refine bodyPost_ret (results_t1c1t1 rfl rfl (run_loadVar_all Tryz.isAgg33 Tryz.sizeOf33 B5 rfl)) rfl ⟨FrRes.none rfl, bl_st hb3 g5 hb3.size (Nat.le_refl _)⟩
set_option maxRecDepth 100000 in
set_option maxHeartbeats 1000000 in
theorem open_n2 (a : Option Addr) (cap : Nat) (l : List UInt8) (w : World) (hs : SlB w a cap l) (hl : l.length = 128) (hz : noughtsB l = true) : Calls Tryz.prog 195 #[.slice a 128 cap] w fun e w' => FrRes w.heap.size (openF l) e w' ∧ Below w.heap.size w w' := by
  have ho : openF l = (0, zeroTg, []) := by unfold openF; rw [hl, if_neg (by decide), if_pos hz]
  rw [ho]
  have hroom : ∀ w, Calls Tryz.prog 106 #[.int .i64 2] w fun e w' => e = .returned (.int .i64 88) ∧ w = w' := fun w => room_any 2 w
  have hbB := blw w (Obj.cells #[.int .i64 0, .int .i64 0, .int .i64 0, .int .i64 0, .int .i64 0] 33)
  have B3 := heap_alloc_new w (Obj.cells #[.int .i64 0, .int .i64 0, .int .i64 0, .int .i64 0, .int .i64 0] 33)
  have hno := noughts_any a cap l (w.alloc (Obj.cells #[.int .i64 0, .int .i64 0, .int .i64 0, .int .i64 0, .int .i64 0] 33)) (hs.below hbB)
  rw [hl, hz] at hno
  clear ho hz hl
  go_enter Tryz.func195, Tryz.ntmps195
  go_wp2_with (first
    | (go_at_call 106; refine (hroom _).mono ?_; rintro e w2 ⟨rfl, rfl⟩)
    | (go_at_call 241; refine hno.mono ?_; rintro e w2 ⟨rfl, hb2⟩; have C3 := tr_bl hb2 B3; have hb3 := hbB.trans (hb2.mono hbB.size))
    | ((with_reducible refine wpList_stB 33 _ _ ?_); refine ⟨_, _, _, ⟨_, _, _, Tryz.sizeOf33, rfl, C3, st5 _ rfl 0 0 0 0 0⟩, ?_⟩; intro w5 B5 g5))
  refine bodyPost_ret (results_t1c1t1 rfl rfl (run_loadVar_all Tryz.isAgg33 Tryz.sizeOf33 B5 rfl)) rfl ⟨FrRes.none rfl, bl_st hb3 g5 hb3.size (Nat.le_refl _)⟩
end Go.Proofs.YthfolocjkpiljaaGreatDoor

namespace Go.Proofs.YthfolocjkpiljaaGreatDoor
open Go.RowKit

theorem getN_lt (l : List UInt8) (p k : Nat) : getN l p k < 256 ^ k := by
  unfold getN
  refine Nat.lt_of_lt_of_le (ofLe_lt _) (Nat.pow_le_pow_right (by decide) ?_)
  rw [List.length_take]
  omega
/-- What is left to be said of a frame of a good size that is not all noughts. -/
def okF (l : List UInt8) (N : Nat) : Bool := mayTg (tagAt l 2) && (decide (getN l 0 2 ≤ roomN N) && (decide (getN l (N - 4) 4 = crcS (l.take (N - 4))) && noughtsB ((l.drop (17 + getN l 0 2)).take (N - 21 - getN l 0 2))))
theorem openF_ok {l : List UInt8} {N : Nat} (hl : l.length = N) (hr : 0 < roomN N) (hz : noughtsB l = false) : openF l = if okF l N = true then (1, tagAt l 2, (l.drop 17).take (getN l 0 2)) else (2, zeroTg, []) := by
  unfold openF okF
  rw [hl, if_neg (by omega), hz, if_neg (by simp)]
  congr 1
  simp only [Bool.and_eq_true, decide_eq_true_eq]
end Go.Proofs.YthfolocjkpiljaaGreatDoor

namespace Go.Proofs.YthfolocjkpiljaaGreatDoor
open Go.RowKit

set_option maxRecDepth 100000 in
set_option maxHeartbeats 4000000 in
theorem open_m1 (b off : Nat) (cap : Nat) (l : List UInt8) (w : World) (hs : SlB w (some ⟨b, off, none⟩) cap l) (hl : l.length = 64) (hz : noughtsB l = false) : Calls Tryz.prog 195 #[.slice (some ⟨b, off, none⟩) 64 cap] w fun e w' => FrRes w.heap.size (openF l) e w' ∧ Below w.heap.size w w' := by
  rw [openF_ok (N := 64) hl (by decide) hz]
  have hroom : ∀ w, Calls Tryz.prog 106 #[.int .i64 1] w fun e w' => e = .returned (.int .i64 43) ∧ w = w' := fun w => room_any 1 w
  have hcap : 64 ≤ cap := by have := hs.le; omega
  have hmx := hs.max
  unfold maxLen at hmx
  have k2 : ¬ cap = 2 := by omega
  have k17 : ¬ cap = 17 := by omega
  have hbB := blw w (Obj.cells #[.int .i64 0, .int .i64 0, .int .i64 0, .int .i64 0, .int .i64 0] 33)
  have B3 := heap_alloc_new w (Obj.cells #[.int .i64 0, .int .i64 0, .int .i64 0, .int .i64 0, .int .i64 0] 33)
  have hno := noughts_any _ cap l (w.alloc (Obj.cells #[.int .i64 0, .int .i64 0, .int .i64 0, .int .i64 0, .int .i64 0] 33)) (hs.below hbB)
  rw [hl, hz] at hno
  obtain ⟨n, hn, hnlt⟩ : ∃ n, getN l 0 2 = n ∧ n < 65536 := ⟨_, rfl, getN_lt l 0 2⟩
  obtain ⟨s, hsn, hslt⟩ : ∃ s, getN l 60 4 = s ∧ s < 4294967296 := ⟨_, rfl, getN_lt l 60 4⟩
  have g1 : ∀ w', SlB w' (some ⟨b, off, none⟩) cap l → Calls Tryz.prog 203 #[.slice (some ⟨b, off, none⟩) 64 cap, .int .i64 0, .int .i64 2] w' fun e w'' => e = .returned (.tuple #[.int .i64 (n : Nat), .int .i64 2, .int .i64 0]) ∧ Below w'.heap.size w' w'' := fun w' h => by
    have := get_ok _ cap l 0 2 w' h (by omega) (by omega)
    rw [hl, hn] at this
    exact this
  have g2 : ∀ w', SlB w' (some ⟨b, off, none⟩) cap l → Calls Tryz.prog 203 #[.slice (some ⟨b, off, none⟩) 64 cap, .int .i64 60, .int .i64 4] w' fun e w'' => e = .returned (.tuple #[.int .i64 (s : Nat), .int .i64 64, .int .i64 0]) ∧ Below w'.heap.size w' w'' := fun w' h => by
    have := get_ok _ cap l 60 4 w' h (by omega) (by omega)
    rw [hl, hsn] at this
    exact this
  have hpa : ∀ w', SlB w' (some ⟨b, off, none⟩) cap l → Calls Tryz.prog 242 #[.slice (some ⟨b, off + 2, none⟩) 15 (cap - 2)] w' fun e w'' => e = .returned (.tuple #[tgV (parseT ((l.drop 2).take 15)).1, .int .i64 (parseT ((l.drop 2).take 15)).2]) ∧ Below w'.heap.size w' w'' := fun w' h =>
    tparse_any _ _ _ w' (h.sub 2 15 (by omega)) (by rw [List.length_take, List.length_drop]; omega)
  obtain ⟨tg, pe, hpt, hpe⟩ : ∃ tg pe, parseT ((l.drop 2).take 15) = (tg, pe) ∧ ((pe = 0 ∧ tg = tagAt l 2 ∧ mayTg (tagAt l 2) = true) ∨ (pe = 30 ∧ mayTg (tagAt l 2) = false)) := by
    unfold parseT
    rw [tagAt_sub]
    cases h : mayTg (tagAt l 2)
    · exact ⟨_, _, rfl, .inr ⟨rfl, rfl⟩⟩
    · exact ⟨_, _, rfl, .inl ⟨rfl, rfl, rfl⟩⟩
  rw [hpt] at hpa
  simp only at hpa
  have HPE := Lib.hid hpe
  have HL := Lib.hid hl
  have HN := Lib.hid hn
  have HS := Lib.hid hsn
  clear hpe hpt hz hl hn hsn
  go_enter Tryz.func195, Tryz.ntmps195
  refine wp_seq_k (fun K hK => ?_)
  have HK := Lib.hid hK
  clear hK
  go_wp2
  refine HK.out _ _ ?_
  clear HK
  refine wp_seq_k (fun K hK => ?_)
  have HK := Lib.hid hK
  clear hK
  go_wp2
  refine HK.out _ _ ?_
  clear HK
  refine wp_seq_k (fun K hK => ?_)
  have HK := Lib.hid hK
  clear hK
  go_wp2_with (go_at_call 106; refine (hroom _).mono ?_; rintro e w2 ⟨rfl, rfl⟩)
  refine HK.out _ _ ?_
  clear HK
  refine wp_seq_k (fun K hK => ?_)
  have HK := Lib.hid hK
  clear hK
  go_wp2_with (go_at_call 241; refine hno.mono ?_; rintro e w2 ⟨rfl, hb2⟩)
  refine HK.out _ _ ?_
  clear HK
  have A3 := tr_bl hb2 B3
  have hb3 := hbB.trans (hb2.mono hbB.size)
  have hs3 := hs.below hb3
  clear hno hb2 B3 hbB
  refine wp_seq_k (fun K hK => ?_)
  have HK := Lib.hid hK
  clear hK
  go_wp2_with (go_at_call 203; refine (g1 _ hs3).mono ?_; rintro e w4 ⟨rfl, hb4⟩)
  refine HK.out _ _ ?_
  clear HK
  have A4 := tr_bl hb4 A3
  have hb5 := hb3.trans (hb4.mono hb3.size)
  have hs5 := hs.below hb5
  clear A3 hb3 hs3 hb4
  refine wp_seq_k (fun K hK => ?_)
  have HK := Lib.hid hK
  clear hK
  go_wp2_with (go_at_call 242; refine (hpa _ hs5).mono ?_; rintro e w5 ⟨rfl, hb6⟩)
  refine HK.out _ _ ?_
  clear HK
  have A5 := tr_al (Obj.cells #[.int .i64 tg.rep, .int .i64 tg.reg, .int .i64 tg.pla, .int .i64 tg.idx, .int .i64 tg.inc] 33) (tr_bl hb6 A4)
  have T5 := heap_alloc_new w5 (Obj.cells #[.int .i64 tg.rep, .int .i64 tg.reg, .int .i64 tg.pla, .int .i64 tg.idx, .int .i64 tg.inc] 33)
  have hb50 := hb5.trans (hb6.mono hb5.size)
  have hb7 := hb50.alloc hb50.size (Obj.cells #[.int .i64 tg.rep, .int .i64 tg.reg, .int .i64 tg.pla, .int .i64 tg.idx, .int .i64 tg.inc] 33)
  have hq0 : w.heap.size < w5.heap.size := Nat.lt_of_lt_of_le (lt_blk A4) (hb6.size)
  have hs7 := hs.below hb7
  clear A4 hb5 hs5 hb6 hb50 hpa g1
  generalize w5.alloc (Obj.cells #[.int .i64 tg.rep, .int .i64 tg.reg, .int .i64 tg.pla, .int .i64 tg.idx, .int .i64 tg.inc] 33) = w6 at *
  generalize w5.heap.size = q at *
  refine wp_seq_k (fun K hK => ?_)
  have HK := Lib.hid hK
  clear hK
  go_wp2
  refine HK.out _ _ ?_
  clear HK
  refine wp_seq_k (fun K hK => ?_)
  have HK := Lib.hid hK
  clear hK
  go_wp2_with (go_at_call 203; refine (g2 _ hs7).mono ?_; rintro e w8 ⟨rfl, hb8'⟩)
  refine HK.out _ _ ?_
  clear HK
  have C3 := tr_bl hb8' A5
  have T8 := tr_bl hb8' T5
  have hb8 := hb7.trans (hb8'.mono hb7.size)
  have hs8 := hs.below hb8
  clear g2 hs7 hb7 hb8' A5 T5
  have hsum := sum_any _ cap (l.take 60) w8 (hs8.take 60)
  rw [show (l.take 60).length = 60 by rw [List.length_take, HL.out]; rfl] at hsum
  have hno7 : ∀ w', Below w8.heap.size w8 w' → n ≤ 43 → Calls Tryz.prog 241 #[.slice (some ⟨b, off + (17 + n), none⟩) (60 - (17 + n)) (cap - (17 + n))] w' fun e w'' => e = .returned (.bool (noughtsB ((l.drop (17 + n)).take (64 - 21 - n)))) ∧ Below w'.heap.size w' w'' := fun w' hb hnr => by
    have := noughts_any _ _ ((l.drop (17 + n)).take (64 - 21 - n)) w' ((hs8.below hb).sub (17 + n) (64 - 21 - n) (by rw [HL.out]; omega))
    rw [show ((l.drop (17 + n)).take (64 - 21 - n)).length = 60 - (17 + n) by rw [List.length_take, List.length_drop, HL.out]; omega] at this
    exact this
  have hok : okF l 64 = (mayTg (tagAt l 2) && (decide (n ≤ 43) && (decide (s = crcS (l.take 60)) && noughtsB ((l.drop (17 + n)).take (64 - 21 - n))))) := by
    unfold okF
    rw [HN.out, show 64 - 4 = 60 from rfl, HS.out, show roomN 64 = 43 from rfl]
  rw [hok, HN.out]
  clear hok
  have hz := crcS_lt (l.take 60)
  generalize crcS (l.take 60) = z at *
  generalize hnd : noughtsB ((l.drop (17 + n)).take (64 - 21 - n)) = nd at *
  clear hnd
  rcases HPE.out with ⟨h1, h2, h3⟩ | ⟨h1, h3⟩
  case inr =>
    rw [h3, Bool.false_and, if_neg (by simp)]
    subst h1
    clear h3 HPE
    go_wp2_with (first
      | (go_at_call 106; refine (hroom _).mono ?_; rintro e w2 ⟨rfl, rfl⟩)
      | (go_at_call 243; refine hsum.mono ?_; rintro e w7 ⟨rfl, hb7⟩; have D3 := tr_bl hb7 C3; have hb9 := hb8.trans (hb7.mono hb8.size))
      | (go_at_call 241; refine (hno8 _ hb7).mono ?_; rintro e w8 ⟨rfl, hb10⟩; have E3 := tr_bl hb10 D3; have hb11 := hb9.trans (hb10.mono hb9.size))
      | ((with_reducible refine wpList_stB 33 _ _ ?_); refine ⟨_, _, _, ⟨_, _, _, Tryz.sizeOf33, rfl, C3, st5 _ rfl 0 0 0 0 0⟩, ?_⟩; intro w5 B5 g5))
    refine bodyPost_ret (results_t1c1t1 rfl rfl (run_loadVar_all Tryz.isAgg33 Tryz.sizeOf33 B5 rfl)) rfl ⟨FrRes.none rfl, bl_st hb8 g5 hb8.size (Nat.le_refl _)⟩
  case inl =>
    rw [h3, Bool.true_and]
    subst h1
    have HTG := Lib.hid h2
    clear h3 HPE h2
    by_cases hnr : n ≤ 43
    case neg =>
      rw [decide_eq_false hnr, Bool.false_and, if_neg (by simp)]
      have hI : (43 : Int) < n := by omega
      go_wp2_with (first
        | (go_at_call 106; refine (hroom _).mono ?_; rintro e w2 ⟨rfl, rfl⟩)
        | (go_at_call 243; refine hsum.mono ?_; rintro e w7 ⟨rfl, hb7⟩; have D3 := tr_bl hb7 C3; have hb9 := hb8.trans (hb7.mono hb8.size))
        | (go_at_call 241; refine (hno8 _ hb7).mono ?_; rintro e w8 ⟨rfl, hb10⟩; have E3 := tr_bl hb10 D3; have hb11 := hb9.trans (hb10.mono hb9.size))
        | ((with_reducible refine wpList_stB 33 _ _ ?_); refine ⟨_, _, _, ⟨_, _, _, Tryz.sizeOf33, rfl, C3, st5 _ rfl 0 0 0 0 0⟩, ?_⟩; intro w5 B5 g5))
      refine bodyPost_ret (results_t1c1t1 rfl rfl (run_loadVar_all Tryz.isAgg33 Tryz.sizeOf33 B5 rfl)) rfl ⟨FrRes.none rfl, bl_st hb8 g5 hb8.size (Nat.le_refl _)⟩
    case pos =>
      rw [decide_eq_true hnr, Bool.true_and]
      have hI : (n : Int) ≤ 43 := by omega
      have kn : ¬ cap = 17 + n := by omega
      have hno8 := fun w' h => hno7 w' h hnr
      clear hno7
      by_cases hsz : s = z
      case neg =>
        rw [decide_eq_false hsz, Bool.false_and, if_neg (by simp)]
        have hne : ((s : Int) != (z : Int)) = true := by rw [bne_iff_ne]; omega
        go_wp2_with (first
          | (go_at_call 106; refine (hroom _).mono ?_; rintro e w2 ⟨rfl, rfl⟩)
          | (go_at_call 243; refine hsum.mono ?_; rintro e w7 ⟨rfl, hb7⟩; have D3 := tr_bl hb7 C3; have hb9 := hb8.trans (hb7.mono hb8.size))
          | (go_at_call 241; refine (hno8 _ hb7).mono ?_; rintro e w8 ⟨rfl, hb10⟩; have E3 := tr_bl hb10 D3; have hb11 := hb9.trans (hb10.mono hb9.size))
          | ((with_reducible refine wpList_stB 33 _ _ ?_); refine ⟨_, _, _, ⟨_, _, _, Tryz.sizeOf33, rfl, D3, st5 _ rfl 0 0 0 0 0⟩, ?_⟩; intro w5 B5 g5))
        refine bodyPost_ret (results_t1c1t1 rfl rfl (run_loadVar_all Tryz.isAgg33 Tryz.sizeOf33 B5 rfl)) rfl ⟨FrRes.none rfl, bl_st hb9 g5 hb9.size (Nat.le_refl _)⟩
      case pos =>
        subst hsz
        rw [decide_eq_true rfl, Bool.true_and]
        have hne : ((s : Int) != (s : Int)) = false := by simp
        cases nd
        case false =>
          rw [if_neg (by simp)]
          go_wp2_with (first
            | (go_at_call 106; refine (hroom _).mono ?_; rintro e w2 ⟨rfl, rfl⟩)
            | (go_at_call 243; refine hsum.mono ?_; rintro e w7 ⟨rfl, hb7⟩; have D3 := tr_bl hb7 C3; have hb9 := hb8.trans (hb7.mono hb8.size))
            | (go_at_call 241; refine (hno8 _ hb7).mono ?_; rintro e w8 ⟨rfl, hb10⟩; have E3 := tr_bl hb10 D3; have hb11 := hb9.trans (hb10.mono hb9.size))
            | ((with_reducible refine wpList_stB 33 _ _ ?_); refine ⟨_, _, _, ⟨_, _, _, Tryz.sizeOf33, rfl, E3, st5 _ rfl 0 0 0 0 0⟩, ?_⟩; intro w5 B5 g5))
          refine bodyPost_ret (results_t1c1t1 rfl rfl (run_loadVar_all Tryz.isAgg33 Tryz.sizeOf33 B5 rfl)) rfl ⟨FrRes.none rfl, bl_st hb11 g5 hb11.size (Nat.le_refl _)⟩
        case true =>
          rw [if_pos rfl]
          refine wp_seq_k (fun K hK => ?_)
          have HK := Lib.hid hK
          clear hK
          go_wp2_with (first
                      | (go_at_call 106; refine (hroom _).mono ?_; rintro e w2 ⟨rfl, rfl⟩)
                      | (go_at_call 243; refine hsum.mono ?_; rintro e w7 ⟨rfl, hb7⟩; have D3 := tr_bl hb7 C3; have T7 := tr_bl hb7 T8; have hb9 := hb8.trans (hb7.mono hb8.size))
                      | (go_at_call 241; refine (hno8 _ hb7).mono ?_; rintro e w9 ⟨rfl, hb10⟩; have E3 := tr_bl hb10 D3; have T9 := tr_bl hb10 T7; have hb11 := hb9.trans (hb10.mono hb9.size)))
          refine HK.out _ _ ?_
          clear HK
          have hbl : ((l.drop 17).take n).length = n := by rw [List.length_take, List.length_drop, HL.out]; omega
          have hcl := clone_any ⟨b, off + 17, none⟩ (cap - 17) ((l.drop 17).take n) w9 ((hs.below hb11).sub 17 n (by rw [HL.out]; omega)) (by omega)
          rw [hbl] at hcl
          have HBL := Lib.hid hbl
          clear hbl C3 T8 hs8 hsum hno8 hb7 D3 T7 hb9 hb10 hb8 hz
          refine wp_seq_k (fun K hK => ?_)
          have HK := Lib.hid hK
          clear hK
          go_wp2_with (go_at_call 244; refine hcl.mono ?_; rintro e w10 ⟨⟨g, c, rfl, hc1, hc2, ho⟩, hb12⟩)
          refine HK.out _ _ ?_
          clear HK
          clear hcl
          have F3 := tr_bl hb12 E3
          have T10 := tr_bl hb12 T9
          have hb13 := hb11.trans (hb12.mono hb11.size)
          have ho10 := ho.mono hb11.size
          clear E3 T9 hb11 hb12 ho
          unfold maxLen at hc2
          refine wp_seq_k (fun K hK => ?_)
          have HK := Lib.hid hK
          clear hK
          go_wp2_with fail
          have hbd := (Below.refl w10.heap.size w10).drew
          have F4 := tr_bl hbd F3
          have T11 := tr_bl hbd T10
          have hb14 := hb13.trans (hbd.mono hb13.size)
          have ho11 := ho10.below hbd
          clear F3 T10 hb13 ho10
          refine wp_region_held_drew (S := fun w' => w'.heap[q]? = some (.cells #[.int .i64 tg.rep, .int .i64 tg.reg, .int .i64 tg.pla, .int .i64 tg.idx, .int .i64 tg.inc] 33 (0, 0))) (by kernel_rfl) T11 (fun hS0 => ?_)
          clear hbd
          generalize w10.drew = x0 at *
          refine wpAnyH_take (i := 0) (oi := ⟨_, _, _, _, _, _⟩) (v := .agg (#[.int .i64 tg.rep, .int .i64 tg.reg, .int .i64 tg.pla, .int .i64 tg.idx, .int .i64 tg.inc])) rfl (by kernel_rfl) (by kernel_rfl) (by kernel_rfl) (fun _ _ _ h => h) (Or.inl ⟨by rfl, fun wS hSw => ?_⟩) (by assumption) ?_
          · exact exec_ldB 33 _ ⟨_, _, _, _, _, Tryz.isAgg33, Tryz.sizeOf33, rfl, hSw, ld5 _ _ _ _ _⟩
          (try simp only [Act.put])
          (try simp only [List.setIfInBounds_toArray])
          (try simp only [List.set_cons_succ])
          (try simp only [List.set_cons_zero])
          refine wpAnyH_take (i := 1) (oi := ⟨_, _, _, _, _, _⟩) (v := ?_) rfl (by kernel_rfl) (by kernel_rfl) (by kernel_rfl) (fun _ _ _ h => h) (Or.inl ⟨by rfl, ?_⟩) (by assumption) ?_
          rotate_left
          · intro wS hSw
            go_simp; (try with_reducible rfl)
          (try simp only [Act.put])
          (try simp only [List.setIfInBounds_toArray])
          (try simp only [List.set_cons_succ])
          (try simp only [List.set_cons_zero])
          refine wpAnyH_take (i := 2) (oi := ⟨_, _, _, _, _, _⟩) (v := ?_) rfl (by kernel_rfl) (by kernel_rfl) (by kernel_rfl) (fun _ _ _ h => h) (Or.inl ⟨by rfl, ?_⟩) (by assumption) ?_
          rotate_left
          · intro wS hSw
            go_simp; (try with_reducible rfl)
          (try simp only [Act.put])
          (try simp only [List.setIfInBounds_toArray])
          (try simp only [List.set_cons_succ])
          (try simp only [List.set_cons_zero])
          refine wpAnyH_take (i := 3) (oi := ⟨_, _, _, _, _, _⟩) (v := ?_) rfl (by kernel_rfl) (by kernel_rfl) (by kernel_rfl) (fun _ _ _ h => h) (Or.inl ⟨by rfl, ?_⟩) (by assumption) ?_
          rotate_left
          · intro wS hSw
            go_simp; (try with_reducible rfl)
          (try simp only [Act.put])
          (try simp only [List.setIfInBounds_toArray])
          (try simp only [List.set_cons_succ])
          (try simp only [List.set_cons_zero])
          refine wpAnyH_take (i := 4) (oi := ⟨_, _, _, _, _, _⟩) (v := ?_) rfl (by kernel_rfl) (by kernel_rfl) (by kernel_rfl) (fun _ _ _ h => h) (Or.inl ⟨by rfl, ?_⟩) (by assumption) ?_
          rotate_left
          · intro wS hSw
            go_simp; (try with_reducible rfl)
          (try simp only [Act.put])
          (try simp only [List.setIfInBounds_toArray])
          (try simp only [List.set_cons_succ])
          (try simp only [List.set_cons_zero])
          refine wpAnyH_take (i := 5) (oi := ⟨_, _, _, _, _, _⟩) (v := ?_) rfl (by kernel_rfl) (by kernel_rfl) (by kernel_rfl) (fun _ _ _ h => h) (Or.inl ⟨by rfl, ?_⟩) (by assumption) ?_
          rotate_left
          · intro wS hSw
            go_simp; (try with_reducible rfl)
          (try simp only [Act.put])
          (try simp only [List.setIfInBounds_toArray])
          (try simp only [List.set_cons_succ])
          (try simp only [List.set_cons_zero])
          refine wpAnyH_ready (rs := [6]) (by kernel_rfl) (by simp) ?_
          refine AllReadyH.cons (o := ⟨_, _, _, _, _, _⟩) rfl (fun K' hK' => ?_) AllReadyH.nil
          refine (if_pos (by rfl)).mpr ?_
          refine wp_stB 33 _ _ ?_
          refine ⟨_, _, _, ⟨_, _, _, Tryz.sizeOf33, rfl, F4, st5 _ rfl tg.rep tg.reg tg.pla tg.idx tg.inc⟩, ?_⟩
          intro w11 B11 g11
          refine hK'.out _ _ (tr_st g11 hS0 (by omega)) (fun _ => ?_)
          clear hK'
          (try simp only [Act.put])
          (try simp only [List.setIfInBounds_toArray])
          (try simp only [List.set_cons_succ])
          (try simp only [List.set_cons_zero])
          refine wpAnyH_take (i := 7) (oi := ⟨_, _, _, _, _, _⟩) (v := ?_) rfl (by kernel_rfl) (by kernel_rfl) (by kernel_rfl) (fun _ _ _ h => h) (Or.inl ⟨by rfl, ?_⟩) (by assumption) ?_
          rotate_left
          · intro wS hSw
            go_simp; (try with_reducible rfl)
          (try simp only [Act.put])
          (try simp only [List.setIfInBounds_toArray])
          (try simp only [List.set_cons_succ])
          (try simp only [List.set_cons_zero])
          refine wpAnyH_done (by kernel_rfl) ?_ _
          refine HK.out _ _ ?_
          clear HK
          go_wp2
          refine bodyPost_ret (results_t1c1t1 rfl rfl (run_loadVar_all Tryz.isAgg33 Tryz.sizeOf33 B11 rfl)) rfl ⟨⟨some ⟨g, 0, none⟩, n, ?_, ?_⟩, bl_st hb14 g11 hb14.size (Nat.le_refl _)⟩
          · rw [HBL.out, ← HTG.out]
            rfl
          · exact ho11.st g11 F4 (by decide)
end Go.Proofs.YthfolocjkpiljaaGreatDoor

namespace Go.Proofs.YthfolocjkpiljaaGreatDoor
open Go.RowKit

set_option maxRecDepth 100000 in
set_option maxHeartbeats 4000000 in
theorem open_m2 (b off : Nat) (cap : Nat) (l : List UInt8) (w : World) (hs : SlB w (some ⟨b, off, none⟩) cap l) (hl : l.length = 128) (hz : noughtsB l = false) : Calls Tryz.prog 195 #[.slice (some ⟨b, off, none⟩) 128 cap] w fun e w' => FrRes w.heap.size (openF l) e w' ∧ Below w.heap.size w w' := by
  rw [openF_ok (N := 128) hl (by decide) hz]
  have hroom : ∀ w, Calls Tryz.prog 106 #[.int .i64 2] w fun e w' => e = .returned (.int .i64 88) ∧ w = w' := fun w => room_any 2 w
  have hcap : 128 ≤ cap := by have := hs.le; omega
  have hmx := hs.max
  unfold maxLen at hmx
  have k2 : ¬ cap = 2 := by omega
  have k17 : ¬ cap = 17 := by omega
  have hbB := blw w (Obj.cells #[.int .i64 0, .int .i64 0, .int .i64 0, .int .i64 0, .int .i64 0] 33)
  have B3 := heap_alloc_new w (Obj.cells #[.int .i64 0, .int .i64 0, .int .i64 0, .int .i64 0, .int .i64 0] 33)
  have hno := noughts_any _ cap l (w.alloc (Obj.cells #[.int .i64 0, .int .i64 0, .int .i64 0, .int .i64 0, .int .i64 0] 33)) (hs.below hbB)
  rw [hl, hz] at hno
  obtain ⟨n, hn, hnlt⟩ : ∃ n, getN l 0 2 = n ∧ n < 65536 := ⟨_, rfl, getN_lt l 0 2⟩
  obtain ⟨s, hsn, hslt⟩ : ∃ s, getN l 124 4 = s ∧ s < 4294967296 := ⟨_, rfl, getN_lt l 124 4⟩
  have g1 : ∀ w', SlB w' (some ⟨b, off, none⟩) cap l → Calls Tryz.prog 203 #[.slice (some ⟨b, off, none⟩) 128 cap, .int .i64 0, .int .i64 2] w' fun e w'' => e = .returned (.tuple #[.int .i64 (n : Nat), .int .i64 2, .int .i64 0]) ∧ Below w'.heap.size w' w'' := fun w' h => by
    have := get_ok _ cap l 0 2 w' h (by omega) (by omega)
    rw [hl, hn] at this
    exact this
  have g2 : ∀ w', SlB w' (some ⟨b, off, none⟩) cap l → Calls Tryz.prog 203 #[.slice (some ⟨b, off, none⟩) 128 cap, .int .i64 124, .int .i64 4] w' fun e w'' => e = .returned (.tuple #[.int .i64 (s : Nat), .int .i64 128, .int .i64 0]) ∧ Below w'.heap.size w' w'' := fun w' h => by
    have := get_ok _ cap l 124 4 w' h (by omega) (by omega)
    rw [hl, hsn] at this
    exact this
  have hpa : ∀ w', SlB w' (some ⟨b, off, none⟩) cap l → Calls Tryz.prog 242 #[.slice (some ⟨b, off + 2, none⟩) 15 (cap - 2)] w' fun e w'' => e = .returned (.tuple #[tgV (parseT ((l.drop 2).take 15)).1, .int .i64 (parseT ((l.drop 2).take 15)).2]) ∧ Below w'.heap.size w' w'' := fun w' h =>
    tparse_any _ _ _ w' (h.sub 2 15 (by omega)) (by rw [List.length_take, List.length_drop]; omega)
  obtain ⟨tg, pe, hpt, hpe⟩ : ∃ tg pe, parseT ((l.drop 2).take 15) = (tg, pe) ∧ ((pe = 0 ∧ tg = tagAt l 2 ∧ mayTg (tagAt l 2) = true) ∨ (pe = 30 ∧ mayTg (tagAt l 2) = false)) := by
    unfold parseT
    rw [tagAt_sub]
    cases h : mayTg (tagAt l 2)
    · exact ⟨_, _, rfl, .inr ⟨rfl, rfl⟩⟩
    · exact ⟨_, _, rfl, .inl ⟨rfl, rfl, rfl⟩⟩
  rw [hpt] at hpa
  simp only at hpa
  have HPE := Lib.hid hpe
  have HL := Lib.hid hl
  have HN := Lib.hid hn
  have HS := Lib.hid hsn
  clear hpe hpt hz hl hn hsn
  go_enter Tryz.func195, Tryz.ntmps195
  refine wp_seq_k (fun K hK => ?_)
  have HK := Lib.hid hK
  clear hK
  go_wp2
  refine HK.out _ _ ?_
  clear HK
  refine wp_seq_k (fun K hK => ?_)
  have HK := Lib.hid hK
  clear hK
  go_wp2
  refine HK.out _ _ ?_
  clear HK
  refine wp_seq_k (fun K hK => ?_)
  have HK := Lib.hid hK
  clear hK
  go_wp2_with (go_at_call 106; refine (hroom _).mono ?_; rintro e w2 ⟨rfl, rfl⟩)
  refine HK.out _ _ ?_
  clear HK
  refine wp_seq_k (fun K hK => ?_)
  have HK := Lib.hid hK
  clear hK
  go_wp2_with (go_at_call 241; refine hno.mono ?_; rintro e w2 ⟨rfl, hb2⟩)
  refine HK.out _ _ ?_
  clear HK
  have A3 := tr_bl hb2 B3
  have hb3 := hbB.trans (hb2.mono hbB.size)
  have hs3 := hs.below hb3
  clear hno hb2 B3 hbB
  refine wp_seq_k (fun K hK => ?_)
  have HK := Lib.hid hK
  clear hK
  go_wp2_with (go_at_call 203; refine (g1 _ hs3).mono ?_; rintro e w4 ⟨rfl, hb4⟩)
  refine HK.out _ _ ?_
  clear HK
  have A4 := tr_bl hb4 A3
  have hb5 := hb3.trans (hb4.mono hb3.size)
  have hs5 := hs.below hb5
  clear A3 hb3 hs3 hb4
  refine wp_seq_k (fun K hK => ?_)
  have HK := Lib.hid hK
  clear hK
  go_wp2_with (go_at_call 242; refine (hpa _ hs5).mono ?_; rintro e w5 ⟨rfl, hb6⟩)
  refine HK.out _ _ ?_
  clear HK
  have A5 := tr_al (Obj.cells #[.int .i64 tg.rep, .int .i64 tg.reg, .int .i64 tg.pla, .int .i64 tg.idx, .int .i64 tg.inc] 33) (tr_bl hb6 A4)
  have T5 := heap_alloc_new w5 (Obj.cells #[.int .i64 tg.rep, .int .i64 tg.reg, .int .i64 tg.pla, .int .i64 tg.idx, .int .i64 tg.inc] 33)
  have hb50 := hb5.trans (hb6.mono hb5.size)
  have hb7 := hb50.alloc hb50.size (Obj.cells #[.int .i64 tg.rep, .int .i64 tg.reg, .int .i64 tg.pla, .int .i64 tg.idx, .int .i64 tg.inc] 33)
  have hq0 : w.heap.size < w5.heap.size := Nat.lt_of_lt_of_le (lt_blk A4) (hb6.size)
  have hs7 := hs.below hb7
  clear A4 hb5 hs5 hb6 hb50 hpa g1
  generalize w5.alloc (Obj.cells #[.int .i64 tg.rep, .int .i64 tg.reg, .int .i64 tg.pla, .int .i64 tg.idx, .int .i64 tg.inc] 33) = w6 at *
  generalize w5.heap.size = q at *
  refine wp_seq_k (fun K hK => ?_)
  have HK := Lib.hid hK
  clear hK
  go_wp2
  refine HK.out _ _ ?_
  clear HK
  refine wp_seq_k (fun K hK => ?_)
  have HK := Lib.hid hK
  clear hK
  go_wp2_with (go_at_call 203; refine (g2 _ hs7).mono ?_; rintro e w8 ⟨rfl, hb8'⟩)
  refine HK.out _ _ ?_
  clear HK
  have C3 := tr_bl hb8' A5
  have T8 := tr_bl hb8' T5
  have hb8 := hb7.trans (hb8'.mono hb7.size)
  have hs8 := hs.below hb8
  clear g2 hs7 hb7 hb8' A5 T5
  have hsum := sum_any _ cap (l.take 124) w8 (hs8.take 124)
  rw [show (l.take 124).length = 124 by rw [List.length_take, HL.out]; rfl] at hsum
  have hno7 : ∀ w', Below w8.heap.size w8 w' → n ≤ 88 → Calls Tryz.prog 241 #[.slice (some ⟨b, off + (17 + n), none⟩) (124 - (17 + n)) (cap - (17 + n))] w' fun e w'' => e = .returned (.bool (noughtsB ((l.drop (17 + n)).take (128 - 21 - n)))) ∧ Below w'.heap.size w' w'' := fun w' hb hnr => by
    have := noughts_any _ _ ((l.drop (17 + n)).take (128 - 21 - n)) w' ((hs8.below hb).sub (17 + n) (128 - 21 - n) (by rw [HL.out]; omega))
    rw [show ((l.drop (17 + n)).take (128 - 21 - n)).length = 124 - (17 + n) by rw [List.length_take, List.length_drop, HL.out]; omega] at this
    exact this
  have hok : okF l 128 = (mayTg (tagAt l 2) && (decide (n ≤ 88) && (decide (s = crcS (l.take 124)) && noughtsB ((l.drop (17 + n)).take (128 - 21 - n))))) := by
    unfold okF
    rw [HN.out, show 128 - 4 = 124 from rfl, HS.out, show roomN 128 = 88 from rfl]
  rw [hok, HN.out]
  clear hok
  have hz := crcS_lt (l.take 124)
  generalize crcS (l.take 124) = z at *
  generalize hnd : noughtsB ((l.drop (17 + n)).take (128 - 21 - n)) = nd at *
  clear hnd
  rcases HPE.out with ⟨h1, h2, h3⟩ | ⟨h1, h3⟩
  case inr =>
    rw [h3, Bool.false_and, if_neg (by simp)]
    subst h1
    clear h3 HPE
    go_wp2_with (first
      | (go_at_call 106; refine (hroom _).mono ?_; rintro e w2 ⟨rfl, rfl⟩)
      | (go_at_call 243; refine hsum.mono ?_; rintro e w7 ⟨rfl, hb7⟩; have D3 := tr_bl hb7 C3; have hb9 := hb8.trans (hb7.mono hb8.size))
      | (go_at_call 241; refine (hno8 _ hb7).mono ?_; rintro e w8 ⟨rfl, hb10⟩; have E3 := tr_bl hb10 D3; have hb11 := hb9.trans (hb10.mono hb9.size))
      | ((with_reducible refine wpList_stB 33 _ _ ?_); refine ⟨_, _, _, ⟨_, _, _, Tryz.sizeOf33, rfl, C3, st5 _ rfl 0 0 0 0 0⟩, ?_⟩; intro w5 B5 g5))
    refine bodyPost_ret (results_t1c1t1 rfl rfl (run_loadVar_all Tryz.isAgg33 Tryz.sizeOf33 B5 rfl)) rfl ⟨FrRes.none rfl, bl_st hb8 g5 hb8.size (Nat.le_refl _)⟩
  case inl =>
    rw [h3, Bool.true_and]
    subst h1
    have HTG := Lib.hid h2
    clear h3 HPE h2
    by_cases hnr : n ≤ 88
    case neg =>
      rw [decide_eq_false hnr, Bool.false_and, if_neg (by simp)]
      have hI : (88 : Int) < n := by omega
      go_wp2_with (first
        | (go_at_call 106; refine (hroom _).mono ?_; rintro e w2 ⟨rfl, rfl⟩)
        | (go_at_call 243; refine hsum.mono ?_; rintro e w7 ⟨rfl, hb7⟩; have D3 := tr_bl hb7 C3; have hb9 := hb8.trans (hb7.mono hb8.size))
        | (go_at_call 241; refine (hno8 _ hb7).mono ?_; rintro e w8 ⟨rfl, hb10⟩; have E3 := tr_bl hb10 D3; have hb11 := hb9.trans (hb10.mono hb9.size))
        | ((with_reducible refine wpList_stB 33 _ _ ?_); refine ⟨_, _, _, ⟨_, _, _, Tryz.sizeOf33, rfl, C3, st5 _ rfl 0 0 0 0 0⟩, ?_⟩; intro w5 B5 g5))
      refine bodyPost_ret (results_t1c1t1 rfl rfl (run_loadVar_all Tryz.isAgg33 Tryz.sizeOf33 B5 rfl)) rfl ⟨FrRes.none rfl, bl_st hb8 g5 hb8.size (Nat.le_refl _)⟩
    case pos =>
      rw [decide_eq_true hnr, Bool.true_and]
      have hI : (n : Int) ≤ 88 := by omega
      have kn : ¬ cap = 17 + n := by omega
      have hno8 := fun w' h => hno7 w' h hnr
      clear hno7
      by_cases hsz : s = z
      case neg =>
        rw [decide_eq_false hsz, Bool.false_and, if_neg (by simp)]
        have hne : ((s : Int) != (z : Int)) = true := by rw [bne_iff_ne]; omega
        go_wp2_with (first
          | (go_at_call 106; refine (hroom _).mono ?_; rintro e w2 ⟨rfl, rfl⟩)
          | (go_at_call 243; refine hsum.mono ?_; rintro e w7 ⟨rfl, hb7⟩; have D3 := tr_bl hb7 C3; have hb9 := hb8.trans (hb7.mono hb8.size))
          | (go_at_call 241; refine (hno8 _ hb7).mono ?_; rintro e w8 ⟨rfl, hb10⟩; have E3 := tr_bl hb10 D3; have hb11 := hb9.trans (hb10.mono hb9.size))
          | ((with_reducible refine wpList_stB 33 _ _ ?_); refine ⟨_, _, _, ⟨_, _, _, Tryz.sizeOf33, rfl, D3, st5 _ rfl 0 0 0 0 0⟩, ?_⟩; intro w5 B5 g5))
        refine bodyPost_ret (results_t1c1t1 rfl rfl (run_loadVar_all Tryz.isAgg33 Tryz.sizeOf33 B5 rfl)) rfl ⟨FrRes.none rfl, bl_st hb9 g5 hb9.size (Nat.le_refl _)⟩
      case pos =>
        subst hsz
        rw [decide_eq_true rfl, Bool.true_and]
        have hne : ((s : Int) != (s : Int)) = false := by simp
        cases nd
        case false =>
          rw [if_neg (by simp)]
          go_wp2_with (first
            | (go_at_call 106; refine (hroom _).mono ?_; rintro e w2 ⟨rfl, rfl⟩)
            | (go_at_call 243; refine hsum.mono ?_; rintro e w7 ⟨rfl, hb7⟩; have D3 := tr_bl hb7 C3; have hb9 := hb8.trans (hb7.mono hb8.size))
            | (go_at_call 241; refine (hno8 _ hb7).mono ?_; rintro e w8 ⟨rfl, hb10⟩; have E3 := tr_bl hb10 D3; have hb11 := hb9.trans (hb10.mono hb9.size))
            | ((with_reducible refine wpList_stB 33 _ _ ?_); refine ⟨_, _, _, ⟨_, _, _, Tryz.sizeOf33, rfl, E3, st5 _ rfl 0 0 0 0 0⟩, ?_⟩; intro w5 B5 g5))
          refine bodyPost_ret (results_t1c1t1 rfl rfl (run_loadVar_all Tryz.isAgg33 Tryz.sizeOf33 B5 rfl)) rfl ⟨FrRes.none rfl, bl_st hb11 g5 hb11.size (Nat.le_refl _)⟩
        case true =>
          rw [if_pos rfl]
          refine wp_seq_k (fun K hK => ?_)
          have HK := Lib.hid hK
          clear hK
          go_wp2_with (first
                      | (go_at_call 106; refine (hroom _).mono ?_; rintro e w2 ⟨rfl, rfl⟩)
                      | (go_at_call 243; refine hsum.mono ?_; rintro e w7 ⟨rfl, hb7⟩; have D3 := tr_bl hb7 C3; have T7 := tr_bl hb7 T8; have hb9 := hb8.trans (hb7.mono hb8.size))
                      | (go_at_call 241; refine (hno8 _ hb7).mono ?_; rintro e w9 ⟨rfl, hb10⟩; have E3 := tr_bl hb10 D3; have T9 := tr_bl hb10 T7; have hb11 := hb9.trans (hb10.mono hb9.size)))
          refine HK.out _ _ ?_
          clear HK
          have hbl : ((l.drop 17).take n).length = n := by rw [List.length_take, List.length_drop, HL.out]; omega
          have hcl := clone_any ⟨b, off + 17, none⟩ (cap - 17) ((l.drop 17).take n) w9 ((hs.below hb11).sub 17 n (by rw [HL.out]; omega)) (by omega)
          rw [hbl] at hcl
          have HBL := Lib.hid hbl
          clear hbl C3 T8 hs8 hsum hno8 hb7 D3 T7 hb9 hb10 hb8 hz
          refine wp_seq_k (fun K hK => ?_)
          have HK := Lib.hid hK
          clear hK
          go_wp2_with (go_at_call 244; refine hcl.mono ?_; rintro e w10 ⟨⟨g, c, rfl, hc1, hc2, ho⟩, hb12⟩)
          refine HK.out _ _ ?_
          clear HK
          clear hcl
          have F3 := tr_bl hb12 E3
          have T10 := tr_bl hb12 T9
          have hb13 := hb11.trans (hb12.mono hb11.size)
          have ho10 := ho.mono hb11.size
          clear E3 T9 hb11 hb12 ho
          unfold maxLen at hc2
          refine wp_seq_k (fun K hK => ?_)
          have HK := Lib.hid hK
          clear hK
          go_wp2_with fail
          have hbd := (Below.refl w10.heap.size w10).drew
          have F4 := tr_bl hbd F3
          have T11 := tr_bl hbd T10
          have hb14 := hb13.trans (hbd.mono hb13.size)
          have ho11 := ho10.below hbd
          clear F3 T10 hb13 ho10
          refine wp_region_held_drew (S := fun w' => w'.heap[q]? = some (.cells #[.int .i64 tg.rep, .int .i64 tg.reg, .int .i64 tg.pla, .int .i64 tg.idx, .int .i64 tg.inc] 33 (0, 0))) (by kernel_rfl) T11 (fun hS0 => ?_)
          clear hbd
          generalize w10.drew = x0 at *
          refine wpAnyH_take (i := 0) (oi := ⟨_, _, _, _, _, _⟩) (v := .agg (#[.int .i64 tg.rep, .int .i64 tg.reg, .int .i64 tg.pla, .int .i64 tg.idx, .int .i64 tg.inc])) rfl (by kernel_rfl) (by kernel_rfl) (by kernel_rfl) (fun _ _ _ h => h) (Or.inl ⟨by rfl, fun wS hSw => ?_⟩) (by assumption) ?_
          · exact exec_ldB 33 _ ⟨_, _, _, _, _, Tryz.isAgg33, Tryz.sizeOf33, rfl, hSw, ld5 _ _ _ _ _⟩
          (try simp only [Act.put])
          (try simp only [List.setIfInBounds_toArray])
          (try simp only [List.set_cons_succ])
          (try simp only [List.set_cons_zero])
          refine wpAnyH_take (i := 1) (oi := ⟨_, _, _, _, _, _⟩) (v := ?_) rfl (by kernel_rfl) (by kernel_rfl) (by kernel_rfl) (fun _ _ _ h => h) (Or.inl ⟨by rfl, ?_⟩) (by assumption) ?_
          rotate_left
          · intro wS hSw
            go_simp; (try with_reducible rfl)
          (try simp only [Act.put])
          (try simp only [List.setIfInBounds_toArray])
          (try simp only [List.set_cons_succ])
          (try simp only [List.set_cons_zero])
          refine wpAnyH_take (i := 2) (oi := ⟨_, _, _, _, _, _⟩) (v := ?_) rfl (by kernel_rfl) (by kernel_rfl) (by kernel_rfl) (fun _ _ _ h => h) (Or.inl ⟨by rfl, ?_⟩) (by assumption) ?_
          rotate_left
          · intro wS hSw
            go_simp; (try with_reducible rfl)
          (try simp only [Act.put])
          (try simp only [List.setIfInBounds_toArray])
          (try simp only [List.set_cons_succ])
          (try simp only [List.set_cons_zero])
          refine wpAnyH_take (i := 3) (oi := ⟨_, _, _, _, _, _⟩) (v := ?_) rfl (by kernel_rfl) (by kernel_rfl) (by kernel_rfl) (fun _ _ _ h => h) (Or.inl ⟨by rfl, ?_⟩) (by assumption) ?_
          rotate_left
          · intro wS hSw
            go_simp; (try with_reducible rfl)
          (try simp only [Act.put])
          (try simp only [List.setIfInBounds_toArray])
          (try simp only [List.set_cons_succ])
          (try simp only [List.set_cons_zero])
          refine wpAnyH_take (i := 4) (oi := ⟨_, _, _, _, _, _⟩) (v := ?_) rfl (by kernel_rfl) (by kernel_rfl) (by kernel_rfl) (fun _ _ _ h => h) (Or.inl ⟨by rfl, ?_⟩) (by assumption) ?_
          rotate_left
          · intro wS hSw
            go_simp; (try with_reducible rfl)
          (try simp only [Act.put])
          (try simp only [List.setIfInBounds_toArray])
          (try simp only [List.set_cons_succ])
          (try simp only [List.set_cons_zero])
          refine wpAnyH_take (i := 5) (oi := ⟨_, _, _, _, _, _⟩) (v := ?_) rfl (by kernel_rfl) (by kernel_rfl) (by kernel_rfl) (fun _ _ _ h => h) (Or.inl ⟨by rfl, ?_⟩) (by assumption) ?_
          rotate_left
          · intro wS hSw
            go_simp; (try with_reducible rfl)
          (try simp only [Act.put])
          (try simp only [List.setIfInBounds_toArray])
          (try simp only [List.set_cons_succ])
          (try simp only [List.set_cons_zero])
          refine wpAnyH_ready (rs := [6]) (by kernel_rfl) (by simp) ?_
          refine AllReadyH.cons (o := ⟨_, _, _, _, _, _⟩) rfl (fun K' hK' => ?_) AllReadyH.nil
          refine (if_pos (by rfl)).mpr ?_
          refine wp_stB 33 _ _ ?_
          refine ⟨_, _, _, ⟨_, _, _, Tryz.sizeOf33, rfl, F4, st5 _ rfl tg.rep tg.reg tg.pla tg.idx tg.inc⟩, ?_⟩
          intro w11 B11 g11
          refine hK'.out _ _ (tr_st g11 hS0 (by omega)) (fun _ => ?_)
          clear hK'
          (try simp only [Act.put])
          (try simp only [List.setIfInBounds_toArray])
          (try simp only [List.set_cons_succ])
          (try simp only [List.set_cons_zero])
          refine wpAnyH_take (i := 7) (oi := ⟨_, _, _, _, _, _⟩) (v := ?_) rfl (by kernel_rfl) (by kernel_rfl) (by kernel_rfl) (fun _ _ _ h => h) (Or.inl ⟨by rfl, ?_⟩) (by assumption) ?_
          rotate_left
          · intro wS hSw
            go_simp; (try with_reducible rfl)
          (try simp only [Act.put])
          (try simp only [List.setIfInBounds_toArray])
          (try simp only [List.set_cons_succ])
          (try simp only [List.set_cons_zero])
          refine wpAnyH_done (by kernel_rfl) ?_ _
          refine HK.out _ _ ?_
          clear HK
          go_wp2
          refine bodyPost_ret (results_t1c1t1 rfl rfl (run_loadVar_all Tryz.isAgg33 Tryz.sizeOf33 B11 rfl)) rfl ⟨⟨some ⟨g, 0, none⟩, n, ?_, ?_⟩, bl_st hb14 g11 hb14.size (Nat.le_refl _)⟩
          · rw [HBL.out, ← HTG.out]
            rfl
          · exact ho11.st g11 F4 (by decide)
end Go.Proofs.YthfolocjkpiljaaGreatDoor

namespace Go.Proofs.YthfolocjkpiljaaGreatDoor
open Go.RowKit

theorem open_any (a : Option Addr) (cap : Nat) (l : List UInt8) (w : World) (hs : SlB w a cap l) (hl : l.length ≤ 1000) : Calls Tryz.prog 195 #[.slice a l.length cap] w fun e w' => FrRes w.heap.size (openF l) e w' ∧ Below w.heap.size w w' := by
  by_cases hr : roomN l.length = 0
  · exact open_odd a cap l w hl hr
  · obtain ⟨h64, _⟩ := roomN_of (n := l.length) (by omega)
    rcases h64 with h | h
    · rw [h]
      cases hz : noughtsB l
      · obtain ⟨b, off, rfl⟩ := hs.some_of (by omega)
        exact open_m1 b off cap l w hs h hz
      · exact open_n1 a cap l w hs h hz
    · rw [h]
      cases hz : noughtsB l
      · obtain ⟨b, off, rfl⟩ := hs.some_of (by omega)
        exact open_m2 b off cap l w hs h hz
      · exact open_n2 a cap l w hs h hz
set_option maxRecDepth 100000 in
set_option maxHeartbeats 2000000 in
theorem mine_any (a : Option Addr) (cap : Nat) (l : List UInt8) (rep reg pla : Int) (w : World) (hs : SlB w a cap l) (hl : l.length ≤ 1000) : Calls Tryz.prog 97 #[.slice a l.length cap, .int .i64 rep, .int .i64 reg, .int .i64 pla] w fun e w' => FrRes w.heap.size (mineF l rep reg pla) e w' ∧ Below w.heap.size w w' := by
  obtain ⟨st, tg, body, hr⟩ : ∃ st tg body, openF l = (st, tg, body) := ⟨_, _, _, rfl⟩
  unfold mineF
  rw [hr]
  have HR := Lib.hid hr
  clear hr
  have hbB := blw w (Obj.cells #[.int .i64 0, .int .i64 0, .int .i64 0, .int .i64 0, .int .i64 0] 33)
  have B3 := heap_alloc_new w (Obj.cells #[.int .i64 0, .int .i64 0, .int .i64 0, .int .i64 0, .int .i64 0] 33)
  simp only
  by_cases hst : st = 1
  case neg =>
    rw [if_neg (fun hh => hst hh.1)]
    have h0 : ((st : Int) == 1) = false := by rw [beq_eq_false_iff_ne]; omega
    clear hst
    go_enter Tryz.func97, Tryz.ntmps97
    refine wp_seq_k (fun K hK => ?_)
    have HK := Lib.hid hK
    clear hK
    go_wp2
    refine HK.out _ _ ?_
    clear HK
    refine wp_seq_k (fun K hK => ?_)
    have HK := Lib.hid hK
    clear hK
    go_wp2_with (go_at_call 195; refine (open_any a cap l _ (hs.below hbB) hl).mono ?_; rintro e w2 ⟨⟨a2, c2, rfl, ho2⟩, hb2⟩; rw [HR.out] at ho2; rw [HR.out]; have A3 := tr_bl hb2 B3)
    refine HK.out _ _ ?_
    clear HK
    have C3 := tr_al (Obj.cells #[.int .i64 tg.rep, .int .i64 tg.reg, .int .i64 tg.pla, .int .i64 tg.idx, .int .i64 tg.inc] 33) A3
    have T3 := heap_alloc_new w2 (Obj.cells #[.int .i64 tg.rep, .int .i64 tg.reg, .int .i64 tg.pla, .int .i64 tg.idx, .int .i64 tg.inc] 33)
    have hb3 := hbB.trans (hb2.mono hbB.size)
    have hb4 := hb3.alloc hb3.size (Obj.cells #[.int .i64 tg.rep, .int .i64 tg.reg, .int .i64 tg.pla, .int .i64 tg.idx, .int .i64 tg.inc] 33)
    have hq : w.heap.size < w2.heap.size := lt_blk A3
    have ho3 := (ho2.mono hbB.size).below (blw w2 (Obj.cells #[.int .i64 tg.rep, .int .i64 tg.reg, .int .i64 tg.pla, .int .i64 tg.idx, .int .i64 tg.inc] 33))
    clear A3 hb2 hb3 ho2
    generalize w2.alloc (Obj.cells #[.int .i64 tg.rep, .int .i64 tg.reg, .int .i64 tg.pla, .int .i64 tg.idx, .int .i64 tg.inc] 33) = w3 at *
    generalize w2.heap.size = q at *
    have q0 := blk_cell T3 0 _ rfl
    have q1 := blk_cell T3 1 _ rfl
    have q2 := blk_cell T3 2 _ rfl
    refine wp_seq_k (fun K hK => ?_)
    have HK := Lib.hid hK
    clear hK
    go_wp2
    refine HK.out _ _ ?_
    clear HK
    refine wp_seq_k (fun K hK => ?_)
    have HK := Lib.hid hK
    clear hK
    go_wp2_with fail
    have hbd := (Below.refl w3.heap.size w3).drew
    have F4 := tr_bl hbd C3
    have T11 := tr_bl hbd T3
    have hb14 := hb4.trans (hbd.mono hb4.size)
    have ho11 := ho3.below hbd
    clear C3 T3 hb4 ho3 q0 q1 q2
    refine wp_region_held_drew (S := fun w' => w'.heap[q]? = some (.cells #[.int .i64 tg.rep, .int .i64 tg.reg, .int .i64 tg.pla, .int .i64 tg.idx, .int .i64 tg.inc] 33 (0, 0))) (by kernel_rfl) T11 (fun hS0 => ?_)
    clear hbd
    generalize w3.drew = x0 at *
    refine wpAnyH_take (i := 0) (oi := ⟨_, _, _, _, _, _⟩) (v := ?_) rfl (by kernel_rfl) (by kernel_rfl) (by kernel_rfl) (fun _ _ _ h => h) (Or.inl ⟨by rfl, ?_⟩) (by assumption) ?_
    rotate_left
    · intro wS hSw
      go_simp; (try with_reducible rfl)
    (try simp only [Act.put])
    (try simp only [List.setIfInBounds_toArray])
    (try simp only [List.set_cons_succ])
    (try simp only [List.set_cons_zero])
    refine wpAnyH_take (i := 1) (oi := ⟨_, _, _, _, _, _⟩) (v := .agg (#[.int .i64 tg.rep, .int .i64 tg.reg, .int .i64 tg.pla, .int .i64 tg.idx, .int .i64 tg.inc])) rfl (by kernel_rfl) (by kernel_rfl) (by kernel_rfl) (fun _ _ _ h => h) (Or.inl ⟨by rfl, fun wS hSw => ?_⟩) (by assumption) ?_
    · exact exec_ldB 33 _ ⟨_, _, _, _, _, Tryz.isAgg33, Tryz.sizeOf33, rfl, hSw, ld5 _ _ _ _ _⟩
    (try simp only [Act.put])
    (try simp only [List.setIfInBounds_toArray])
    (try simp only [List.set_cons_succ])
    (try simp only [List.set_cons_zero])
    refine wpAnyH_take (i := 2) (oi := ⟨_, _, _, _, _, _⟩) (v := ?_) rfl (by kernel_rfl) (by kernel_rfl) (by kernel_rfl) (fun _ _ _ h => h) (Or.inl ⟨by rfl, ?_⟩) (by assumption) ?_
    rotate_left
    · intro wS hSw
      go_simp; (try with_reducible rfl)
    (try simp only [Act.put])
    (try simp only [List.setIfInBounds_toArray])
    (try simp only [List.set_cons_succ])
    (try simp only [List.set_cons_zero])
    refine wpAnyH_take (i := 3) (oi := ⟨_, _, _, _, _, _⟩) (v := ?_) rfl (by kernel_rfl) (by kernel_rfl) (by kernel_rfl) (fun _ _ _ h => h) (Or.inl ⟨by rfl, ?_⟩) (by assumption) ?_
    rotate_left
    · intro wS hSw
      go_simp; (try with_reducible rfl)
    (try simp only [Act.put])
    (try simp only [List.setIfInBounds_toArray])
    (try simp only [List.set_cons_succ])
    (try simp only [List.set_cons_zero])
    refine wpAnyH_ready (rs := [4]) (by kernel_rfl) (by simp) ?_
    refine AllReadyH.cons (o := ⟨_, _, _, _, _, _⟩) rfl (fun K' hK' => ?_) AllReadyH.nil
    refine (if_pos (by rfl)).mpr ?_
    refine wp_stB 33 _ _ ?_
    refine ⟨_, _, _, ⟨_, _, _, Tryz.sizeOf33, rfl, F4, st5 _ rfl tg.rep tg.reg tg.pla tg.idx tg.inc⟩, ?_⟩
    intro w11 B11 g11
    refine hK'.out _ _ (tr_st g11 hS0 (by omega)) (fun _ => ?_)
    clear hK'
    (try simp only [Act.put])
    (try simp only [List.setIfInBounds_toArray])
    (try simp only [List.set_cons_succ])
    (try simp only [List.set_cons_zero])
    refine wpAnyH_take (i := 5) (oi := ⟨_, _, _, _, _, _⟩) (v := ?_) rfl (by kernel_rfl) (by kernel_rfl) (by kernel_rfl) (fun _ _ _ h => h) (Or.inl ⟨by rfl, ?_⟩) (by assumption) ?_
    rotate_left
    · intro wS hSw
      go_simp; (try with_reducible rfl)
    (try simp only [Act.put])
    (try simp only [List.setIfInBounds_toArray])
    (try simp only [List.set_cons_succ])
    (try simp only [List.set_cons_zero])
    refine wpAnyH_done (by kernel_rfl) ?_ _
    refine HK.out _ _ ?_
    clear HK
    go_wp2
    refine bodyPost_ret (results_t1c1t1 rfl rfl (run_loadVar_all Tryz.isAgg33 Tryz.sizeOf33 B11 rfl)) rfl ⟨⟨a2, c2, rfl, ho11.st g11 F4 (by decide)⟩, bl_st hb14 g11 hb14.size (Nat.le_refl _)⟩
  case pos =>
    subst hst
    have h0 : (((1 : Nat) : Int) == 1) = true := rfl
    by_cases h1 : tg.rep = rep
    case neg =>
      rw [if_pos ⟨rfl, .inl h1⟩]
      have e1 : (tg.rep != rep) = true := by rw [bne_iff_ne]; exact h1
      go_enter Tryz.func97, Tryz.ntmps97
      refine wp_seq_k (fun K hK => ?_)
      have HK := Lib.hid hK
      clear hK
      go_wp2
      refine HK.out _ _ ?_
      clear HK
      refine wp_seq_k (fun K hK => ?_)
      have HK := Lib.hid hK
      clear hK
      go_wp2_with (go_at_call 195; refine (open_any a cap l _ (hs.below hbB) hl).mono ?_; rintro e w2 ⟨⟨a2, c2, rfl, ho2⟩, hb2⟩; rw [HR.out] at ho2; rw [HR.out]; have A3 := tr_bl hb2 B3)
      refine HK.out _ _ ?_
      clear HK
      have C3 := tr_al (Obj.cells #[.int .i64 tg.rep, .int .i64 tg.reg, .int .i64 tg.pla, .int .i64 tg.idx, .int .i64 tg.inc] 33) A3
      have T3 := heap_alloc_new w2 (Obj.cells #[.int .i64 tg.rep, .int .i64 tg.reg, .int .i64 tg.pla, .int .i64 tg.idx, .int .i64 tg.inc] 33)
      have hb3 := hbB.trans (hb2.mono hbB.size)
      have hb4 := hb3.alloc hb3.size (Obj.cells #[.int .i64 tg.rep, .int .i64 tg.reg, .int .i64 tg.pla, .int .i64 tg.idx, .int .i64 tg.inc] 33)
      have hq : w.heap.size < w2.heap.size := lt_blk A3
      have ho3 := (ho2.mono hbB.size).below (blw w2 (Obj.cells #[.int .i64 tg.rep, .int .i64 tg.reg, .int .i64 tg.pla, .int .i64 tg.idx, .int .i64 tg.inc] 33))
      clear A3 hb2 hb3 ho2
      generalize w2.alloc (Obj.cells #[.int .i64 tg.rep, .int .i64 tg.reg, .int .i64 tg.pla, .int .i64 tg.idx, .int .i64 tg.inc] 33) = w3 at *
      generalize w2.heap.size = q at *
      have q0 := blk_cell T3 0 _ rfl
      have q1 := blk_cell T3 1 _ rfl
      have q2 := blk_cell T3 2 _ rfl
      go_wp2_with ((with_reducible refine wpList_stB 33 _ _ ?_); refine ⟨_, _, _, ⟨_, _, _, Tryz.sizeOf33, rfl, C3, st5 _ rfl 0 0 0 0 0⟩, ?_⟩; intro w5 B5 g5)
      refine bodyPost_ret (results_t1c1t1 rfl rfl (run_loadVar_all Tryz.isAgg33 Tryz.sizeOf33 B5 rfl)) rfl ⟨FrRes.none rfl, bl_st hb4 g5 hb4.size (Nat.le_refl _)⟩
    case pos =>
      have e1 : (tg.rep != rep) = false := by simpa using h1
      by_cases h2 : tg.reg = reg
      case neg =>
        rw [if_pos ⟨rfl, .inr (.inl h2)⟩]
        have e2 : (tg.reg != reg) = true := by rw [bne_iff_ne]; exact h2
        clear h1
        go_enter Tryz.func97, Tryz.ntmps97
        refine wp_seq_k (fun K hK => ?_)
        have HK := Lib.hid hK
        clear hK
        go_wp2
        refine HK.out _ _ ?_
        clear HK
        refine wp_seq_k (fun K hK => ?_)
        have HK := Lib.hid hK
        clear hK
        go_wp2_with (go_at_call 195; refine (open_any a cap l _ (hs.below hbB) hl).mono ?_; rintro e w2 ⟨⟨a2, c2, rfl, ho2⟩, hb2⟩; rw [HR.out] at ho2; rw [HR.out]; have A3 := tr_bl hb2 B3)
        refine HK.out _ _ ?_
        clear HK
        have C3 := tr_al (Obj.cells #[.int .i64 tg.rep, .int .i64 tg.reg, .int .i64 tg.pla, .int .i64 tg.idx, .int .i64 tg.inc] 33) A3
        have T3 := heap_alloc_new w2 (Obj.cells #[.int .i64 tg.rep, .int .i64 tg.reg, .int .i64 tg.pla, .int .i64 tg.idx, .int .i64 tg.inc] 33)
        have hb3 := hbB.trans (hb2.mono hbB.size)
        have hb4 := hb3.alloc hb3.size (Obj.cells #[.int .i64 tg.rep, .int .i64 tg.reg, .int .i64 tg.pla, .int .i64 tg.idx, .int .i64 tg.inc] 33)
        have hq : w.heap.size < w2.heap.size := lt_blk A3
        have ho3 := (ho2.mono hbB.size).below (blw w2 (Obj.cells #[.int .i64 tg.rep, .int .i64 tg.reg, .int .i64 tg.pla, .int .i64 tg.idx, .int .i64 tg.inc] 33))
        clear A3 hb2 hb3 ho2
        generalize w2.alloc (Obj.cells #[.int .i64 tg.rep, .int .i64 tg.reg, .int .i64 tg.pla, .int .i64 tg.idx, .int .i64 tg.inc] 33) = w3 at *
        generalize w2.heap.size = q at *
        have q0 := blk_cell T3 0 _ rfl
        have q1 := blk_cell T3 1 _ rfl
        have q2 := blk_cell T3 2 _ rfl
        go_wp2_with ((with_reducible refine wpList_stB 33 _ _ ?_); refine ⟨_, _, _, ⟨_, _, _, Tryz.sizeOf33, rfl, C3, st5 _ rfl 0 0 0 0 0⟩, ?_⟩; intro w5 B5 g5)
        refine bodyPost_ret (results_t1c1t1 rfl rfl (run_loadVar_all Tryz.isAgg33 Tryz.sizeOf33 B5 rfl)) rfl ⟨FrRes.none rfl, bl_st hb4 g5 hb4.size (Nat.le_refl _)⟩
      case pos =>
        have e2 : (tg.reg != reg) = false := by simpa using h2
        by_cases h3 : tg.pla = pla
        case neg =>
          rw [if_pos ⟨rfl, .inr (.inr h3)⟩]
          have e3 : (tg.pla != pla) = true := by rw [bne_iff_ne]; exact h3
          clear h1 h2
          go_enter Tryz.func97, Tryz.ntmps97
          refine wp_seq_k (fun K hK => ?_)
          have HK := Lib.hid hK
          clear hK
          go_wp2
          refine HK.out _ _ ?_
          clear HK
          refine wp_seq_k (fun K hK => ?_)
          have HK := Lib.hid hK
          clear hK
          go_wp2_with (go_at_call 195; refine (open_any a cap l _ (hs.below hbB) hl).mono ?_; rintro e w2 ⟨⟨a2, c2, rfl, ho2⟩, hb2⟩; rw [HR.out] at ho2; rw [HR.out]; have A3 := tr_bl hb2 B3)
          refine HK.out _ _ ?_
          clear HK
          have C3 := tr_al (Obj.cells #[.int .i64 tg.rep, .int .i64 tg.reg, .int .i64 tg.pla, .int .i64 tg.idx, .int .i64 tg.inc] 33) A3
          have T3 := heap_alloc_new w2 (Obj.cells #[.int .i64 tg.rep, .int .i64 tg.reg, .int .i64 tg.pla, .int .i64 tg.idx, .int .i64 tg.inc] 33)
          have hb3 := hbB.trans (hb2.mono hbB.size)
          have hb4 := hb3.alloc hb3.size (Obj.cells #[.int .i64 tg.rep, .int .i64 tg.reg, .int .i64 tg.pla, .int .i64 tg.idx, .int .i64 tg.inc] 33)
          have hq : w.heap.size < w2.heap.size := lt_blk A3
          have ho3 := (ho2.mono hbB.size).below (blw w2 (Obj.cells #[.int .i64 tg.rep, .int .i64 tg.reg, .int .i64 tg.pla, .int .i64 tg.idx, .int .i64 tg.inc] 33))
          clear A3 hb2 hb3 ho2
          generalize w2.alloc (Obj.cells #[.int .i64 tg.rep, .int .i64 tg.reg, .int .i64 tg.pla, .int .i64 tg.idx, .int .i64 tg.inc] 33) = w3 at *
          generalize w2.heap.size = q at *
          have q0 := blk_cell T3 0 _ rfl
          have q1 := blk_cell T3 1 _ rfl
          have q2 := blk_cell T3 2 _ rfl
          go_wp2_with ((with_reducible refine wpList_stB 33 _ _ ?_); refine ⟨_, _, _, ⟨_, _, _, Tryz.sizeOf33, rfl, C3, st5 _ rfl 0 0 0 0 0⟩, ?_⟩; intro w5 B5 g5)
          refine bodyPost_ret (results_t1c1t1 rfl rfl (run_loadVar_all Tryz.isAgg33 Tryz.sizeOf33 B5 rfl)) rfl ⟨FrRes.none rfl, bl_st hb4 g5 hb4.size (Nat.le_refl _)⟩
        case pos =>
          rw [if_neg (by rintro ⟨_, h | h | h⟩ <;> contradiction)]
          have e3 : (tg.pla != pla) = false := by simpa using h3
          clear h1 h2 h3
          go_enter Tryz.func97, Tryz.ntmps97
          refine wp_seq_k (fun K hK => ?_)
          have HK := Lib.hid hK
          clear hK
          go_wp2
          refine HK.out _ _ ?_
          clear HK
          refine wp_seq_k (fun K hK => ?_)
          have HK := Lib.hid hK
          clear hK
          go_wp2_with (go_at_call 195; refine (open_any a cap l _ (hs.below hbB) hl).mono ?_; rintro e w2 ⟨⟨a2, c2, rfl, ho2⟩, hb2⟩; rw [HR.out] at ho2; rw [HR.out]; have A3 := tr_bl hb2 B3)
          refine HK.out _ _ ?_
          clear HK
          have C3 := tr_al (Obj.cells #[.int .i64 tg.rep, .int .i64 tg.reg, .int .i64 tg.pla, .int .i64 tg.idx, .int .i64 tg.inc] 33) A3
          have T3 := heap_alloc_new w2 (Obj.cells #[.int .i64 tg.rep, .int .i64 tg.reg, .int .i64 tg.pla, .int .i64 tg.idx, .int .i64 tg.inc] 33)
          have hb3 := hbB.trans (hb2.mono hbB.size)
          have hb4 := hb3.alloc hb3.size (Obj.cells #[.int .i64 tg.rep, .int .i64 tg.reg, .int .i64 tg.pla, .int .i64 tg.idx, .int .i64 tg.inc] 33)
          have hq : w.heap.size < w2.heap.size := lt_blk A3
          have ho3 := (ho2.mono hbB.size).below (blw w2 (Obj.cells #[.int .i64 tg.rep, .int .i64 tg.reg, .int .i64 tg.pla, .int .i64 tg.idx, .int .i64 tg.inc] 33))
          clear A3 hb2 hb3 ho2
          generalize w2.alloc (Obj.cells #[.int .i64 tg.rep, .int .i64 tg.reg, .int .i64 tg.pla, .int .i64 tg.idx, .int .i64 tg.inc] 33) = w3 at *
          generalize w2.heap.size = q at *
          have q0 := blk_cell T3 0 _ rfl
          have q1 := blk_cell T3 1 _ rfl
          have q2 := blk_cell T3 2 _ rfl
          refine wp_seq_k (fun K hK => ?_)
          have HK := Lib.hid hK
          clear hK
          go_wp2
          refine HK.out _ _ ?_
          clear HK
          refine wp_seq_k (fun K hK => ?_)
          have HK := Lib.hid hK
          clear hK
          go_wp2_with fail
          have hbd := (Below.refl w3.heap.size w3).drew
          have F4 := tr_bl hbd C3
          have T11 := tr_bl hbd T3
          have hb14 := hb4.trans (hbd.mono hb4.size)
          have ho11 := ho3.below hbd
          clear C3 T3 hb4 ho3 q0 q1 q2
          refine wp_region_held_drew (S := fun w' => w'.heap[q]? = some (.cells #[.int .i64 tg.rep, .int .i64 tg.reg, .int .i64 tg.pla, .int .i64 tg.idx, .int .i64 tg.inc] 33 (0, 0))) (by kernel_rfl) T11 (fun hS0 => ?_)
          clear hbd
          generalize w3.drew = x0 at *
          refine wpAnyH_take (i := 0) (oi := ⟨_, _, _, _, _, _⟩) (v := ?_) rfl (by kernel_rfl) (by kernel_rfl) (by kernel_rfl) (fun _ _ _ h => h) (Or.inl ⟨by rfl, ?_⟩) (by assumption) ?_
          rotate_left
          · intro wS hSw
            go_simp; (try with_reducible rfl)
          (try simp only [Act.put])
          (try simp only [List.setIfInBounds_toArray])
          (try simp only [List.set_cons_succ])
          (try simp only [List.set_cons_zero])
          refine wpAnyH_take (i := 1) (oi := ⟨_, _, _, _, _, _⟩) (v := .agg (#[.int .i64 tg.rep, .int .i64 tg.reg, .int .i64 tg.pla, .int .i64 tg.idx, .int .i64 tg.inc])) rfl (by kernel_rfl) (by kernel_rfl) (by kernel_rfl) (fun _ _ _ h => h) (Or.inl ⟨by rfl, fun wS hSw => ?_⟩) (by assumption) ?_
          · exact exec_ldB 33 _ ⟨_, _, _, _, _, Tryz.isAgg33, Tryz.sizeOf33, rfl, hSw, ld5 _ _ _ _ _⟩
          (try simp only [Act.put])
          (try simp only [List.setIfInBounds_toArray])
          (try simp only [List.set_cons_succ])
          (try simp only [List.set_cons_zero])
          refine wpAnyH_take (i := 2) (oi := ⟨_, _, _, _, _, _⟩) (v := ?_) rfl (by kernel_rfl) (by kernel_rfl) (by kernel_rfl) (fun _ _ _ h => h) (Or.inl ⟨by rfl, ?_⟩) (by assumption) ?_
          rotate_left
          · intro wS hSw
            go_simp; (try with_reducible rfl)
          (try simp only [Act.put])
          (try simp only [List.setIfInBounds_toArray])
          (try simp only [List.set_cons_succ])
          (try simp only [List.set_cons_zero])
          refine wpAnyH_take (i := 3) (oi := ⟨_, _, _, _, _, _⟩) (v := ?_) rfl (by kernel_rfl) (by kernel_rfl) (by kernel_rfl) (fun _ _ _ h => h) (Or.inl ⟨by rfl, ?_⟩) (by assumption) ?_
          rotate_left
          · intro wS hSw
            go_simp; (try with_reducible rfl)
          (try simp only [Act.put])
          (try simp only [List.setIfInBounds_toArray])
          (try simp only [List.set_cons_succ])
          (try simp only [List.set_cons_zero])
          refine wpAnyH_ready (rs := [4]) (by kernel_rfl) (by simp) ?_
          refine AllReadyH.cons (o := ⟨_, _, _, _, _, _⟩) rfl (fun K' hK' => ?_) AllReadyH.nil
          refine (if_pos (by rfl)).mpr ?_
          refine wp_stB 33 _ _ ?_
          refine ⟨_, _, _, ⟨_, _, _, Tryz.sizeOf33, rfl, F4, st5 _ rfl tg.rep tg.reg tg.pla tg.idx tg.inc⟩, ?_⟩
          intro w11 B11 g11
          refine hK'.out _ _ (tr_st g11 hS0 (by omega)) (fun _ => ?_)
          clear hK'
          (try simp only [Act.put])
          (try simp only [List.setIfInBounds_toArray])
          (try simp only [List.set_cons_succ])
          (try simp only [List.set_cons_zero])
          refine wpAnyH_take (i := 5) (oi := ⟨_, _, _, _, _, _⟩) (v := ?_) rfl (by kernel_rfl) (by kernel_rfl) (by kernel_rfl) (fun _ _ _ h => h) (Or.inl ⟨by rfl, ?_⟩) (by assumption) ?_
          rotate_left
          · intro wS hSw
            go_simp; (try with_reducible rfl)
          (try simp only [Act.put])
          (try simp only [List.setIfInBounds_toArray])
          (try simp only [List.set_cons_succ])
          (try simp only [List.set_cons_zero])
          refine wpAnyH_done (by kernel_rfl) ?_ _
          refine HK.out _ _ ?_
          clear HK
          go_wp2
          refine bodyPost_ret (results_t1c1t1 rfl rfl (run_loadVar_all Tryz.isAgg33 Tryz.sizeOf33 B11 rfl)) rfl ⟨⟨a2, c2, rfl, ho11.st g11 F4 (by decide)⟩, bl_st hb14 g11 hb14.size (Nat.le_refl _)⟩
end Go.Proofs.YthfolocjkpiljaaGreatDoor

namespace Go.Proofs.YthfolocjkpiljaaGreatDoor
open Go.RowKit

def txB (l : List UInt8) : ByteArray := ⟨l.toArray⟩
theorem txB_inj {l m : List UInt8} (h : txB l = txB m) : l = m := by
  have h1 := congrArg ByteArray.data h
  simpa [txB] using h1
theorem conv_bys (ad : Option Addr) (c : Nat) (p : List UInt8) (w : World) (h : Row w ad (bys p)) : (convert 34 9 (.slice ad p.length c)).run Tryz.prog w = .ok (.string (txB p)) w := by
  cases ad with
  | none =>
    have hp : p = [] := by
      rcases h with h | ⟨b, off, ha, _⟩
      · have := congrArg List.length h
        rw [bys_len] at this
        exact List.eq_nil_of_length_eq_zero this
      · cases ha
    subst hp
    exact run_convert_bytes_nil w _ _ Tryz.underlying34 Tryz.underlying5 _ _ _ Tryz.underlying9
  | some ad =>
    refine run_convert_bytes_back (P := Tryz.prog) w _ _ 5 ad c p Tryz.underlying34 Tryz.underlying5 Tryz.underlying9 (fun j hj => ?_)
    obtain ⟨b, off, ha, hc⟩ := h.at (k := j) (by rw [bys_len]; exact hj)
    injection ha with ha
    subst ha
    rw [addr_add]
    exact hc j _ (by simp [bys, hj, byv])
set_option maxRecDepth 100000 in
theorem equal_any (a b : Option Addr) (c d : Nat) (l m : List UInt8) (w : World) (hl : Row w a (bys l)) (hm : Row w b (bys m)) : Calls Tryz.prog 193 #[.slice a l.length c, .slice b m.length d] w fun e w' => e = .returned (.bool (decide (l = m))) ∧ w = w' := by
  have h1 := conv_bys a c l w hl
  have h2 := conv_bys b d m w hm
  by_cases h : l = m
  · subst h
    rw [decide_eq_true rfl]
    go_enter Tryz.func193, Tryz.ntmps193
    go_wp2
    go_ret
    exact ⟨rfl, rfl⟩
  · rw [decide_eq_false h]
    have hlst : ∀ l : List UInt8, (txB l).toList = l := fun l => by
      rw [ByteArray.toList_eq]
      rfl
    have hne : ((txB l).toList == (txB m).toList) = false := by
      rw [hlst, hlst, beq_eq_false_iff_ne]
      exact h
    clear hlst
    go_enter Tryz.func193, Tryz.ntmps193
    go_wp2
    go_ret
    exact ⟨rfl, rfl⟩
end Go.Proofs.YthfolocjkpiljaaGreatDoor

namespace Go.Proofs.YthfolocjkpiljaaGreatDoor
open Go.RowKit

/-- A copy's cells. -/
def coA (st : Nat) (t : Tg) (v : Value) : Array Value := #[.int .u8 (st : Int), .int .i64 t.rep, .int .i64 t.reg, .int .i64 t.pla, .int .i64 t.idx, .int .i64 t.inc, v]
theorem coA_size (st : Nat) (t : Tg) (v : Value) : (coA st t v).size = 7 := rfl
section
variable {w : World} {q off : Nat} {T : TypeId} {st : Nat} {t : Tg} {v : Value}
theorem coA_0 (h : w.heap[q]? = some (.cells (coA st t v) T (0, 0))) : w.cell? ⟨q, 0, none⟩ = some (.int .u8 (st : Int)) := blk_cell h 0 _ rfl
theorem coA_4 (h : w.heap[q]? = some (.cells (coA st t v) T (0, 0))) : w.cell? ⟨q, 4, none⟩ = some (.int .i64 t.idx) := blk_cell h 4 _ rfl
theorem coA_5 (h : w.heap[q]? = some (.cells (coA st t v) T (0, 0))) : w.cell? ⟨q, 5, none⟩ = some (.int .i64 t.inc) := blk_cell h 5 _ rfl
theorem coA_6 (h : w.heap[q]? = some (.cells (coA st t v) T (0, 0))) : w.cell? ⟨q, 6, none⟩ = some v := blk_cell h 6 _ rfl
end
set_option maxRecDepth 100000 in
theorem over_any (c x : Cp) (v u : Value) (w : World) : Calls Tryz.prog 199 #[.agg (coA c.st c.tg v), .agg (coA x.st x.tg u)] w fun e w' => e = .returned (.bool (overC c x)) ∧ Below w.heap.size w w' := by
  unfold overC
  by_cases h1 : c.st = 1
  case neg =>
    rw [decide_eq_false h1, Bool.false_and]
    have e1 : ((c.st : Int) == 1) = false := by rw [beq_eq_false_iff_ne]; omega
    clear h1
    go_enter Tryz.func199, Tryz.ntmps199
    refine wp_seq_k (fun K hK => ?_)
    have HK := Lib.hid hK
    clear hK
    go_wp2
    have B1 := tr_al (Obj.cells (coA x.st x.tg u) 197) (heap_alloc_new w (Obj.cells (coA c.st c.tg v) 197))
    have B2 := heap_alloc_new (w.alloc (Obj.cells (coA c.st c.tg v) 197)) (Obj.cells (coA x.st x.tg u) 197)
    rw [show (w.alloc (Obj.cells (coA c.st c.tg v) 197)).heap.size = w.heap.size + 1 by simp] at B2
    have hb := (blw w (Obj.cells (coA c.st c.tg v) 197)).alloc (by simp) (Obj.cells (coA x.st x.tg u) 197)
    change K _ ((w.alloc (Obj.cells (coA c.st c.tg v) 197)).alloc (Obj.cells (coA x.st x.tg u) 197))
    generalize (w.alloc (Obj.cells (coA c.st c.tg v) 197)).alloc (Obj.cells (coA x.st x.tg u) 197) = w1 at *
    have a0 := coA_0 B1
    have a4 := coA_4 B1
    have a6 := coA_6 B1
    have b0 := coA_0 B2
    have b4 := coA_4 B2
    have b6 := coA_6 B2
    refine HK.out _ _ ?_
    clear HK B1 B2
    go_wp2
    go_ret
    exact ⟨rfl, hb⟩
  case pos =>
    rw [decide_eq_true h1, Bool.true_and]
    have e1 : ((c.st : Int) == 1) = true := by rw [beq_iff_eq]; omega
    clear h1
    by_cases h2 : x.st ≠ 1
    case pos =>
      rw [decide_eq_true h2, Bool.true_or]
      have e2 : ((x.st : Int) != 1) = true := by rw [bne_iff_ne]; omega
      clear h2
      go_enter Tryz.func199, Tryz.ntmps199
      refine wp_seq_k (fun K hK => ?_)
      have HK := Lib.hid hK
      clear hK
      go_wp2
      have B1 := tr_al (Obj.cells (coA x.st x.tg u) 197) (heap_alloc_new w (Obj.cells (coA c.st c.tg v) 197))
      have B2 := heap_alloc_new (w.alloc (Obj.cells (coA c.st c.tg v) 197)) (Obj.cells (coA x.st x.tg u) 197)
      rw [show (w.alloc (Obj.cells (coA c.st c.tg v) 197)).heap.size = w.heap.size + 1 by simp] at B2
      have hb := (blw w (Obj.cells (coA c.st c.tg v) 197)).alloc (by simp) (Obj.cells (coA x.st x.tg u) 197)
      change K _ ((w.alloc (Obj.cells (coA c.st c.tg v) 197)).alloc (Obj.cells (coA x.st x.tg u) 197))
      generalize (w.alloc (Obj.cells (coA c.st c.tg v) 197)).alloc (Obj.cells (coA x.st x.tg u) 197) = w1 at *
      have a0 := coA_0 B1
      have a4 := coA_4 B1
      have a6 := coA_6 B1
      have b0 := coA_0 B2
      have b4 := coA_4 B2
      have b6 := coA_6 B2
      refine HK.out _ _ ?_
      clear HK B1 B2
      go_wp2
      go_ret
      exact ⟨rfl, hb⟩
    case neg =>
      rw [decide_eq_false h2, Bool.false_or]
      have e2 : ((x.st : Int) != 1) = false := by rw [bne_eq_false_iff_eq]; omega
      clear h2
      go_enter Tryz.func199, Tryz.ntmps199
      refine wp_seq_k (fun K hK => ?_)
      have HK := Lib.hid hK
      clear hK
      go_wp2
      have B1 := tr_al (Obj.cells (coA x.st x.tg u) 197) (heap_alloc_new w (Obj.cells (coA c.st c.tg v) 197))
      have B2 := heap_alloc_new (w.alloc (Obj.cells (coA c.st c.tg v) 197)) (Obj.cells (coA x.st x.tg u) 197)
      rw [show (w.alloc (Obj.cells (coA c.st c.tg v) 197)).heap.size = w.heap.size + 1 by simp] at B2
      have hb := (blw w (Obj.cells (coA c.st c.tg v) 197)).alloc (by simp) (Obj.cells (coA x.st x.tg u) 197)
      change K _ ((w.alloc (Obj.cells (coA c.st c.tg v) 197)).alloc (Obj.cells (coA x.st x.tg u) 197))
      generalize (w.alloc (Obj.cells (coA c.st c.tg v) 197)).alloc (Obj.cells (coA x.st x.tg u) 197) = w1 at *
      have a0 := coA_0 B1
      have a4 := coA_4 B1
      have a6 := coA_6 B1
      have b0 := coA_0 B2
      have b4 := coA_4 B2
      have b6 := coA_6 B2
      refine HK.out _ _ ?_
      clear HK B1 B2
      go_wp2
      go_ret
      exact ⟨rfl, hb⟩
set_option maxRecDepth 100000 in
theorem pick_any (c x : Cp) (v u : Value) (w : World) : Calls Tryz.prog 198 #[.func (.func 199) #[.agg (coA c.st c.tg v)] #[], .agg (coA x.st x.tg u)] w fun e w' => e = .returned (.int .i64 (if overC c x = true then 1 else 0)) ∧ Below w.heap.size w w' := by
  have hov := over_any c x v u
  generalize overC c x = r at *
  go_enter Tryz.func198, Tryz.ntmps198
  refine wp_seq_k (fun K hK => ?_)
  have HK := Lib.hid hK
  clear hK
  go_wp2
  refine HK.out _ _ ?_
  clear HK
  have B2 := heap_alloc_new w (Obj.cells (coA x.st x.tg u) 197)
  have hb := blw w (Obj.cells (coA x.st x.tg u) 197)
  change Code.wp _ _ _ _ (w.alloc (Obj.cells (coA x.st x.tg u) 197))
  generalize w.alloc (Obj.cells (coA x.st x.tg u) 197) = w1 at *
  cases r
  case false =>
    go_wp2_with (first
      | ((with_reducible refine wpList_ldB 197 _ ?_); refine ⟨rfl, _, ⟨_, _, _, _, _, Tryz.isAgg197, Tryz.sizeOf197, rfl, ‹_›, arr_all (coA_size x.st x.tg u)⟩, ?_⟩)
      | (go_at_call 199; refine (hov _).mono ?_; rintro e w2 ⟨rfl, hb2⟩))
    go_ret
    exact ⟨rfl, hb.trans (hb2.mono hb.size)⟩
  case true =>
    go_wp2_with (first
      | ((with_reducible refine wpList_ldB 197 _ ?_); refine ⟨rfl, _, ⟨_, _, _, _, _, Tryz.isAgg197, Tryz.sizeOf197, rfl, ‹_›, arr_all (coA_size x.st x.tg u)⟩, ?_⟩)
      | (go_at_call 199; refine (hov _).mono ?_; rintro e w2 ⟨rfl, hb2⟩))
    go_ret
    exact ⟨rfl, hb.trans (hb2.mono hb.size)⟩
end Go.Proofs.YthfolocjkpiljaaGreatDoor

