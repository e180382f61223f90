/- Texts that the claim leans on, part 9: J3, J30, J31, J32, J33, J34, J35. -/
import Derived.Test.YtkkoookmnnmiiaaZ1
import Derived.Test.YtkkoookmnnmiiaaZ2
import Derived.Test.YtkkoookmnnmiiaaZ3
import Derived.Test.YtkkoookmnnmiiaaZ4
import Derived.Test.YtkkoookmnnmiiaaZ5
import Derived.Test.YtkkoookmnnmiiaaZ6
import Derived.Test.YtkkoookmnnmiiaaZ7
import Derived.Test.YtkkoookmnnmiiaaZ8
import Derived.Test.YtkkoookmnnmiiaaRows
import Derived.WalkKit
import Derived.WalkSpells
import Derived.WalkLawsBesides
import Derived.Handy
import Derived.Deep.QuietTactic
import Derived.BigQuiet
import Derived.Deep.DeepCutAuto
import Derived.Lib.Hide
import Derived.RegionTactic
import Derived.ChangeAlike
import Derived.Laws.ResultCell
import Derived.Outline
import Derived.LoopN
import Derived.Shelf.Abstract
import Derived.Shelf.RegionOpen
import Derived.OwnWalkIn
import Derived.TacticsInMore
import Derived.LoopNIn
import Derived.LoopIn
import Derived.Maps.AppendAt
import Derived.Maps.OwnIn
import Derived.Maps.Keyed
import Derived.Maps.Views
import Derived.Shelf.SlIterI.Nil
import Derived.Shelf.SortM.Plain
import Derived.Shelf.SortM.SortNone
import Derived.RangeFuncNested
import Derived.RangeFuncBound
import Derived.RangeFuncCalls
import Derived.RangeFuncLeaves
import Derived.RangeFuncBox
import Derived.RangeFuncRecord
import Derived.Maps.OwnSet
import Derived.Lib.SlKeysI
import Derived.Laws.Rows
import Derived.Deep.Quiet
import Derived.Deep.RegionHeld3
import Derived.ProofKit
import Derived.OpenShut
import Derived.Laws.Strings
import Derived.Laws.CopyOwn
import Derived.Laws.CopyRow
import Derived.Laws.NewBlocks
import Derived.Deep.RegionLaw
import Derived.Deep.Slices
import Derived.Deep.Strs
import Derived.Lib.SmallJoins
namespace Go.Proofs.Ytkkoookmnnmiiaa

structure Pc where
  from_ : Nat
  many : Nat
  img : Bool
def startP (h : List En) (p : Pc) : Nat := p.from_ % (h.length + 1)
def headP (h : List En) (p : Pc) : List Ap := if p.img = true ∧ 0 < startP h p then [⟨(startP h p : Nat), zeroE⟩] else []
def lenP (h : List En) (p : Pc) : Nat := min h.length (startP h p + p.many) - startP h p
def entP (h : List En) (k : Nat) : Ap := ⟨((k + 1 : Nat) : Int), h.getD k zeroE⟩
def restP (h : List En) (p : Pc) (n : Nat) : List Ap := (List.range n).map (fun i => entP h (startP h p + i))
def pieceJ (h : List En) (p : Pc) : List Ap := headP h p ++ restP h p (lenP h p)
def piecesJ (h : List En) (l : List Pc) : List (List Ap) := l.map (pieceJ h)
section
variable {h : List En} {p : Pc} {x y : Ap}
theorem may_none {e : En} (he : mayE e = true) : noneE e = false := by
  unfold noneE
  rw [eqE_no]
  rintro rfl
  simp [mayE, zeroE] at he
theorem none_zero : noneE zeroE = true := eqE_self _
theorem restP_succ (h : List En) (p : Pc) (n : Nat) : restP h p (n + 1) = restP h p n ++ [entP h (startP h p + n)] := by
  unfold restP
  rw [List.range_succ, List.map_append]
  rfl
theorem restP_len (h : List En) (p : Pc) (n : Nat) : (restP h p n).length = n := by simp [restP]
theorem startP_le (h : List En) (p : Pc) : startP h p ≤ h.length := by
  have := Nat.mod_lt p.from_ (show 0 < h.length + 1 by omega)
  unfold startP
  omega
theorem headP_len (h : List En) (p : Pc) : (headP h p).length ≤ 1 := by
  unfold headP
  split <;> simp
/-- What stands in a piece. -/
theorem piece_mem (hx : x ∈ pieceJ h p) : (x = ⟨(startP h p : Nat), zeroE⟩ ∧ 0 < startP h p) ∨ ∃ k : Nat, k < h.length ∧ x = entP h k := by
  have hs := startP_le h p
  unfold pieceJ at hx
  rcases List.mem_append.1 hx with hx | hx
  · unfold headP at hx
    split at hx
    · rename_i hc
      rw [List.mem_singleton] at hx
      exact .inl ⟨hx, hc.2⟩
    · simp at hx
  · unfold restP at hx
    obtain ⟨i, hi, rfl⟩ := List.mem_map.1 hx
    have := List.mem_range.1 hi
    unfold lenP at this
    exact .inr ⟨_, by omega, rfl⟩
theorem pieces_flat {l : List Pc} (hx : x ∈ flatJ (piecesJ h l)) : ∃ k : Nat, k < h.length ∧ x = entP h k := by
  obtain ⟨⟨m, hm2, hxm⟩, hn⟩ := flat_mem.1 hx
  unfold piecesJ at hm2
  obtain ⟨p, _, rfl⟩ := List.mem_map.1 hm2
  rcases piece_mem hxm with ⟨rfl, _⟩ | hk
  · rw [none_zero] at hn; cases hn
  · exact hk
theorem pieces_agree {l : List Pc} : agreeJ (flatJ (piecesJ h l)) = true := by
  rw [agree_iff]
  intro x hx y hy he
  obtain ⟨k, _, rfl⟩ := pieces_flat hx
  obtain ⟨m, _, rfl⟩ := pieces_flat hy
  have hkm : k = m := by
    simp only [entP] at he
    omega
  rw [hkm]
theorem pieces_chosen {l : List Pc} (hx : x ∈ chosenJ (flatJ (piecesJ h l))) : ∃ k : Nat, k < h.length ∧ x = entP h k := by
  have h1 := chosen_mem hx
  obtain ⟨y, hy, e1, e2⟩ := first_mem h1
  have e : y = x := by
    obtain ⟨a, b⟩ := x
    obtain ⟨c, d⟩ := y
    simp only at e1 e2
    rw [e1, e2]
  rw [← e]
  exact pieces_flat hy
theorem piece_at {i : Nat} (hi : i < (pieceJ h p).length) : (i < (headP h p).length ∧ i = 0 ∧ 0 < startP h p ∧ (pieceJ h p)[i] = ⟨(startP h p : Nat), zeroE⟩) ∨ ((headP h p).length ≤ i ∧ startP h p + (i - (headP h p).length) < h.length ∧ (pieceJ h p)[i] = entP h (startP h p + (i - (headP h p).length))) := by
  have hl := headP_len h p
  have hs := startP_le h p
  unfold pieceJ at hi ⊢
  rw [List.length_append, restP_len] at hi
  by_cases hlt : i < (headP h p).length
  · refine .inl ⟨hlt, by omega, ?_⟩
    rw [List.getElem_append_left hlt]
    unfold headP at hlt ⊢
    by_cases hc : p.img = true ∧ 0 < startP h p
    · simp only [hc]
      obtain rfl : i = 0 := by
        rw [if_pos hc] at hlt
        simpa using hlt
      simp
    · rw [if_neg hc] at hlt
      simp at hlt
  · refine .inr ⟨by omega, ?_, ?_⟩
    · unfold lenP at hi
      omega
    · rw [List.getElem_append_right (by omega)]
      unfold restP
      rw [List.getElem_map, List.getElem_range]
theorem piece_right (hm : ∀ i (hi : i < h.length), mayE h[i] = true) (h40 : h.length ≤ 40) : rightJ (pieceJ h p) = true := by
  have hl := headP_len h p
  have hs := startP_le h p
  unfold rightJ
  rw [List.all_eq_true]
  intro i hi
  have hi := List.mem_range.1 hi
  have hent : ∀ k, k < h.length → mayE (entP h k).e = true := fun k hk => by
    unfold entP
    simp only
    rw [List.getD_eq_getElem?_getD, List.getElem?_eq_getElem hk]
    exact hm k hk
  rw [List.getD_eq_getElem?_getD, List.getElem?_eq_getElem hi]
  simp only [Option.getD_some]
  have hprev : ∀ (hip : 0 < i), ((pieceJ h p).getD (i - 1) ⟨0, zeroE⟩).idx = ((startP h p + (i - (headP h p).length) : Nat) : Int) := fun hip => by
    have h1 : i - 1 < (pieceJ h p).length := by omega
    rw [List.getD_eq_getElem?_getD, List.getElem?_eq_getElem h1]
    simp only [Option.getD_some]
    rcases piece_at h1 with ⟨a, b, _, e⟩ | ⟨a, _, e⟩
    · rw [e]
      have : i = 1 := by omega
      simp only
      omega
    · rw [e]
      unfold entP
      simp only
      omega
  unfold okR
  rcases piece_at hi with ⟨a, b, c, e⟩ | ⟨a, b, e⟩
  · rw [e, none_zero]
    subst b
    simp only [Bool.true_or, Bool.and_true, decide_true, Bool.and_eq_true, decide_eq_true_eq]
    unfold big40
    omega
  · rw [e]
    have h1 := hent _ b
    have h2 := may_none h1
    have hx : (entP h (startP h p + (i - (headP h p).length))).idx = ((startP h p + (i - (headP h p).length) + 1 : Nat) : Int) := rfl
    rw [h1, h2, hx]
    by_cases hi0 : i = 0
    · rw [decide_eq_true hi0]
      simp only [Bool.or_true, Bool.true_or, Bool.and_true, Bool.and_eq_true, decide_eq_true_eq]
      unfold big40
      omega
    · rw [hprev (by omega), decide_eq_false hi0]
      simp only [Bool.or_true, Bool.false_or, Bool.and_true, Bool.and_eq_true, decide_eq_true_eq]
      unfold big40
      omega
end
/-! One entry is turned. -/
def manyJ (fl : List Ap) (i : Int) : Nat := (fl.filter (fun y => decide (y.idx = i) && !noneE y.e)).length
theorem turn_told {X Y : List Ap} {x x' : Ap} {H : Int → En} (hP : ∀ y ∈ X ++ x :: Y, noneE y.e = false → y.e = H y.idx) (hx : noneE x.e = false) (h1 : x'.idx = x.idx) (h2 : x'.e ≠ x.e) (h3 : noneE x'.e = false) :
    (manyJ (X ++ x :: Y) x.idx < 2 → agreeJ ((X ++ x' :: Y).filter (fun x => !noneE x.e)) = true) ∧ (¬ manyJ (X ++ x :: Y) x.idx < 2 → agreeJ ((X ++ x' :: Y).filter (fun x => !noneE x.e)) = false ∧ firstOdd ((X ++ x' :: Y).filter (fun x => !noneE x.e)) = x.idx) := by
  have hmany : manyJ (X ++ x :: Y) x.idx = manyJ (X ++ Y) x.idx + 1 := by
    unfold manyJ
    rw [List.filter_append, List.filter_append, List.filter_cons]
    simp [hx]
    omega
  have hmem : ∀ y, y ∈ (X ++ x' :: Y).filter (fun x => !noneE x.e) ↔ y = x' ∨ (y ∈ X ++ Y ∧ noneE y.e = false) := fun y => by
    rw [List.mem_filter, List.mem_append, List.mem_cons, List.mem_append]
    constructor
    · rintro ⟨h | h | h, hn⟩
      · exact .inr ⟨.inl h, by simpa using hn⟩
      · exact .inl h
      · exact .inr ⟨.inr h, by simpa using hn⟩
    · rintro (rfl | ⟨h | h, hn⟩)
      · exact ⟨.inr (.inl rfl), by simp [h3]⟩
      · exact ⟨.inl h, by simp [hn]⟩
      · exact ⟨.inr (.inr h), by simp [hn]⟩
  have hold : ∀ y ∈ X ++ Y, noneE y.e = false → y.e = H y.idx := fun y hy hn => hP y (by
    rcases List.mem_append.1 hy with h | h
    · exact List.mem_append_left _ h
    · exact List.mem_append_right _ (List.mem_cons_of_mem _ h)) hn
  have hxe : x.e = H x.idx := hP x (List.mem_append_right _ List.mem_cons_self) hx
  refine ⟨fun hlt => ?_, fun hge => ?_⟩
  · rw [hmany] at hlt
    have h0 : ∀ y ∈ X ++ Y, noneE y.e = false → y.idx ≠ x.idx := fun y hy hn he => by
      have : y ∈ (X ++ Y).filter (fun y => decide (y.idx = x.idx) && !noneE y.e) := List.mem_filter.2 ⟨hy, by simp [he, hn]⟩
      have := List.length_pos_of_mem this
      unfold manyJ at hlt
      omega
    rw [agree_iff]
    intro u hu v hv he
    rcases (hmem u).1 hu with hu2 | ⟨hu2, hun⟩
    · rcases (hmem v).1 hv with hv2 | ⟨hv2, hvn⟩
      · rw [hu2, hv2]
      · rw [hu2] at he
        exact absurd (he.symm.trans h1) (h0 v hv2 hvn)
    · rcases (hmem v).1 hv with hv2 | ⟨hv2, hvn⟩
      · rw [hv2] at he
        exact absurd (he.trans h1) (h0 u hu2 hun)
      · rw [hold u hu2 hun, hold v hv2 hvn, he]
  · rw [hmany] at hge
    obtain ⟨y, hy⟩ : ∃ y, y ∈ (X ++ Y).filter (fun y => decide (y.idx = x.idx) && !noneE y.e) := List.exists_mem_of_length_pos (by unfold manyJ at hge; omega)
    obtain ⟨hy1, hy2⟩ := List.mem_filter.1 hy
    simp only [Bool.and_eq_true, decide_eq_true_eq, Bool.not_eq_true'] at hy2
    have hodd : ∀ i, i ∈ oddJ ((X ++ x' :: Y).filter (fun x => !noneE x.e)) ↔ i = x.idx := fun i => by
      rw [odd_iff]
      constructor
      · rintro ⟨u, hu, v, hv, e1, e2, e3⟩
        rcases (hmem u).1 hu with rfl | ⟨hu, hun⟩
        · exact e1.symm.trans h1
        · rcases (hmem v).1 hv with rfl | ⟨hv, hvn⟩
          · exact e2.symm.trans h1
          · exact absurd (by rw [hold u hu hun, hold v hv hvn, e1, e2]) e3
      · rintro rfl
        refine ⟨x', (hmem x').2 (.inl rfl), y, (hmem y).2 (.inr ⟨hy1, hy2.2⟩), h1, hy2.1, ?_⟩
        rw [hold y hy1 hy2.2, hy2.1, ← hxe]
        exact h2
    have hne : oddJ ((X ++ x' :: Y).filter (fun x => !noneE x.e)) ≠ [] := fun e => by
      have := (hodd x.idx).2 rfl
      rw [e] at this
      simp at this
    refine ⟨?_, (hodd _).1 (minI_mem hne).1⟩
    unfold agreeJ
    cases hh : oddJ ((X ++ x' :: Y).filter (fun x => !noneE x.e)) with
    | nil => exact absurd hh hne
    | cons => rfl
theorem set_flatten {ls : List (List Ap)} {w t : Nat} (hw : w < ls.length) (ht : t < ls[w].length) (v : Ap) : ∃ X Y, ls.flatten = X ++ ls[w][t] :: Y ∧ (ls.set w (ls[w].set t v)).flatten = X ++ v :: Y := by
  refine ⟨(ls.take w).flatten ++ ls[w].take t, ls[w].drop (t + 1) ++ (ls.drop (w + 1)).flatten, ?_, ?_⟩
  · have e1 : ls = ls.take w ++ ls[w] :: ls.drop (w + 1) := by rw [← List.drop_eq_getElem_cons hw, List.take_append_drop]
    have e2 : ls[w] = ls[w].take t ++ ls[w][t] :: ls[w].drop (t + 1) := by rw [← List.drop_eq_getElem_cons ht, List.take_append_drop]
    have e3 : ls.flatten = (ls.take w).flatten ++ (ls[w] ++ (ls.drop (w + 1)).flatten) := by
      conv => lhs; rw [e1]
      rw [List.flatten_append, List.flatten_cons]
    have e4 : ls[w] ++ (ls.drop (w + 1)).flatten = ls[w].take t ++ (ls[w][t] :: (ls[w].drop (t + 1) ++ (ls.drop (w + 1)).flatten)) := by
      conv => lhs; rw [e2]
      rw [List.append_assoc, List.cons_append]
    rw [e3, e4, List.append_assoc]
  · rw [List.set_eq_take_append_cons_drop, if_pos hw, List.flatten_append, List.flatten_cons, List.set_eq_take_append_cons_drop, if_pos ht]
    simp [List.append_assoc]
end Go.Proofs.Ytkkoookmnnmiiaa

namespace Go.Proofs.Ytkkoookmnnmiiaa
open Go.ChangeShapes Go.WideShapes Go.ChangeAt Go.RowKit

def ensJ (l : List En) : List Value := l.flatMap enC
def pcC (p : Pc) : List Value := [.int .u8 p.from_, .int .u8 p.many, .bool p.img]
def pcsJ (l : List Pc) : List Value := l.flatMap pcC
theorem pcC_len (p : Pc) : (pcC p).length = 3 := rfl
def okPc (p : Pc) : Prop := p.from_ ≤ 255 ∧ p.many ≤ 255
theorem en_cells {w : World} {a : Option Addr} {l : List En} (h : Row w a (ensJ l)) {j : Nat} (hj : j < l.length) : ∃ b off, a = some ⟨b, off, none⟩ ∧ b < w.heap.size ∧ w.cell? ⟨b, off + j * 7, none⟩ = some (.int .u8 l[j].kind) ∧ w.cell? ⟨b, off + j * 7 + 1, none⟩ = some (.int .i64 l[j].cli) ∧ w.cell? ⟨b, off + j * 7 + 2, none⟩ = some (.int .i64 l[j].seq) ∧ w.cell? ⟨b, off + j * 7 + 3, none⟩ = some (.int .u8 l[j].op.kind) ∧ w.cell? ⟨b, off + j * 7 + 4, none⟩ = some (.string l[j].op.key) ∧ w.cell? ⟨b, off + j * 7 + 5, none⟩ = some (.string l[j].op.old) ∧ w.cell? ⟨b, off + j * 7 + 6, none⟩ = some (.string l[j].op.val) := by
  obtain ⟨b, off, e, hb, c0, c⟩ := Row.flat0 enC_len (by decide) h (List.getElem?_eq_getElem hj)
  exact ⟨b, off, e, hb, c0 _ rfl, c 1 _ rfl, c 2 _ rfl, c 3 _ rfl, c 4 _ rfl, c 5 _ rfl, c 6 _ rfl⟩
theorem pc_cells {w : World} {a : Option Addr} {l : List Pc} (h : Row w a (pcsJ l)) {j : Nat} (hj : j < l.length) : ∃ b off, a = some ⟨b, off, none⟩ ∧ b < w.heap.size ∧ w.cell? ⟨b, off + j * 3, none⟩ = some (.int .u8 l[j].from_) ∧ w.cell? ⟨b, off + j * 3 + 1, none⟩ = some (.int .u8 l[j].many) ∧ w.cell? ⟨b, off + j * 3 + 2, none⟩ = some (.bool l[j].img) := by
  obtain ⟨b, off, e, hb, c0, c⟩ := Row.flat0 pcC_len (by decide) h (List.getElem?_eq_getElem hj)
  exact ⟨b, off, e, hb, c0 _ rfl, c 1 _ rfl, c 2 _ rfl⟩
theorem cPcJ : Try.prog.cellsOf 64 = 3 := by kernel_rfl
theorem cBoolJ : Try.prog.cellsOf 4 = 1 := by kernel_rfl
theorem list7J {α : Type} {l : List α} (h : l.length = 7) : ∃ a0 a1 a2 a3 a4 a5 a6, l = [a0, a1, a2, a3, a4, a5, a6] := by
  match l, h with
  | [a0, a1, a2, a3, a4, a5, a6], _ => exact ⟨a0, a1, a2, a3, a4, a5, a6, rfl⟩
theorem list3J {α : Type} {l : List α} (h : l.length = 3) : ∃ a0 a1 a2, l = [a0, a1, a2] := by
  match l, h with
  | [a0, a1, a2], _ => exact ⟨a0, a1, a2, rfl⟩
/-- A slice of structs that came in: a row of what each reads as. -/
theorem structs_of {H : Type} {enc : TypeId × Value → H} {W : World} {sp : Nat → Bool} {hd : Bool} {b0 fuel : Nat} {cs : List Value} {x : DataW H × List MemPlace} {T E : TypeId} {α : Type} [Inhabited α] {fc : α → List Value} {ok : α → Prop} {k : Nat} (hk : 0 < k) (hfc : ∀ x, (fc x).length = k) (hT : Try.prog.underlying T = some (.slice E)) (hE : Try.prog.cellsOf E = k)
    (hone : ∀ (fuel : Nat) (cs : List Value) (x : DataW H × List MemPlace), DataW.trod enc Try.prog W b0 sp hd fuel E cs = some x → ∃ e : α, cs = fc e ∧ ok e)
    (hf : DataW.trod enc Try.prog W b0 sp hd fuel T cs = some x) : ∃ (a : Option Addr) (l : List α) (cap : Nat), cs = [.slice a l.length cap] ∧ Row W a (l.flatMap fc) ∧ l.length ≤ cap ∧ cap ≤ maxLen ∧ ∀ y ∈ l, ok y := by
  rcases Go.Deep.open_slice hT hf with ⟨hcs, hx⟩ | ⟨a, len', cap', m, n, D, Pl, hcs, _, hl, hm, hmm, hx, hel⟩
  · exact ⟨none, [], 0, hcs, .inl rfl, Nat.le_refl _, by simp [maxLen], fun y hy => by simp at hy⟩
  · have hlm : len' ≤ m := by rw [hmm]; split <;> omega
    have hstr : ∀ i, i < len' → ∃ c : α, ok c ∧ ∀ r u, (fc c)[r]? = some u → W.cell? (a.add (i * k + r)) = some u := by
      intro i hi
      obtain ⟨cs', hc, ht⟩ := hel i (by omega)
      rw [hE] at hc
      obtain ⟨_, hlen2, hat⟩ := World.cells?_some hc
      obtain ⟨c, rfl, hok⟩ := hone _ _ _ ht
      refine ⟨c, hok, fun r u hr => ?_⟩
      have hlt := (List.getElem?_eq_some_iff.1 hr).1
      have := hat r (by rw [hfc] at hlt; exact hlt)
      rw [Go.Deep.add_add] at this
      rw [this, ← hr, List.getElem?_eq_getElem hlt]
    obtain ⟨f, hf2⟩ := Go.Deep.choose_lt hstr
    refine ⟨some a, (List.range len').map f, cap', by simpa using hcs, ?_, by simpa using hl, hm, fun y hy => ?_⟩
    · by_cases h0 : len' = 0
      · left
        subst h0
        rfl
      · right
        obtain ⟨b, off, spot⟩ := a
        have hspot : spot = none := by
          obtain ⟨v, hv⟩ : ∃ v, (fc (f 0))[0]? = some v := ⟨_, List.getElem?_eq_getElem (by rw [hfc]; exact hk)⟩
          have := World.cell?_spot ((hf2 0 (by omega)).2 0 _ hv)
          simpa [Addr.add] using this
        subst hspot
        refine ⟨b, off, rfl, fun i u hu => ?_⟩
        obtain ⟨j, r, hj, _, rfl, hr⟩ := flat_rangeJ hk hfc f len' i u hu
        have := (hf2 j hj).2 r u hr
        rw [addr_add] at this
        exact this
    · obtain ⟨i, hi, rfl⟩ := List.mem_map.1 hy
      exact (hf2 i (List.mem_range.1 hi)).1
instance : Inhabited En := ⟨zeroE⟩
instance : Inhabited Pc := ⟨⟨0, 0, false⟩⟩
set_option maxRecDepth 100000 in
theorem entry_ofJ {H : Type} {enc : TypeId × Value → H} {W : World} {sp : Nat → Bool} {hd : Bool} {b0 fuel : Nat} {cs : List Value} {x : DataW H × List MemPlace}
    (h : DataW.trod enc Try.prog W b0 sp hd fuel 34 cs = some x) : ∃ e : En, cs = enC e ∧ True := by
  obtain ⟨y0, y1, y2, y3, n, hl, h0, h1, h2, h3⟩ := trod_strJ4 Try.underlying34 h
  rw [cEntryJ] at hl
  obtain ⟨a0, a1, a2, a3, a4, a5, a6, rfl⟩ := list7J hl
  obtain ⟨u0, u1, u2, u3, k, _, e0, e1, e2, e3⟩ := trod_strJ4 Try.underlying32 h3
  simp [cOpnJ, cIntJ, cU8J, cStrJ] at h0 h1 h2 e0 e1 e2 e3
  obtain ⟨kd, q0, _⟩ := DataW.trod_int Try.underlying5 h0
  obtain ⟨cl, q1, _⟩ := DataW.trod_int Try.underlying3 h1
  obtain ⟨sq, q2, _⟩ := DataW.trod_int Try.underlying3 h2
  obtain ⟨ok, q3, _⟩ := DataW.trod_int Try.underlying5 e0
  obtain ⟨s1, q4, _⟩ := DataW.trod_string Try.underlying9 e1
  obtain ⟨s2, q5, _⟩ := DataW.trod_string Try.underlying9 e2
  obtain ⟨s3, q6, _⟩ := DataW.trod_string Try.underlying9 e3
  simp at q0 q1 q2 q3 q4 q5 q6
  subst q0 q1 q2 q3 q4 q5 q6
  exact ⟨⟨kd, cl, sq, ⟨ok, s1, s2, s3⟩⟩, rfl, trivial⟩
theorem u8_wf {n : Int} (h : (Lit.int .u8 n).wf = true) : ∃ k : Nat, n = k ∧ k ≤ 255 := by
  have h2 : 0 ≤ n ∧ n ≤ 255 := by
    have e1 : IntKind.u8.min = 0 := by decide
    have e2 : IntKind.u8.max = 255 := by decide
    simp [Lit.wf, e1, e2] at h
    omega
  exact ⟨n.toNat, by omega, by omega⟩
set_option maxRecDepth 100000 in
theorem piece_ofJ {H : Type} {enc : TypeId × Value → H} {W : World} {sp : Nat → Bool} {hd : Bool} {b0 fuel : Nat} {cs : List Value} {x : DataW H × List MemPlace}
    (h : DataW.trod enc Try.prog W b0 sp hd fuel 64 cs = some x) : ∃ p : Pc, cs = pcC p ∧ okPc p := by
  obtain ⟨y0, y1, y2, n, hl, h0, h1, h2⟩ := trod_strJ3 Try.underlying64 h
  rw [cPcJ] at hl
  obtain ⟨a0, a1, a2, rfl⟩ := list3J hl
  simp [cBoolJ, cU8J] at h0 h1 h2
  obtain ⟨fr, q0, _, w0⟩ := DataW.trod_int Try.underlying5 h0
  obtain ⟨mn, q1, _, w1⟩ := DataW.trod_int Try.underlying5 h1
  obtain ⟨im, q2, _⟩ := DataW.trod_bool Try.underlying4 h2
  simp at q0 q1 q2
  subst q0 q1 q2
  obtain ⟨k0, rfl, b0⟩ := u8_wf w0
  obtain ⟨k1, rfl, b1⟩ := u8_wf w1
  exact ⟨⟨k0, k1, im⟩, rfl, b0, b1⟩
set_option maxRecDepth 100000 in
theorem open_ensJ {H : Type} {enc : TypeId × Value → H} {W : World} {base : Nat} {sp : Nat → Bool} {hd : Bool} {b0 : Nat} {v : Value} {d : DataW H} {p : List MemPlace}
    (hv : Value.okWide Try.prog W .any base 22 v) (h : DataW.Trod enc Try.prog W b0 sp hd 22 v d p) : ∃ (a : Option Addr) (l : List En) (cap : Nat), v = .slice a l.length cap ∧ Row W a (ensJ l) ∧ l.length ≤ cap ∧ cap ≤ maxLen := by
  obtain ⟨a0, len, cap, rfl⟩ := okWide_slice Try.underlying22 hv
  obtain ⟨fuel, hf⟩ := h
  obtain ⟨a, l, c, hcs, hr, h1, h2, _⟩ := structs_of (ok := fun _ => True) (by decide) enC_len Try.underlying22 cEntryJ (fun _ _ _ h => entry_ofJ h) hf
  simp [Value.cells] at hcs
  obtain ⟨rfl, rfl, rfl⟩ := hcs
  exact ⟨_, l, _, rfl, hr, h1, h2⟩
set_option maxRecDepth 100000 in
theorem open_pcsJ {H : Type} {enc : TypeId × Value → H} {W : World} {base : Nat} {sp : Nat → Bool} {hd : Bool} {b0 : Nat} {v : Value} {d : DataW H} {p : List MemPlace}
    (hv : Value.okWide Try.prog W .any base 23 v) (h : DataW.Trod enc Try.prog W b0 sp hd 23 v d p) : ∃ (a : Option Addr) (l : List Pc) (cap : Nat), v = .slice a l.length cap ∧ Row W a (pcsJ l) ∧ l.length ≤ cap ∧ cap ≤ maxLen ∧ ∀ y ∈ l, okPc y := by
  obtain ⟨a0, len, cap, rfl⟩ := okWide_slice Try.underlying23 hv
  obtain ⟨fuel, hf⟩ := h
  obtain ⟨a, l, c, hcs, hr, h1, h2, h3⟩ := structs_of (ok := okPc) (by decide) pcC_len Try.underlying23 cPcJ (fun _ _ _ h => piece_ofJ h) hf
  simp [Value.cells] at hcs
  obtain ⟨rfl, rfl, rfl⟩ := hcs
  exact ⟨_, l, _, rfl, hr, h1, h2, h3⟩
end Go.Proofs.Ytkkoookmnnmiiaa

namespace Go.Proofs.Ytkkoookmnnmiiaa
open Go.RowKit

theorem owns_keptJ {w w' : World} {base n size : Nat} {e : TypeId} {v : Value} {xs : List Value} {row : Option Nat} (h : w.ownsRow base e size v n xs) (hg : w.grownBy w' row) (hr : ∀ g, row = some g → ∃ o T, w.heap[g]? = some (.cells o T (0, 0)) ∧ T ≠ e) : w'.ownsRow base e size v n xs := by
  refine h.kept hg ?_
  rcases h.2 with ⟨rfl, _⟩ | ⟨g, cap, cur, rfl, _, h3, _⟩
  · exact .inl rfl
  · refine .inr fun e' => ?_
    obtain ⟨o, T, h4, h5⟩ := hr g e'.symm
    rw [h3] at h4
    cases h4
    exact h5 rfl
/-- What a list of one's own is. -/
def OwnA (w : World) (B : Nat) (x : PartA) : Prop := w.ownsRow B 36 8 (partA x) x.2.2.length (aps x.2.2)
def apartA (x y : PartA) : Prop := ∀ g, (partA x).ownBlock = some g → (partA y).ownBlock ≠ some g
def PcR (w : World) (B : Nat) (v : Value) (L : List (List Ap)) : Prop :=
  ∃ LS : List PartA, w.ownsRow B 29 1 v LS.length (LS.map partA) ∧ lstA LS = L ∧ (∀ x ∈ LS, OwnA w B x) ∧ LS.Pairwise apartA
theorem OwnA.sla {w : World} {B : Nat} {x : PartA} (h : OwnA w B x) : SlA w x.1 x.2.1 x.2.2 := by
  obtain ⟨a, c, hv, hR, h1, h2⟩ := Row.of_owns h
  unfold partA at hv
  injection hv with e1 e2 e3
  obtain ⟨x1, xc, xl⟩ := x
  simp only at e1 e3 hR h1 ⊢
  subst e1 e3
  refine ⟨hR, h1, h2, fun e => ?_⟩
  rcases h.2 with ⟨hv, _⟩ | ⟨g, cap, cur, hv, _⟩
  · unfold partA at hv
    injection hv
  · unfold partA at hv
    injection hv with e1
    rw [e] at e1
    cases e1
theorem PcR.nil (w : World) (B : Nat) : PcR w B (.slice none 0 0) [] := ⟨[], World.ownsRow_nil _ _ _ _, rfl, fun _ h => (by cases h), List.Pairwise.nil⟩
theorem PcR.below {w w' : World} {B : Nat} {v : Value} {L : List (List Ap)} (h : PcR w B v L) (hb : Below w.heap.size w w') : PcR w' B v L := by
  obtain ⟨LS, h1, h2, h3, h4⟩ := h
  exact ⟨LS, owns_bl h1 hb, h2, fun x hx => owns_bl (h3 x hx) hb, h4⟩
theorem PcR.parts {w : World} {B : Nat} {v : Value} {L : List (List Ap)} (h : PcR w B v L) : ∃ a c LS, v = .slice a LS.length c ∧ PartsA w a LS ∧ lstA LS = L := by
  obtain ⟨LS, h1, h2, h3, h4⟩ := h
  obtain ⟨a, c, rfl, hR, _⟩ := Row.of_owns h1
  exact ⟨a, c, LS, rfl, ⟨hR, fun x hx => (h3 x hx).sla⟩, h2⟩
theorem owns_cells {w : World} {B n size g : Nat} {e : TypeId} {v : Value} {xs : List Value} (h : w.ownsRow B e size v n xs) (hg : v.ownBlock = some g) : ∃ cur, w.heap[g]? = some (.cells cur e (0, 0)) := by
  rcases h.2 with ⟨rfl, _⟩ | ⟨g', cap, cur, rfl, _, h3, _⟩
  · cases hg
  · simp [Value.ownBlock] at hg
    subst hg
    exact ⟨cur, h3⟩
theorem PcR.snoc {w0 w2 w3 : World} {B : Nat} {v v' : Value} {LS : List PartA} {x : PartA} {o : Obj} (hB : B ≤ w0.heap.size) (h3 : ∀ x ∈ LS, OwnA w0 B x) (h4 : LS.Pairwise apartA) (hb : Below w0.heap.size w0 w2) (hx : OwnA w2 w0.heap.size x) (hv2 : w2.ownsRow B 29 1 v LS.length (LS.map partA)) (hg : (w2.alloc o).grownBy w3 v.ownBlock) (hv : w3.ownsRow B 29 1 v' (LS.length + 1) (LS.map partA ++ [partA x])) : PcR w3 B v' (lstA LS ++ [x.2.2]) := by
  have key : ∀ {b : Nat} {y : PartA}, OwnA w2 b y → OwnA w3 b y := fun {b y} h => by
    refine owns_keptJ (owns_bl h (blw w2 o)) hg fun g e => ?_
    obtain ⟨cur, hc⟩ := owns_cells hv2 e
    exact ⟨cur, _, tr_al _ hc, by decide⟩
  refine ⟨LS ++ [x], ?_, ?_, fun y hy => ?_, ?_⟩
  · rw [List.map_append, List.length_append]
    exact hv
  · unfold lstA
    rw [List.map_append]
    rfl
  · rcases List.mem_append.1 hy with hy | hy
    · exact key (owns_bl (h3 y hy) hb)
    · rw [List.mem_singleton] at hy
      rw [hy]
      exact owns_mono (key hx) hB
  · refine List.pairwise_append.2 ⟨h4, List.pairwise_singleton _ _, fun y hy z hz => ?_⟩
    rw [List.mem_singleton] at hz
    rw [hz]
    intro g e1 e2
    obtain ⟨cur, hc⟩ := owns_cells (h3 y hy) e1
    have := lt_blk hc
    have := hx.lt g e2
    omega
section
variable {P : Program}
theorem wpList_append1G {w : World} {ops : Array Oper} {rest : List Oper} {o : Oper} {a : Act} {Q : Exit → Act → World → Prop} (hgd : o.guard = none) (s x : Operand) (t e : TypeId) {size bytes : Nat} (hT : ElemT P t e size bytes)
    (ho : o.op = .call { callee := .builtin .append, args := #[s, x], argTypes := #[t, t] })
    (base : Nat) (v : Value) (n : Nat) (xs : List Value) (hs : a.eval s = v) (hown : w.ownsRow base e size v n xs)
    (cs : Array Value) (hcs : cs.size = size) (h1 : ∀ u ∈ cs.toList, u.oneCell' = true) (e' : TypeId) (hx : a.eval x = .slice (some ⟨w.heap.size, 0, none⟩) 1 1)
    (hn : n < 4294967296) (hby : bytes ≤ 4096) (hbase : base ≤ w.heap.size)
    (h : ∀ v' w', w'.ownsRow base e size v' (n + 1) (xs ++ cs.toList) → (w.alloc (.cells cs e')).grownBy w' v.ownBlock → wpList P ops Q rest (a.put o.dst v') w') :
    wpList P ops Q (o :: rest) a (w.alloc (.cells cs e')) := by
  obtain ⟨i, z, ht, hi, hz, hsize, hbytes, hzs, hsz⟩ := hT.ex
  refine wpList_append_own _ hgd s x t ho base e i z size bytes ht hi hz hsize hbytes hzs hsz v n xs hs (hown.alloc _) ⟨w.heap.size, 0, none⟩ 1 1 cs.toList hx (by simp [hcs]) ?_ h1 (by unfold maxLen; omega) ?_ ?_ ?_
  · intro j u hj
    rw [addr_add, Nat.zero_add, cell_new]
    simpa using hj
  · have : (n + 1) * bytes ≤ 4294967296 * 4096 := Nat.mul_le_mul (by omega) hby
    omega
  · have : (w.alloc (.cells cs e')).heap.size = w.heap.size + 1 := by simp
    omega
  · intro v' w' h2 h3 _
    exact h v' w' h2 h3
end
theorem elA : ElemT Try.prog 29 36 8 88 := ElemT.of (.agg (apA ⟨0, zeroE⟩)) Try.underlying29 (by kernel_rfl) rfl (by decide)
/-! odd. -/
def OddR (h : List En) (np : Nat) (e : Ending) : Prop := ∃ r, e = .returned (.bool r) ∧ (r = false → h.length ≤ 40 ∧ np ≤ 8 ∧ ∀ i (hi : i < h.length), mayE h[i] = true)
set_option maxRecDepth 100000 in
set_option maxHeartbeats 2000000 in
theorem oddJ_any {a b : Option Addr} {c d np : Nat} {h : List En} {w : World} (hh : Row w a (ensJ h)) (hl : h.length ≤ 9223372036854775807) (hp : np ≤ 9223372036854775807) : Calls Try.prog 9 #[.slice a h.length c, .slice b np d] w fun e w' => OddR h np e ∧ Below w.heap.size w w' := by
  by_cases h40 : 40 < h.length
  · go_enter Try.func9, Try.ntmps9
    go_wp2
    go_ret
    exact ⟨⟨true, ret_bool (by simp <;> omega), fun e => (by cases e)⟩, Below.refl _ _⟩
  · by_cases h8 : 8 < np
    · go_enter Try.func9, Try.ntmps9
      go_wp2
      go_ret
      exact ⟨⟨true, ret_bool (by simp <;> omega), fun e => (by cases e)⟩, Below.refl _ _⟩
    · go_enter Try.func9, Try.ntmps9
      go_wp2
      go_loopw [5] (fun i wr => ∃ k : Nat, k ≤ h.length ∧ i = .int .i64 k ∧ Hid (∀ j (hj : j < h.length), j < k → mayE h[j] = true) ∧ Below w.heap.size w wr) (fun i _ => h.length - (Go.RowKit.intOf i).toNat)
      case atStart => exact ⟨0, by omega, rfl, Lib.hid (fun _ _ hj => absurd hj (by omega)), Below.refl _ _⟩
      case round =>
        obtain ⟨k, hk, rfl, hT, hbr⟩ := hrel
        by_cases hlt : k < h.length
        · obtain ⟨b1, o1, rfl, hb1, c0, c1, c2, c3, c4, c5, c6⟩ := en_cells (hh.below0 hbr) hlt
          have hE := fun w' => emay_any h[k] w' _ rfl
          have HT := Lib.hid (fun (e : mayE h[k] = true) => show ∀ j (hj : j < h.length), j < k + 1 → mayE h[j] = true from fun j hj hjk => by
            by_cases hj2 : j < k
            · exact hT.out j hj hj2
            · have : j = k := by omega
              subst this
              exact e)
          clear hT
          obtain ⟨r, hr⟩ : ∃ r, mayE h[k] = r := ⟨_, rfl⟩
          rw [hr] at hE HT
          clear hr
          generalize h[k] = x at *
          simp only [enA] at hE
          cases r
          case true =>
            go_wp2_with (go_at_call 29; refine (hE _).mono ?_; rintro e w1 ⟨rfl, hb2⟩)
            go_roundw
            case rel => exact ⟨k + 1, by omega, by go_num, Lib.hid (HT.out (by first | rfl | trivial)), hbr.trans (hb2.mono hbr.size)⟩
            case measure => simp [Go.RowKit.intOf]; omega
          case false =>
            go_wp2_with (go_at_call 29; refine (hE _).mono ?_; rintro e w1 ⟨rfl, hb2⟩)
            go_ret
            exact ⟨⟨true, rfl, fun e => by cases e⟩, hbr.trans (hb2.mono hbr.size)⟩
        · obtain rfl : k = h.length := by omega
          go_wp2
          go_ret
          exact ⟨⟨false, rfl, fun _ => ⟨by omega, by omega, fun i hi => hT.out i hi hi⟩⟩, hbr⟩
end Go.Proofs.Ytkkoookmnnmiiaa

namespace Go.Proofs.Ytkkoookmnnmiiaa
open Go.RowKit

theorem tmod_nat1 (x n : Nat) : (x : Int).tmod ((n : Int) + 1) = ((x % (n + 1) : Nat) : Int) := by
  rw [Int.tmod_eq_emod_of_nonneg (by omega), Int.natCast_emod, Int.natCast_add]
  rfl
theorem head_yes {h : List En} {p : Pc} (h1 : p.img = true) (h2 : 0 < startP h p) : headP h p = [⟨(startP h p : Nat), zeroE⟩] := by
  unfold headP
  rw [if_pos ⟨h1, h2⟩]
theorem head_no {h : List En} {p : Pc} (h1 : ¬ (p.img = true ∧ 0 < startP h p)) : headP h p = [] := by
  unfold headP
  rw [if_neg h1]
set_option maxRecDepth 100000 in
set_option maxHeartbeats 4000000 in
theorem pieces_any {a b : Option Addr} {c d : Nat} {h : List En} {l : List Pc} {w : World} (hhr : Row w a (ensJ h)) (hpr : Row w b (pcsJ l)) (h40 : h.length ≤ 40) (h8 : l.length ≤ 8) (hok : ∀ y ∈ l, okPc y) : Calls Try.prog 10 #[.slice a h.length c, .slice b l.length d] w fun e w' => (∃ v, e = .returned v ∧ PcR w' w.heap.size v (piecesJ h l)) ∧ Below w.heap.size w w' := by
  have HOK := Lib.hid hok
  clear hok
  go_enter Try.func10, Try.ntmps10
  go_wp2
  go_loopw [5, 6] (fun t i wr => ∃ (k : Nat) (v : Value), t = v ∧ k ≤ l.length ∧ i = .int .i64 k ∧ PcR wr w.heap.size v (piecesJ h (l.take k)) ∧ Below w.heap.size w wr) (fun _ i _ => l.length - (Go.RowKit.intOf i).toNat)
  case atStart => exact ⟨0, _, rfl, by omega, rfl, PcR.nil _ _, Below.refl _ _⟩
  case round =>
    obtain ⟨k, v, rfl, hk, rfl, hP, hbr⟩ := hrel
    by_cases hlt : k < l.length
    · obtain ⟨p, hpe⟩ : ∃ p, l[k]'hlt = p := ⟨_, rfl⟩
      have hpk : okPc p := by rw [← hpe]; exact HOK.out _ (List.getElem_mem hlt)
      obtain ⟨pb, po, rfl, hpl, q0, q1, q2⟩ := pc_cells (hpr.below0 hbr) hlt
      rw [hpe] at q0 q1 q2
      have HPE := Lib.hid hpe
      have HTK := Lib.hid (show piecesJ h (l.take (k + 1)) = piecesJ h (l.take k) ++ [pieceJ h p] by
        unfold piecesJ
        rw [List.take_succ_eq_append_getElem hlt, List.map_append, hpe]
        rfl)
      clear hpe
      have hp1 := hpk.1
      have hp2 := hpk.2
      have hmod : ((p.from_ : Nat) : Int).tmod ((h.length : Int) + 1) = ((startP h p : Nat) : Int) := tmod_nat1 p.from_ h.length
      have hsl := startP_le h p
      generalize wr = w0 at *
      obtain ⟨LS, hO, hLS, hE, hA⟩ := hP
      have HO := Lib.hid hO
      have HLS := Lib.hid hLS
      have HE := Lib.hid hE
      have HA := Lib.hid hA
      have hLl : LS.length ≤ 8 := by
        have := congrArg List.length hLS
        unfold lstA piecesJ at this
        rw [List.length_map, List.length_map, List.length_take] at this
        omega
      clear hO hLS hE hA
      by_cases him : p.img = true
      · rw [him] at q2
        by_cases hs0 : 0 < startP h p
        · have hhd := head_yes him hs0
          go_wp2_with (at_builtin; refine wpList_append1 rfl _ _ 29 36 elA rfl w0.heap.size _ 0 _ rfl (World.ownsRow_nil _ _ _ _) #[.int .i64 ((startP h p : Nat) : Int), .int .u8 0, .int .i64 0, .int .i64 0, .int .u8 0, .string ⟨#[]⟩, .string ⟨#[]⟩, .string ⟨#[]⟩] rfl (ap_one ⟨((startP h p : Nat) : Int), zeroE⟩) 36 rfl (by omega) (by omega) (Nat.le_refl _) ?_; intro v' wq hoq' hbq _)
          have hoq : wq.ownsRow w0.heap.size 36 8 v' ((headP h p).length + 0) (aps (headP h p ++ restP h p 0)) := by
            rw [hhd]
            exact hoq'
          clear hoq' hhd
          go_loopw [7, 9] (fun t i wr2 => ∃ (n : Nat) (v : Value), t = v ∧ n ≤ lenP h p ∧ i = .int .i64 ((startP h p + n : Nat) : Int) ∧ wr2.ownsRow w0.heap.size 36 8 v ((headP h p).length + n) (aps (headP h p ++ restP h p n)) ∧ Below w0.heap.size w0 wr2) (fun _ i _ => h.length - (Go.RowKit.intOf i).toNat)
          case atStart => exact ⟨0, _, rfl, by omega, by simp, hoq, hbq⟩
          case round =>
            obtain ⟨n, vl, rfl, hn, rfl, hol, hbl⟩ := hrel
            obtain ⟨pb, po, hpe, hpl, q0, q1, q2⟩ := pc_cells (hpr.below0 (hbr.trans (hbl.mono hbr.size))) hlt
            cases hpe
            rw [HPE.out] at q0 q1 q2
            have hbls := hbl.size
            by_cases hlp : n < lenP h p
            · have hk1 : startP h p + n < h.length := by unfold lenP at hlp; omega
              have hk2 : startP h p + n < startP h p + p.many := by unfold lenP at hlp; omega
              have hln : (headP h p).length ≤ 1 := headP_len h p
              obtain ⟨eb, eo, rfl, hel, c0, c1, c2, c3, c4, c5, c6⟩ := en_cells (hhr.below0 (hbr.trans (hbl.mono hbr.size))) hk1
              have HRS := Lib.hid (restP_succ h p n)
              have HEN := Lib.hid (show entP h (startP h p + n) = ⟨((startP h p + n + 1 : Nat) : Int), h[startP h p + n]⟩ by unfold entP; rw [List.getD_eq_getElem?_getD, List.getElem?_eq_getElem hk1]; rfl)
              generalize h[startP h p + n] = x at *
              obtain ⟨s, hs⟩ : ∃ s, startP h p = s := ⟨_, rfl⟩
              obtain ⟨hl0, hh0⟩ : ∃ k, (headP h p).length = k := ⟨_, rfl⟩
              have HH := Lib.hid hs
              have HH0 := Lib.hid hh0
              rw [hs] at hk1 hk2 c0 c1 c2 c3 c4 c5 c6
              rw [hh0] at hol hln
              simp only [hs]
              have hi1 : ((s : Int) + (n : Int)) < h.length := by omega
              have HNL := Lib.hid hlp
              clear hs hh0 hlp hn
              go_wp2_with (at_builtin; refine wpList_append1 rfl _ _ 29 36 elA rfl w0.heap.size _ (hl0 + n) _ rfl hol #[.int .i64 ((s + n + 1 : Nat) : Int), .int .u8 x.kind, .int .i64 x.cli, .int .i64 x.seq, .int .u8 x.op.kind, .string x.op.key, .string x.op.old, .string x.op.val] rfl (ap_one ⟨((s + n + 1 : Nat) : Int), x⟩) 36 rfl (by omega) (by omega) hbls ?_; intro v' w' hol' hb' _)
              go_roundw
              case rel =>
                refine ⟨n + 1, _, rfl, ?_, ?_, ?_, hbl.trans hb'⟩
                · have := HNL.out; omega
                · exact congrArg (Value.int .i64) (by omega)
                · rw [HRS.out, HEN.out, HH.out, HH0.out, ← List.append_assoc, aps_snoc]; exact hol'
              case measure => simp [Go.RowKit.intOf]; omega
            · obtain rfl : n = lenP h p := by omega
              have hpll : (headP h p).length + lenP h p = (pieceJ h p).length := by unfold pieceJ; rw [List.length_append, restP_len]
              have hol1 := hol
              rw [hpll] at hol1
              obtain ⟨la, lc, rfl, _⟩ := Row.of_owns hol1
              have hx : OwnA wr w0.heap.size (la, lc, pieceJ h p) := hol1
              have hO2 := owns_bl HO.out hbl
              have hends : ¬ startP h p + lenP h p < h.length ∨ (startP h p + lenP h p < h.length ∧ ¬ startP h p + lenP h p < startP h p + p.many) := by unfold lenP; omega
              have HX := Lib.hid hx
              have HB := Lib.hid hbl
              have hB0 := Nat.le_trans hbr.size hbls
              clear hol hol1 hx hpll
              obtain ⟨s, hs⟩ : ∃ s, startP h p = s := ⟨_, rfl⟩
              obtain ⟨m, hm⟩ : ∃ m, lenP h p = m := ⟨_, rfl⟩
              obtain ⟨pl, hpl2⟩ : ∃ m, (pieceJ h p).length = m := ⟨_, rfl⟩
              have HPL := Lib.hid hpl2
              rw [hs, hm] at hends
              simp only [hs, hm, hpl2]
              clear hs hm hpl2
              have hend2 : ¬ ((s : Int) + (m : Int)) < h.length ∨ (((s : Int) + (m : Int)) < h.length ∧ ¬ ((s : Int) + (m : Int)) < (s : Int) + (p.many : Int)) := by omega
              clear hends
              rcases hend2 with he | ⟨he1, he2⟩
              · go_wp2_with (at_builtin; refine wpList_append1G rfl _ _ 26 29 elSlA rfl w.heap.size _ LS.length _ rfl hO2 #[.slice la pl lc] rfl (by simp; rfl) 29 rfl (by omega) (by omega) hB0 ?_; intro v' w' hown' hg')
                go_roundw
                case rel =>
                  refine ⟨k + 1, _, rfl, by omega, by go_num, ?_, ?_⟩
                  · rw [HTK.out, ← HLS.out]
                    refine PcR.snoc (x := (la, lc, pieceJ h p)) hbr.size HE.out HA.out HB.out HX.out hO2 hg' ?_
                    show w'.ownsRow _ _ _ _ _ (_ ++ [.slice la (pieceJ h p).length lc])
                    rw [HPL.out]
                    exact hown'
                  · exact ((hbr.trans (HB.out.mono hbr.size)).alloc hB0 _).grown hg' (by simp; omega) (fun k e => (hO2.lt k e).1)
                case measure => simp [Go.RowKit.intOf]; omega
              · go_wp2_with (at_builtin; refine wpList_append1G rfl _ _ 26 29 elSlA rfl w.heap.size _ LS.length _ rfl hO2 #[.slice la pl lc] rfl (by simp; rfl) 29 rfl (by omega) (by omega) hB0 ?_; intro v' w' hown' hg')
                go_roundw
                case rel =>
                  refine ⟨k + 1, _, rfl, by omega, by go_num, ?_, ?_⟩
                  · rw [HTK.out, ← HLS.out]
                    refine PcR.snoc (x := (la, lc, pieceJ h p)) hbr.size HE.out HA.out HB.out HX.out hO2 hg' ?_
                    show w'.ownsRow _ _ _ _ _ (_ ++ [.slice la (pieceJ h p).length lc])
                    rw [HPL.out]
                    exact hown'
                  · exact ((hbr.trans (HB.out.mono hbr.size)).alloc hB0 _).grown hg' (by simp; omega) (fun k e => (hO2.lt k e).1)
                case measure => simp [Go.RowKit.intOf]; omega
        · have hhd := head_no (h := h) (p := p) (fun e => hs0 e.2)
          obtain ⟨wq, hwq⟩ : ∃ wq, w0 = wq := ⟨_, rfl⟩
          have hoq : w0.ownsRow w0.heap.size 36 8 (.slice none 0 0) ((headP h p).length + 0) (aps (headP h p ++ restP h p 0)) := by
            rw [hhd]
            exact World.ownsRow_nil _ _ _ _
          have hbq := Below.refl w0.heap.size w0
          clear hhd hwq
          go_wp2
          go_loopw [7, 9] (fun t i wr2 => ∃ (n : Nat) (v : Value), t = v ∧ n ≤ lenP h p ∧ i = .int .i64 ((startP h p + n : Nat) : Int) ∧ wr2.ownsRow w0.heap.size 36 8 v ((headP h p).length + n) (aps (headP h p ++ restP h p n)) ∧ Below w0.heap.size w0 wr2) (fun _ i _ => h.length - (Go.RowKit.intOf i).toNat)
          case atStart => exact ⟨0, _, rfl, by omega, by simp, hoq, hbq⟩
          case round =>
            obtain ⟨n, vl, rfl, hn, rfl, hol, hbl⟩ := hrel
            obtain ⟨pb, po, hpe, hpl, q0, q1, q2⟩ := pc_cells (hpr.below0 (hbr.trans (hbl.mono hbr.size))) hlt
            cases hpe
            rw [HPE.out] at q0 q1 q2
            have hbls := hbl.size
            by_cases hlp : n < lenP h p
            · have hk1 : startP h p + n < h.length := by unfold lenP at hlp; omega
              have hk2 : startP h p + n < startP h p + p.many := by unfold lenP at hlp; omega
              have hln : (headP h p).length ≤ 1 := headP_len h p
              obtain ⟨eb, eo, rfl, hel, c0, c1, c2, c3, c4, c5, c6⟩ := en_cells (hhr.below0 (hbr.trans (hbl.mono hbr.size))) hk1
              have HRS := Lib.hid (restP_succ h p n)
              have HEN := Lib.hid (show entP h (startP h p + n) = ⟨((startP h p + n + 1 : Nat) : Int), h[startP h p + n]⟩ by unfold entP; rw [List.getD_eq_getElem?_getD, List.getElem?_eq_getElem hk1]; rfl)
              generalize h[startP h p + n] = x at *
              obtain ⟨s, hs⟩ : ∃ s, startP h p = s := ⟨_, rfl⟩
              obtain ⟨hl0, hh0⟩ : ∃ k, (headP h p).length = k := ⟨_, rfl⟩
              have HH := Lib.hid hs
              have HH0 := Lib.hid hh0
              rw [hs] at hk1 hk2 c0 c1 c2 c3 c4 c5 c6
              rw [hh0] at hol hln
              simp only [hs]
              have hi1 : ((s : Int) + (n : Int)) < h.length := by omega
              have HNL := Lib.hid hlp
              clear hs hh0 hlp hn
              go_wp2_with (at_builtin; refine wpList_append1 rfl _ _ 29 36 elA rfl w0.heap.size _ (hl0 + n) _ rfl hol #[.int .i64 ((s + n + 1 : Nat) : Int), .int .u8 x.kind, .int .i64 x.cli, .int .i64 x.seq, .int .u8 x.op.kind, .string x.op.key, .string x.op.old, .string x.op.val] rfl (ap_one ⟨((s + n + 1 : Nat) : Int), x⟩) 36 rfl (by omega) (by omega) hbls ?_; intro v' w' hol' hb' _)
              go_roundw
              case rel =>
                refine ⟨n + 1, _, rfl, ?_, ?_, ?_, hbl.trans hb'⟩
                · have := HNL.out; omega
                · exact congrArg (Value.int .i64) (by omega)
                · rw [HRS.out, HEN.out, HH.out, HH0.out, ← List.append_assoc, aps_snoc]; exact hol'
              case measure => simp [Go.RowKit.intOf]; omega
            · obtain rfl : n = lenP h p := by omega
              have hpll : (headP h p).length + lenP h p = (pieceJ h p).length := by unfold pieceJ; rw [List.length_append, restP_len]
              have hol1 := hol
              rw [hpll] at hol1
              obtain ⟨la, lc, rfl, _⟩ := Row.of_owns hol1
              have hx : OwnA wr w0.heap.size (la, lc, pieceJ h p) := hol1
              have hO2 := owns_bl HO.out hbl
              have hends : ¬ startP h p + lenP h p < h.length ∨ (startP h p + lenP h p < h.length ∧ ¬ startP h p + lenP h p < startP h p + p.many) := by unfold lenP; omega
              have HX := Lib.hid hx
              have HB := Lib.hid hbl
              have hB0 := Nat.le_trans hbr.size hbls
              clear hol hol1 hx hpll
              obtain ⟨s, hs⟩ : ∃ s, startP h p = s := ⟨_, rfl⟩
              obtain ⟨m, hm⟩ : ∃ m, lenP h p = m := ⟨_, rfl⟩
              obtain ⟨pl, hpl2⟩ : ∃ m, (pieceJ h p).length = m := ⟨_, rfl⟩
              have HPL := Lib.hid hpl2
              rw [hs, hm] at hends
              simp only [hs, hm, hpl2]
              clear hs hm hpl2
              have hend2 : ¬ ((s : Int) + (m : Int)) < h.length ∨ (((s : Int) + (m : Int)) < h.length ∧ ¬ ((s : Int) + (m : Int)) < (s : Int) + (p.many : Int)) := by omega
              clear hends
              rcases hend2 with he | ⟨he1, he2⟩
              · go_wp2_with (at_builtin; refine wpList_append1G rfl _ _ 26 29 elSlA rfl w.heap.size _ LS.length _ rfl hO2 #[.slice la pl lc] rfl (by simp; rfl) 29 rfl (by omega) (by omega) hB0 ?_; intro v' w' hown' hg')
                go_roundw
                case rel =>
                  refine ⟨k + 1, _, rfl, by omega, by go_num, ?_, ?_⟩
                  · rw [HTK.out, ← HLS.out]
                    refine PcR.snoc (x := (la, lc, pieceJ h p)) hbr.size HE.out HA.out HB.out HX.out hO2 hg' ?_
                    show w'.ownsRow _ _ _ _ _ (_ ++ [.slice la (pieceJ h p).length lc])
                    rw [HPL.out]
                    exact hown'
                  · exact ((hbr.trans (HB.out.mono hbr.size)).alloc hB0 _).grown hg' (by simp; omega) (fun k e => (hO2.lt k e).1)
                case measure => simp [Go.RowKit.intOf]; omega
              · go_wp2_with (at_builtin; refine wpList_append1G rfl _ _ 26 29 elSlA rfl w.heap.size _ LS.length _ rfl hO2 #[.slice la pl lc] rfl (by simp; rfl) 29 rfl (by omega) (by omega) hB0 ?_; intro v' w' hown' hg')
                go_roundw
                case rel =>
                  refine ⟨k + 1, _, rfl, by omega, by go_num, ?_, ?_⟩
                  · rw [HTK.out, ← HLS.out]
                    refine PcR.snoc (x := (la, lc, pieceJ h p)) hbr.size HE.out HA.out HB.out HX.out hO2 hg' ?_
                    show w'.ownsRow _ _ _ _ _ (_ ++ [.slice la (pieceJ h p).length lc])
                    rw [HPL.out]
                    exact hown'
                  · exact ((hbr.trans (HB.out.mono hbr.size)).alloc hB0 _).grown hg' (by simp; omega) (fun k e => (hO2.lt k e).1)
                case measure => simp [Go.RowKit.intOf]; omega
      · have him' : p.img = false := by simpa using him
        rw [him'] at q2
        have hhd := head_no (h := h) (p := p) (fun e => him e.1)
        have hoq : w0.ownsRow w0.heap.size 36 8 (.slice none 0 0) ((headP h p).length + 0) (aps (headP h p ++ restP h p 0)) := by
          rw [hhd]
          exact World.ownsRow_nil _ _ _ _
        have hbq := Below.refl w0.heap.size w0
        clear hhd
        go_wp2
        go_loopw [7, 9] (fun t i wr2 => ∃ (n : Nat) (v : Value), t = v ∧ n ≤ lenP h p ∧ i = .int .i64 ((startP h p + n : Nat) : Int) ∧ wr2.ownsRow w0.heap.size 36 8 v ((headP h p).length + n) (aps (headP h p ++ restP h p n)) ∧ Below w0.heap.size w0 wr2) (fun _ i _ => h.length - (Go.RowKit.intOf i).toNat)
        case atStart => exact ⟨0, _, rfl, by omega, by simp, hoq, hbq⟩
        case round =>
          obtain ⟨n, vl, rfl, hn, rfl, hol, hbl⟩ := hrel
          obtain ⟨pb, po, hpe, hpl, q0, q1, q2⟩ := pc_cells (hpr.below0 (hbr.trans (hbl.mono hbr.size))) hlt
          cases hpe
          rw [HPE.out] at q0 q1 q2
          have hbls := hbl.size
          by_cases hlp : n < lenP h p
          · have hk1 : startP h p + n < h.length := by unfold lenP at hlp; omega
            have hk2 : startP h p + n < startP h p + p.many := by unfold lenP at hlp; omega
            have hln : (headP h p).length ≤ 1 := headP_len h p
            obtain ⟨eb, eo, rfl, hel, c0, c1, c2, c3, c4, c5, c6⟩ := en_cells (hhr.below0 (hbr.trans (hbl.mono hbr.size))) hk1
            have HRS := Lib.hid (restP_succ h p n)
            have HEN := Lib.hid (show entP h (startP h p + n) = ⟨((startP h p + n + 1 : Nat) : Int), h[startP h p + n]⟩ by unfold entP; rw [List.getD_eq_getElem?_getD, List.getElem?_eq_getElem hk1]; rfl)
            generalize h[startP h p + n] = x at *
            obtain ⟨s, hs⟩ : ∃ s, startP h p = s := ⟨_, rfl⟩
            obtain ⟨hl0, hh0⟩ : ∃ k, (headP h p).length = k := ⟨_, rfl⟩
            have HH := Lib.hid hs
            have HH0 := Lib.hid hh0
            rw [hs] at hk1 hk2 c0 c1 c2 c3 c4 c5 c6
            rw [hh0] at hol hln
            simp only [hs]
            have hi1 : ((s : Int) + (n : Int)) < h.length := by omega
            have HNL := Lib.hid hlp
            clear hs hh0 hlp hn
            go_wp2_with (at_builtin; refine wpList_append1 rfl _ _ 29 36 elA rfl w0.heap.size _ (hl0 + n) _ rfl hol #[.int .i64 ((s + n + 1 : Nat) : Int), .int .u8 x.kind, .int .i64 x.cli, .int .i64 x.seq, .int .u8 x.op.kind, .string x.op.key, .string x.op.old, .string x.op.val] rfl (ap_one ⟨((s + n + 1 : Nat) : Int), x⟩) 36 rfl (by omega) (by omega) hbls ?_; intro v' w' hol' hb' _)
            go_roundw
            case rel =>
              refine ⟨n + 1, _, rfl, ?_, ?_, ?_, hbl.trans hb'⟩
              · have := HNL.out; omega
              · exact congrArg (Value.int .i64) (by omega)
              · rw [HRS.out, HEN.out, HH.out, HH0.out, ← List.append_assoc, aps_snoc]; exact hol'
            case measure => simp [Go.RowKit.intOf]; omega
          · obtain rfl : n = lenP h p := by omega
            have hpll : (headP h p).length + lenP h p = (pieceJ h p).length := by unfold pieceJ; rw [List.length_append, restP_len]
            have hol1 := hol
            rw [hpll] at hol1
            obtain ⟨la, lc, rfl, _⟩ := Row.of_owns hol1
            have hx : OwnA wr w0.heap.size (la, lc, pieceJ h p) := hol1
            have hO2 := owns_bl HO.out hbl
            have hends : ¬ startP h p + lenP h p < h.length ∨ (startP h p + lenP h p < h.length ∧ ¬ startP h p + lenP h p < startP h p + p.many) := by unfold lenP; omega
            have HX := Lib.hid hx
            have HB := Lib.hid hbl
            have hB0 := Nat.le_trans hbr.size hbls
            clear hol hol1 hx hpll
            obtain ⟨s, hs⟩ : ∃ s, startP h p = s := ⟨_, rfl⟩
            obtain ⟨m, hm⟩ : ∃ m, lenP h p = m := ⟨_, rfl⟩
            obtain ⟨pl, hpl2⟩ : ∃ m, (pieceJ h p).length = m := ⟨_, rfl⟩
            have HPL := Lib.hid hpl2
            rw [hs, hm] at hends
            simp only [hs, hm, hpl2]
            clear hs hm hpl2
            have hend2 : ¬ ((s : Int) + (m : Int)) < h.length ∨ (((s : Int) + (m : Int)) < h.length ∧ ¬ ((s : Int) + (m : Int)) < (s : Int) + (p.many : Int)) := by omega
            clear hends
            rcases hend2 with he | ⟨he1, he2⟩
            · go_wp2_with (at_builtin; refine wpList_append1G rfl _ _ 26 29 elSlA rfl w.heap.size _ LS.length _ rfl hO2 #[.slice la pl lc] rfl (by simp; rfl) 29 rfl (by omega) (by omega) hB0 ?_; intro v' w' hown' hg')
              go_roundw
              case rel =>
                refine ⟨k + 1, _, rfl, by omega, by go_num, ?_, ?_⟩
                · rw [HTK.out, ← HLS.out]
                  refine PcR.snoc (x := (la, lc, pieceJ h p)) hbr.size HE.out HA.out HB.out HX.out hO2 hg' ?_
                  show w'.ownsRow _ _ _ _ _ (_ ++ [.slice la (pieceJ h p).length lc])
                  rw [HPL.out]
                  exact hown'
                · exact ((hbr.trans (HB.out.mono hbr.size)).alloc hB0 _).grown hg' (by simp; omega) (fun k e => (hO2.lt k e).1)
              case measure => simp [Go.RowKit.intOf]; omega
            · go_wp2_with (at_builtin; refine wpList_append1G rfl _ _ 26 29 elSlA rfl w.heap.size _ LS.length _ rfl hO2 #[.slice la pl lc] rfl (by simp; rfl) 29 rfl (by omega) (by omega) hB0 ?_; intro v' w' hown' hg')
              go_roundw
              case rel =>
                refine ⟨k + 1, _, rfl, by omega, by go_num, ?_, ?_⟩
                · rw [HTK.out, ← HLS.out]
                  refine PcR.snoc (x := (la, lc, pieceJ h p)) hbr.size HE.out HA.out HB.out HX.out hO2 hg' ?_
                  show w'.ownsRow _ _ _ _ _ (_ ++ [.slice la (pieceJ h p).length lc])
                  rw [HPL.out]
                  exact hown'
                · exact ((hbr.trans (HB.out.mono hbr.size)).alloc hB0 _).grown hg' (by simp; omega) (fun k e => (hO2.lt k e).1)
              case measure => simp [Go.RowKit.intOf]; omega
    · obtain rfl : k = l.length := by omega
      rw [List.take_length] at hP
      go_wp2
      go_ret
      exact ⟨⟨_, rfl, hP⟩, hbr⟩
end Go.Proofs.Ytkkoookmnnmiiaa

namespace Go.Proofs.Ytkkoookmnnmiiaa
open Go.RowKit

section
variable {h : List En} {l : List Pc} {L : List (List Ap)}
theorem mayE_kind {e : En} (he : mayE e = true) : e.kind ≠ 0 := by
  intro hk
  unfold mayE at he
  rw [hk] at he
  simp at he
theorem mayE_of {k : Nat} (hm : ∀ i (hi : i < h.length), mayE h[i] = true) (hk : k < h.length) : mayE (h.getD k zeroE) = true := by
  rw [List.getD_eq_getElem?_getD, List.getElem?_eq_getElem hk]
  exact hm k hk
def seqE (e : En) (s : Int) : En := ⟨e.kind, e.cli, s, e.op⟩
/-- What comes of one entry that is turned. -/
theorem pieces_turn (hm : ∀ i (hi : i < h.length), mayE h[i] = true) (hL : piecesJ h l = L) {wh t : Nat} (hw : wh < L.length) (ht : t < L[wh].length) (hx : noneE L[wh][t].e = false) {s : Int} (hs : s ≠ L[wh][t].e.seq) :
    (manyJ L.flatten L[wh][t].idx < 2 → agreeJ (flatJ (L.set wh (L[wh].set t ⟨L[wh][t].idx, seqE L[wh][t].e s⟩))) = true) ∧
    (¬ manyJ L.flatten L[wh][t].idx < 2 → agreeJ (flatJ (L.set wh (L[wh].set t ⟨L[wh][t].idx, seqE L[wh][t].e s⟩))) = false ∧ firstOdd (flatJ (L.set wh (L[wh].set t ⟨L[wh][t].idx, seqE L[wh][t].e s⟩))) = L[wh][t].idx) := by
  obtain ⟨X, Y, e1, e2⟩ := set_flatten hw ht ⟨L[wh][t].idx, seqE L[wh][t].e s⟩
  have hmem : ∀ y ∈ L.flatten, noneE y.e = false → ∃ k : Nat, k < h.length ∧ y = entP h k := fun y hy hn => by
    refine pieces_flat (l := l) ?_
    rw [hL]
    exact flat_mem.2 ⟨List.mem_flatten.1 hy, hn⟩
  have hxm : L[wh][t] ∈ L.flatten := List.mem_flatten.2 ⟨_, List.getElem_mem hw, List.getElem_mem ht⟩
  have hne : seqE L[wh][t].e s ≠ L[wh][t].e := fun e => hs (congrArg En.seq e)
  have hnn : noneE (seqE L[wh][t].e s) = false := by
    obtain ⟨k, hk, e⟩ := hmem _ hxm hx
    have h1 := mayE_kind (mayE_of hm hk)
    unfold noneE
    rw [eqE_no]
    intro e3
    have e4 := congrArg En.kind e3
    rw [e] at e4
    exact h1 e4
  have key := turn_told (X := X) (Y := Y) (x := L[wh][t]) (x' := ⟨L[wh][t].idx, seqE L[wh][t].e s⟩) (H := fun i => h.getD (i - 1).toNat zeroE) (fun y hy hn => by
    rw [← e1] at hy
    obtain ⟨k, hk, rfl⟩ := hmem y hy hn
    unfold entP
    simp only
    rw [show (((k + 1 : Nat) : Int) - 1).toNat = k by omega]) hx rfl hne hnn
  rw [← e1] at key
  unfold flatJ
  rw [e2]
  exact key
theorem many_app (a b : List Ap) (i : Int) : manyJ (a ++ b) i = manyJ a i + manyJ b i := by
  unfold manyJ
  rw [List.filter_append, List.length_append]
/-- How many were counted. -/
def cntJ (L : List (List Ap)) (i : Int) (k j : Nat) : Nat := manyJ ((L.take k).flatten ++ (L.getD k []).take j) i
theorem cntJ_zero (i : Int) : cntJ L i 0 0 = 0 := by simp [cntJ, manyJ]
theorem cntJ_next {i : Int} {k : Nat} (hk : k < L.length) : cntJ L i (k + 1) 0 = cntJ L i k L[k].length := by
  unfold cntJ
  rw [List.take_zero, List.append_nil, List.take_succ_eq_append_getElem hk, List.flatten_append, List.getD_eq_getElem?_getD, List.getElem?_eq_getElem hk]
  simp
theorem cntJ_succ {i : Int} {k j : Nat} (hk : k < L.length) (hj : j < L[k].length) : cntJ L i k (j + 1) = cntJ L i k j + (if L[k][j].idx = i ∧ noneE L[k][j].e = false then 1 else 0) := by
  unfold cntJ
  rw [List.getD_eq_getElem?_getD, List.getElem?_eq_getElem hk, Option.getD_some, List.take_succ_eq_append_getElem hj, ← List.append_assoc, many_app _ [L[k][j]]]
  congr 1
  unfold manyJ
  rw [List.filter_cons]
  by_cases h1 : L[k][j].idx = i
  · cases h2 : noneE L[k][j].e <;> simp [h1]
  · simp [h1]
theorem cntJ_all (i : Int) : cntJ L i L.length 0 = manyJ L.flatten i := by
  unfold cntJ
  rw [List.take_length, List.take_zero, List.append_nil]
theorem cntJ_le (i : Int) (k j : Nat) : cntJ L i k j ≤ L.flatten.length := by
  have h1 : manyJ L.flatten i = cntJ L i L.length 0 := (cntJ_all i).symm
  by_cases hk : k < L.length
  · have e : L.flatten = (L.take k).flatten ++ (L.getD k []).take j ++ ((L.getD k []).drop j ++ (L.drop (k + 1)).flatten) := by
      have e1 : L = L.take k ++ L[k] :: L.drop (k + 1) := by rw [← List.drop_eq_getElem_cons hk, List.take_append_drop]
      have e2 : L.getD k [] = L[k] := by rw [List.getD_eq_getElem?_getD, List.getElem?_eq_getElem hk]; rfl
      rw [e2]
      conv => lhs; rw [e1]
      rw [List.flatten_append, List.flatten_cons]
      have e3 : L[k] = L[k].take j ++ L[k].drop j := (List.take_append_drop j L[k]).symm
      have e4 : L[k] ++ (L.drop (k + 1)).flatten = L[k].take j ++ (L[k].drop j ++ (L.drop (k + 1)).flatten) := by
        conv => lhs; rw [e3]
        rw [List.append_assoc]
      rw [e4, List.append_assoc]
    have h2 : ((L.take k).flatten ++ (L.getD k []).take j).length ≤ L.flatten.length := by
      have e5 := congrArg List.length e
      rw [List.length_append (bs := (L.getD k []).drop j ++ (L.drop (k + 1)).flatten)] at e5
      omega
    unfold cntJ manyJ
    exact Nat.le_trans (List.length_filter_le _ _) h2
  · have e2 : L.getD k [] = [] := by rw [List.getD_eq_getElem?_getD, List.getElem?_eq_none (by omega)]; rfl
    unfold cntJ manyJ
    rw [e2, List.take_nil, List.append_nil, List.take_of_length_le (by omega)]
    exact List.length_filter_le _ _
theorem pieces_len (hl : L = piecesJ h l) : L.length = l.length := by
  rw [hl]
  simp [piecesJ]
theorem piece_len (h : List En) (p : Pc) : (pieceJ h p).length ≤ h.length + 1 := by
  have := headP_len h p
  unfold pieceJ
  rw [List.length_append, restP_len]
  unfold lenP
  omega
theorem pieces_each {x : List Ap} (hx : x ∈ piecesJ h l) : x.length ≤ h.length + 1 ∧ ∃ p, x = pieceJ h p := by
  unfold piecesJ at hx
  obtain ⟨p, _, rfl⟩ := List.mem_map.1 hx
  exact ⟨piece_len h p, p, rfl⟩
theorem piece_ok (h40 : h.length ≤ 40) {p : Pc} {x : Ap} (hx : x ∈ pieceJ h p) : okI x := by
  have hs := startP_le h p
  have key : ∀ n : Nat, n ≤ 1000 → (Lit.int .i64 (n : Int)).wf = true := fun n hn => by
    have e1 : IntKind.i64.min = -9223372036854775808 := by decide
    have e2 : IntKind.i64.max = 9223372036854775807 := by decide
    simp [Lit.wf, e1, e2]
    omega
  rcases piece_mem hx with ⟨rfl, _⟩ | ⟨k, hk, rfl⟩
  · exact key _ (by omega)
  · exact key (k + 1) (by omega)
/-- What stands in what was chosen. -/
structure ChoS (h : List En) (C : List Ap) : Prop where
  at_ : ∀ k (hk : k < C.length), ∃ q : Nat, ∃ hq : q < h.length, C[k] = ⟨((q + 1 : Nat) : Int), h[q]⟩
  up : ∀ k (hk : k + 1 < C.length), C[k].idx < C[k + 1].idx
theorem cho_s : ChoS h (chosenJ (flatJ (piecesJ h l))) := by
  refine ⟨fun k hk => ?_, fun k hk => ?_⟩
  · obtain ⟨q, hq, e⟩ := pieces_chosen (List.getElem_mem hk)
    refine ⟨q, hq, ?_⟩
    rw [e]
    unfold entP
    rw [List.getD_eq_getElem?_getD, List.getElem?_eq_getElem hq]
    rfl
  · exact List.pairwise_iff_getElem.1 (chosen_rises _) k (k + 1) (by omega) hk (by omega)
end
end Go.Proofs.Ytkkoookmnnmiiaa

namespace Go.Proofs.Ytkkoookmnnmiiaa
open Go.RowKit

theorem aps_set : ∀ {l : List Ap} {t : Nat} (ht : t < l.length) (s : Int), aps (l.set t ⟨l[t].idx, seqE l[t].e s⟩) = (aps l).set (t * 8 + 3) (.int .i64 s)
  | x :: l, 0, _, s => by
    simp only [List.set_cons_zero, List.getElem_cons_zero]
    unfold aps
    rw [List.flatMap_cons, List.flatMap_cons]
    rfl
  | x :: l, t + 1, ht, s => by
    have ih := aps_set (l := l) (t := t) (by simpa using ht) s
    simp only [List.set_cons_succ, List.getElem_cons_succ]
    unfold aps at ih ⊢
    rw [List.flatMap_cons, List.flatMap_cons, ih, List.set_append_right _ _ (by rw [apC_len]; omega), apC_len, show (t + 1) * 8 + 3 - 8 = t * 8 + 3 by omega]
/-- Lists in memory, each in a block of its own. -/
structure PcL (w : World) (B : Nat) (v : Value) (LS : List PartA) : Prop where
  own : w.ownsRow B 29 1 v LS.length (LS.map partA)
  each : ∀ x ∈ LS, OwnA w B x
  apart : LS.Pairwise apartA
theorem PcL.below {w w' : World} {B : Nat} {v : Value} {LS : List PartA} (h : PcL w B v LS) (hb : Below w.heap.size w w') : PcL w' B v LS :=
  ⟨owns_bl h.own hb, fun x hx => owns_bl (h.each x hx) hb, h.apart⟩
theorem PcL.parts {w : World} {B : Nat} {v : Value} {LS : List PartA} (h : PcL w B v LS) : ∃ a c, v = .slice a LS.length c ∧ PartsA w a LS := by
  obtain ⟨a, c, rfl, hR, _⟩ := Row.of_owns h.own
  exact ⟨a, c, rfl, ⟨hR, fun x hx => (h.each x hx).sla⟩⟩
def turnL (LS : List PartA) (wh t : Nat) (hw : wh < LS.length) (ht : t < LS[wh].2.2.length) (s : Int) : List PartA :=
  LS.set wh (LS[wh].1, LS[wh].2.1, LS[wh].2.2.set t ⟨LS[wh].2.2[t].idx, seqE LS[wh].2.2[t].e s⟩)
theorem turnL_lst {LS : List PartA} {wh t : Nat} {hw : wh < LS.length} {ht : t < LS[wh].2.2.length} {s : Int} : lstA (turnL LS wh t hw ht s) = (lstA LS).set wh (LS[wh].2.2.set t ⟨LS[wh].2.2[t].idx, seqE LS[wh].2.2[t].e s⟩) := by
  unfold lstA turnL
  rw [List.map_set]
theorem turnL_len {LS : List PartA} {wh t : Nat} {hw : wh < LS.length} {ht : t < LS[wh].2.2.length} {s : Int} : (turnL LS wh t hw ht s).length = LS.length := by
  unfold turnL
  rw [List.length_set]
theorem turnL_map {LS : List PartA} {wh t : Nat} {hw : wh < LS.length} {ht : t < LS[wh].2.2.length} {s : Int} : (turnL LS wh t hw ht s).map partA = LS.map partA := by
  unfold turnL
  rw [List.map_set]
  refine List.ext_getElem (by simp) fun i h1 h2 => ?_
  by_cases hi : wh = i
  · subst hi
    simp [partA]
  · simp [List.getElem_set_ne hi]
theorem cell_other {w : World} {p q : Addr} {v : Value} (h : p.block ≠ q.block) : (w.setCell q v).cell? p = w.cell? p := World.cell?_setCell_other w _ _ _ (fun e => h (by rw [e]))
theorem Row.other {w : World} {a : Option Addr} {xs : List Value} {q : Addr} {v : Value} (h : Row w a xs) (hq : ∀ b off, a = some ⟨b, off, none⟩ → xs ≠ [] → b ≠ q.block) : Row (w.setCell q v) a xs := by
  rcases h with h | ⟨b, off, ha, hc⟩
  · exact .inl h
  · by_cases hx : xs = []
    · exact .inl hx
    · exact .inr ⟨b, off, ha, fun i u hu => (cell_other (hq b off ha hx)).trans (hc i u hu)⟩
theorem own_block {w : World} {B n size : Nat} {e : TypeId} {a : Option Addr} {c : Nat} {xs : List Value} {b off : Nat} (h : w.ownsRow B e size (.slice a n c) n xs) (ha : a = some ⟨b, off, none⟩) : ∃ cur, w.heap[b]? = some (.cells cur e (0, 0)) ∧ off = 0 := by
  rcases h.2 with ⟨hv, _⟩ | ⟨g', cap, cur, hv, _, h3, _⟩
  · injection hv with e1
    rw [ha] at e1
    cases e1
  · injection hv with e1
    rw [ha] at e1
    injection e1 with e1
    injection e1 with e1 e2
    subst e1 e2
    exact ⟨cur, h3, rfl⟩
theorem PcL.turn {w : World} {B : Nat} {a : Option Addr} {c : Nat} {LS : List PartA} (h : PcL w B (.slice a LS.length c) LS) {wh t : Nat} (hw : wh < LS.length) (ht : t < LS[wh].2.2.length) (s : Int) {b off : Nat} (ha : LS[wh].1 = some ⟨b, off, none⟩) :
    PartsA (w.setCell ⟨b, off + t * 8 + 3, none⟩ (.int .i64 s)) a (turnL LS wh t hw ht s) := by
  have hwo := h.each _ (List.getElem_mem hw)
  obtain ⟨curb, hcb, rfl⟩ := own_block hwo ha
  have hP := h.parts
  obtain ⟨a', c', hv, hP⟩ := hP
  injection hv with e1 _ e3
  subst e1 e3
  refine ⟨?_, fun y hy => ?_⟩
  · rw [turnL_map]
    refine hP.row.other fun b2 off2 ha2 hne e => ?_
    obtain ⟨cur2, hc2, _⟩ := own_block h.own ha2
    rw [e] at hc2
    simp only at hc2
    rw [hcb] at hc2
    cases hc2
  · obtain ⟨j, hj, rfl⟩ := List.getElem_of_mem hy
    have hjl : j < LS.length := by rw [turnL_len] at hj; exact hj
    by_cases hjw : wh = j
    · subst hjw
      have hS := hP.each _ (List.getElem_mem hw)
      have e : (turnL LS wh t hw ht s)[wh] = (LS[wh].1, LS[wh].2.1, LS[wh].2.2.set t ⟨LS[wh].2.2[t].idx, seqE LS[wh].2.2[t].e s⟩) := by
        unfold turnL
        exact List.getElem_set_self _
      rw [e]
      refine ⟨?_, by simp only [List.length_set]; exact hS.le, hS.mx, hS.nil⟩
      simp only
      rw [aps_set ht s]
      rcases hS.row with h0 | ⟨b2, o2, ha2, hc⟩
      · have hlen : (aps LS[wh].2.2).length = LS[wh].2.2.length * 8 := hwo.1
        rw [h0] at hlen
        simp only [List.length_nil] at hlen
        omega
      · rw [ha] at ha2
        injection ha2 with ha2
        injection ha2 with h1 h2
        subst h1 h2
        refine .inr ⟨b, 0, ha, fun i u hu => ?_⟩
        have hlen : (aps LS[wh].2.2).length = LS[wh].2.2.length * 8 := hwo.1
        have hlt : t * 8 + 3 < (aps LS[wh].2.2).length := by rw [hlen]; omega
        rw [List.getElem?_set] at hu
        by_cases hi : t * 8 + 3 = i
        · subst hi
          rw [if_pos rfl, if_pos hlt] at hu
          cases hu
          have hold := hc _ _ (List.getElem?_eq_getElem hlt)
          rw [show 0 + (t * 8 + 3) = 0 + t * 8 + 3 by omega] at hold ⊢
          exact World.cell?_setCell_same w _ _ hold
        · rw [if_neg hi] at hu
          rw [World.cell?_setCell_other w _ _ _ (fun e => hi (by injection e with _ e2; omega))]
          exact hc i u hu
    · have e : (turnL LS wh t hw ht s)[j] = LS[j] := by
        unfold turnL
        exact List.getElem_set_ne hjw _
      rw [e]
      have hS := hP.each _ (List.getElem_mem hjl)
      refine ⟨hS.row.other fun b2 off2 ha2 hne e2 => ?_, hS.le, hS.mx, hS.nil⟩
      have hap : apartA LS[wh] LS[j] ∨ apartA LS[j] LS[wh] := by
        rcases Nat.lt_or_gt_of_ne hjw with hlt | hgt
        · exact .inl (List.pairwise_iff_getElem.1 h.apart wh j hw hjl hlt)
        · exact .inr (List.pairwise_iff_getElem.1 h.apart j wh hjl hw hgt)
      have o1 : (partA LS[wh]).ownBlock = some b := by unfold partA; rw [ha]; rfl
      have o2 : (partA LS[j]).ownBlock = some b := by
        unfold partA
        rw [ha2]
        exact congrArg some e2
      rcases hap with hap | hap
      · exact hap b o1 o2
      · exact hap b o2 o1
/-- All that the law wants of one entry that is turned. -/
theorem turn_all {w : World} {B : Nat} {a : Option Addr} {c xb xo xc : Nat} {LS : List PartA} {h : List En} {l : List Pc} {xl : List Ap} {y : Ap} (hP : PcL w B (.slice a LS.length c) LS) (hL : lstA LS = piecesJ h l) (hm : ∀ i (hi : i < h.length), mayE h[i] = true) {wh t : Nat} (hw : wh < LS.length) (hx : LS[wh] = (some ⟨xb, xo, none⟩, xc, xl)) (ht : t < xl.length) (hy : xl[t] = y) (hn : noneE y.e = false) {s : Int} (hs : s ≠ y.e.seq) {N : Nat} (hlen : ∀ x ∈ LS, x.2.2.length ≤ N) (hok : ∀ x ∈ LS, ∀ y ∈ x.2.2, okI y) :
    ∃ LT : List PartA, LT.length = LS.length ∧ PartsA (w.setCell ⟨xb, xo + t * 8 + 3, none⟩ (.int .i64 s)) a LT ∧ (∀ x ∈ LT, x.2.2.length ≤ N) ∧ (∀ x ∈ LT, ∀ y ∈ x.2.2, okI y) ∧
      (manyJ (lstA LS).flatten y.idx < 2 → agreeJ (flatJ (lstA LT)) = true) ∧ (¬ manyJ (lstA LS).flatten y.idx < 2 → agreeJ (flatJ (lstA LT)) = false ∧ firstOdd (flatJ (lstA LT)) = y.idx) := by
  have ht2 : t < LS[wh].2.2.length := by rw [hx]; exact ht
  have hy2 : LS[wh].2.2[t] = y := by
    have : ∀ (z : PartA) (hz : z = (some ⟨xb, xo, none⟩, xc, xl)) (hz2 : t < z.2.2.length), z.2.2[t] = y := fun z hz hz2 => by
      subst hz
      exact hy
    exact this _ hx ht2
  have hlw : wh < (lstA LS).length := by simpa [lstA] using hw
  have hle : (lstA LS)[wh] = LS[wh].2.2 := by simp [lstA]
  refine ⟨turnL LS wh t hw ht2 s, turnL_len, hP.turn hw ht2 s (by rw [hx]), fun z hz => ?_, fun z hz u hu => ?_, ?_⟩
  · unfold turnL at hz
    rcases List.mem_or_eq_of_mem_set hz with hz | rfl
    · exact hlen z hz
    · simp only [List.length_set]
      exact hlen _ (List.getElem_mem hw)
  · unfold turnL at hz
    rcases List.mem_or_eq_of_mem_set hz with hz | rfl
    · exact hok z hz u hu
    · simp only at hu
      rcases List.mem_or_eq_of_mem_set hu with hu | rfl
      · exact hok _ (List.getElem_mem hw) u hu
      · have h9 := hok _ (List.getElem_mem hw) _ (List.getElem_mem ht2)
        exact h9
  · rw [turnL_lst]
    have key := @pieces_turn h l (lstA LS) hm hL.symm wh t hlw (by rw [hle]; exact ht2)
    simp only [hle, hy2] at key ⊢
    exact key hn hs
theorem seq_ne (x : Int) : wrap64 (x + 1) ≠ x := by
  unfold wrap64
  omega
end Go.Proofs.Ytkkoookmnnmiiaa

namespace Go.Proofs.Ytkkoookmnnmiiaa
open Go.RowKit

theorem rightG {a : Option Addr} {l : List Ap} {c : Nat} {w : World} (ha : Row w a (aps l)) (hl : l.length ≤ 1000000000000) {g : Bool} (hg : rightJ l = g) : Calls Try.prog 11 #[.slice a l.length c] w fun e w' => e = .returned (.bool g) ∧ Below w.heap.size w w' := by
  subst hg
  exact right_any ha hl
theorem cntJ_succ2 {L : List (List Ap)} {i : Int} {k j : Nat} {zl : List Ap} {v : Ap} (hk : k < L.length) (hz : L[k] = zl) (hj : j < zl.length) (hv : zl[j] = v) {r1 r2 : Bool} (h1 : (v.idx == i) = r1) (h2 : noneE v.e = r2) : cntJ L i k (j + 1) = cntJ L i k j + (if r1 = true ∧ r2 = false then 1 else 0) := by
  subst hz hv h1 h2
  rw [cntJ_succ hk hj]
  simp only [beq_iff_eq]
set_option maxRecDepth 100000 in
theorem run_eqE0 (e : En) (w : World) : (binOp .eql 34 (.agg (enA e)) (.agg #[.int .u8 0, .int .i64 0, .int .i64 0, .int .u8 0, .string ⟨#[]⟩, .string ⟨#[]⟩, .string ⟨#[]⟩])).run Try.prog w = .ok (.bool (noneE e)) w := by
  show (binOp .eql 34 (.agg (enA e)) (.agg (enA zeroE))).run Try.prog w = .ok (.bool (eqE e zeroE)) w
  rw [← eqE_lit]
  obtain ⟨kd0, cl0, sq0, ⟨ok0, key0, old0, val0⟩⟩ := e
  unfold enA zeroE
  have h := eqEntry kd0 0 cl0 0 sq0 0 ok0 0 key0 old0 val0 ⟨#[]⟩ ⟨#[]⟩ ⟨#[]⟩ w
  simp only at h ⊢
  generalize (kd0 == 0 && cl0 == 0 && sq0 == 0 && (ok0 == 0 && key0.toList == ByteArray.toList ⟨#[]⟩ && old0.toList == ByteArray.toList ⟨#[]⟩ && val0.toList == ByteArray.toList ⟨#[]⟩)) = r at *
  go_simp
theorem run_neE0 (e : En) (w : World) : (binOp .neq 34 (.agg (enA e)) (.agg #[.int .u8 0, .int .i64 0, .int .i64 0, .int .u8 0, .string ⟨#[]⟩, .string ⟨#[]⟩, .string ⟨#[]⟩])).run Try.prog w = .ok (.bool (!noneE e)) w := run_neE e zeroE w
theorem run_gE0 (x y : Operand) (u v : Array Value) (w : World) : (eqGuard .eql 34 x y (.agg u) (.agg v)).run Try.prog w = .ok () w := by
  have h : Try.prog.eqGuardType Try.prog.depth 34 = false := by kernel_rfl
  unfold eqGuard
  go_simp
set_option maxRecDepth 100000 in
set_option maxHeartbeats 8000000 in
theorem pieces_law (a b : Option Addr) (c d : Nat) (h : List En) (l : List Pc) (which at_ : Int) (w : World) (hhr : Row w a (ensJ h)) (hpr : Row w b (pcsJ l)) (hl : h.length ≤ 9223372036854775807) (hp : l.length ≤ 9223372036854775807) (hok : ∀ y ∈ l, okPc y) :
    Calls Try.prog 3 #[.slice a h.length c, .slice b l.length d, .int .i64 which, .int .i64 at_] w fun e w' => e = .returned (.bool true) ∧ Below w.heap.size w w' := by
  have HOK := Lib.hid hok
  have HPR := Lib.hid hpr
  clear hok hpr
  go_enter Try.func3, Try.ntmps3
  go_wp2_with fail
  go_at_call 8
  refine (awake_any _).mono ?_
  rintro e w1 ⟨rfl, hb1⟩
  go_wp2_with fail
  go_at_call 9
  refine (oddJ_any (hhr.below0 hb1) hl hp).mono ?_
  rintro e w2 ⟨⟨r, rfl, hr⟩, hb2⟩
  have hw2 := hb1.trans (hb2.mono hb1.size)
  clear hb1 hb2
  cases r
  case true =>
    go_wp2
    go_ret
    exact ⟨rfl, hw2⟩
  case false =>
    obtain ⟨h40, h8, hmay⟩ := hr rfl
    have HM := Lib.hid hmay
    clear hr hmay
    go_wp2_with fail
    go_at_call 10
    refine (pieces_any (hhr.below0 hw2) (HPR.out.below0 hw2) h40 h8 HOK.out).mono ?_
    rintro e w3 ⟨⟨v3, rfl, LS, hO, hLS, hE, hA⟩, hb3⟩
    have hw3 := hw2.trans (hb3.mono hw2.size)
    have hsz2 := hw2.size
    have hPL : PcL w3 w2.heap.size v3 LS := ⟨hO, hE, hA⟩
    obtain ⟨la, lc, rfl, hPP⟩ := hPL.parts
    have HPL := Lib.hid hPL
    have HP := Lib.hid hPP
    have HLS := Lib.hid hLS
    have hLl : LS.length = l.length := by
      have := congrArg List.length hLS
      unfold lstA piecesJ at this
      rw [List.length_map, List.length_map] at this
      exact this
    have hL8 : LS.length ≤ 8 := by omega
    have HEACH := Lib.hid (show ∀ x ∈ LS, x.2.2.length ≤ 41 ∧ ∃ p, x.2.2 = pieceJ h p from fun x hx => by
      have h1 : x.2.2 ∈ piecesJ h l := by
        rw [← hLS]
        exact List.mem_map.2 ⟨x, hx, rfl⟩
      obtain ⟨h2, h3⟩ := pieces_each h1
      exact ⟨by omega, h3⟩)
    have HOKI := Lib.hid (show ∀ x ∈ LS, ∀ y ∈ x.2.2, okI y from fun x hx y hy => by
      obtain ⟨_, p, hp⟩ := HEACH.out x hx
      rw [hp] at hy
      exact piece_ok h40 hy)
    have HL2 := Lib.hid (show ∀ x ∈ LS, x.2.2.length ≤ 1000000 from fun x hx => by have := (HEACH.out x hx).1; omega)
    have HCS := Lib.hid (cho_s (h := h) (l := l))
    have HAG := Lib.hid (show agreeJ (flatJ (lstA LS)) = true by rw [hLS]; exact pieces_agree)
    have HFO := Lib.hid (agree_first HAG.out)
    clear hO hLS hE hA hPL hPP hLl h8 hb3 hw2 HPR
    go_wp2
    go_loopw [10] (fun i wr => ∃ k : Nat, k ≤ LS.length ∧ i = .int .i64 k ∧ Below w3.heap.size w3 wr) (fun i _ => LS.length - (Go.RowKit.intOf i).toNat)
    case atStart => exact ⟨0, by omega, rfl, Below.refl _ _⟩
    case round =>
      obtain ⟨k, hk, rfl, hbr⟩ := hrel
      by_cases hlt : k < LS.length
      · obtain ⟨b1, o1, rfl, cx⟩ := (HP.out.below hbr).at hlt
        have hS := (HP.out.below hbr).each _ (List.getElem_mem hlt)
        obtain ⟨hl41, p, hpe⟩ := HEACH.out _ (List.getElem_mem hlt)
        have hR := rightG (c := LS[k].2.1) hS.row (by omega) (g := true) (by rw [hpe]; exact piece_right HM.out h40)
        clear hS hpe
        generalize LS[k] = x at *
        obtain ⟨x1, xc, xl⟩ := x
        simp only at cx hl41 hR
        go_wp2_with fail
        go_at_call 11
        refine hR.mono ?_
        rintro e wA ⟨rfl, hbA⟩
        go_wp2
        go_roundw
        case rel => exact ⟨k + 1, by omega, by go_num, hbr.trans (hbA.mono hbr.size)⟩
        case measure => simp [Go.RowKit.intOf]; omega
      · obtain rfl : k = LS.length := by omega
        generalize wr = w4 at *
        have hw4 := hw3.trans (hbr.mono hw3.size)
        go_wp2_with fail
        go_at_call 12
        refine (chosenG (HP.out.below hbr) lc (by omega) HL2.out HOKI.out rfl).mono ?_
        rintro e w5 ⟨⟨ca, cc, rfl, hCR⟩, hb5⟩
        rw [HLS.out] at hCR ⊢
        have hCB : (chosenJ (flatJ (piecesJ h l))).length ≤ 1000000000000 := by
          have := chosen_bound (ls := LS) (by omega) HL2.out
          rw [HLS.out] at this
          exact this
        have hCN : LS.length = 0 → (chosenJ (flatJ (piecesJ h l))).length = 0 := fun e => by
          have e2 := HLS.out
          rw [List.eq_nil_of_length_eq_zero e] at e2
          rw [← e2]
          rfl
        have HCN := Lib.hid hCN
        have HC := HCS.out
        generalize chosenJ (flatJ (piecesJ h l)) = C at *
        have hw5 := hw4.trans (hb5.mono hw4.size)
        have hb35 := hbr.trans (hb5.mono hbr.size)
        have HCS2 := Lib.hid HC
        clear HC HCS hb5 hbr hw4 hCN hlt hk
        go_wp2
        go_loopw [12] (fun i wr => ∃ k : Nat, k ≤ C.length ∧ i = .int .i64 k ∧ Below w5.heap.size w5 wr) (fun i _ => C.length - (Go.RowKit.intOf i).toNat)
        case atStart => exact ⟨0, by omega, rfl, Below.refl _ _⟩
        case round =>
          obtain ⟨k, hk, rfl, hbr⟩ := hrel
          by_cases hlt : k < C.length
          · have hHr := (hhr.below0 hw5).below0 hbr
            obtain ⟨q, hq, hCq⟩ := HCS2.out.at_ k hlt
            obtain ⟨b1, o1, rfl, hbl1, x0, x1, x2, x3, x4, x5, x6, x7⟩ := ap_cells (hCR.below0 hbr) hlt
            obtain ⟨b2, o2, rfl, hbl2, y0, y1, y2, y3, y4, y5, y6⟩ := en_cells hHr hq
            obtain ⟨ix, hix⟩ : ∃ ix : Int, ((q + 1 : Nat) : Int) = ix := ⟨_, rfl⟩
            have i1 : decide (ix < 1) = false := by rw [decide_eq_false_iff_not]; omega
            have i2 : decide ((h.length : Int) < ix) = false := by rw [decide_eq_false_iff_not]; omega
            have i3 : wrap64 (ix - 1) = (q : Int) := by unfold wrap64; omega
            rw [hix] at hCq
            have HUP := Lib.hid (show ∀ j (hj : j + 1 = k) (hj2 : j < C.length), ¬ ix ≤ C[j].idx from fun j hj hj2 => by
              have := HCS2.out.up j (by omega)
              subst hj
              rw [hCq] at this
              simp only at this
              omega)
            rw [hCq] at x0 x1 x2 x3 x4 x5 x6 x7
            clear hHr hCq hix
            generalize h[q] = e at *
            have hne := fun w => run_neE e e w
            rw [eqE_self] at hne
            have hgu := fun p q w => run_gE p q (enA e) (enA e) w
            simp only [enA] at hne hgu
            cases k with
            | zero =>
              simp only [Nat.zero_mul, Nat.add_zero] at x0 x1 x2 x3 x4 x5 x6 x7
              go_wp2
              go_big_quiet (fail)
              go_wp2
              go_roundw
              case rel => exact ⟨1, by omega, by go_num, below_drewN hbr _⟩
              case measure => simp [Go.RowKit.intOf]; omega
            | succ j =>
              obtain ⟨b3, o3, e3, hbl3, z0, _⟩ := ap_cells (hCR.below0 hbr) (show j < C.length by omega)
              cases e3
              have hup := HUP.out j rfl (by omega)
              generalize C[j].idx = iy at *
              have i4 : wrap64 ((j : Int) + 1 - 1) = (j : Int) := by unfold wrap64; omega
              have i5 : decide (ix ≤ iy) = false := by rw [decide_eq_false_iff_not]; exact hup
              have i6 : decide ((0 : Int) < (j : Int) + 1) = true := by rw [decide_eq_true_eq]; omega
              clear hup
              go_wp2
              go_big_quiet (fail)
              go_wp2
              go_roundw
              case rel => exact ⟨j + 1 + 1, by omega, by go_num, below_drewN hbr _⟩
              case measure => simp [Go.RowKit.intOf]; omega
          · generalize wr = w6 at *
            have hw6 := hw5.trans (hbr.mono hw5.size)
            have hb36 := hb35.trans (hbr.mono hb35.size)
            obtain rfl : k = C.length := by omega
            clear hb35 hbr hlt hk hw5 hCR HCS2 hw3
            go_wp2_with fail
            go_at_call 13
            refine (agreeG (HP.out.below hb36) lc (by omega) HL2.out HOKI.out HAG.out).mono ?_
            rintro e w7 ⟨rfl, hb7⟩
            have hb37 := hb36.trans (hb7.mono hb36.size)
            have hw7 := hw6.trans (hb7.mono hw6.size)
            go_wp2_with fail
            go_at_call 14
            refine (firstG (HP.out.below hb37) lc (by omega) HL2.out HOKI.out HFO.out).mono ?_
            rintro e w8 ⟨rfl, hb8⟩
            have hb38 := hb37.trans (hb8.mono hb37.size)
            have hw8 := hw7.trans (hb8.mono hw7.size)
            clear hb36 hb37 hw6 hw7 hb7 hb8
            by_cases h0 : LS.length = 0
            · have hC0 := HCN.out h0
              have hi0 : ((LS.length : Int) == 0) = true := by rw [beq_iff_eq]; omega
              go_wp2
              go_ret
              exact ⟨ret_bool (by simp), hw8⟩
            · have hi0 : ((LS.length : Int) == 0) = false := by rw [beq_eq_false_iff_ne]; omega
              have h0p : 0 < LS.length := by omega
              obtain ⟨wh, hwh, hwe⟩ := rot_at which h0p (by omega)
              have HPW := HP.out.below hb38
              obtain ⟨ob, oo, rfl, cw⟩ := HPW.at hwh
              have hwx := HPL.out.each _ (List.getElem_mem hwh)
              have hw41 := (HEACH.out _ (List.getElem_mem hwh)).1
              obtain ⟨x, hxe⟩ : ∃ x, LS[wh]'hwh = x := ⟨_, rfl⟩
              have HX := Lib.hid hxe
              rw [hxe] at cw hw41
              obtain ⟨x1, xc, xl⟩ := x
              simp only at cw hw41
              clear hxe hwx
              by_cases hx0 : xl.length = 0
              · have hj0 : ((xl.length : Int) == 0) = true := by rw [beq_iff_eq]; omega
                go_wp2
                go_ret
                exact ⟨rfl, hw8⟩
              · have hj0 : ((xl.length : Int) == 0) = false := by rw [beq_eq_false_iff_ne]; omega
                have hx0p : 0 < xl.length := by omega
                obtain ⟨t, ht, hte⟩ := rot_at at_ hx0p (by omega)
                have hrow : Row w8 x1 (aps xl) := by
                  have := (HPW.each _ (List.getElem_mem hwh)).row
                  rw [HX.out] at this
                  exact this
                obtain ⟨xb, xo, rfl, hxl, c0, c1, c2, c3, c4, c5, c6, c7⟩ := ap_cells hrow ht
                obtain ⟨y, hye⟩ : ∃ y, xl[t]'ht = y := ⟨_, rfl⟩
                have HY := Lib.hid hye
                rw [hye] at c0 c1 c2 c3 c4 c5 c6 c7
                obtain ⟨nn, hnn⟩ : ∃ nn, noneE y.e = nn := ⟨_, rfl⟩
                have heq := fun w => run_eqE0 y.e w
                rw [hnn] at heq
                have hgu0 := fun p q u v w => run_gE0 p q u v w
                simp only [enA] at heq
                have HNN := Lib.hid hnn
                clear hnn hye hrow
                cases nn
                case true =>
                  go_wp2
                  go_ret
                  exact ⟨rfl, hw8⟩
                case false =>
                  have hfl := flat_le (L := lstA LS) (b := 41) (fun z hz => by
                    obtain ⟨z2, hz2, rfl⟩ := List.mem_map.1 hz
                    exact (HEACH.out z2 hz2).1)
                  have hfl2 : (lstA LS).length * 41 ≤ 1000 := by
                    have : (lstA LS).length = LS.length := by simp [lstA]
                    omega
                  have HCL := Lib.hid (fun k j => Nat.le_trans (cntJ_le (L := lstA LS) y.idx k j) (Nat.le_trans hfl hfl2))
                  clear hfl hfl2
                  go_wp2
                  clear hwe hte
                  go_loopw [15, 16] (fun mn i wr => ∃ k : Nat, k ≤ LS.length ∧ i = .int .i64 k ∧ mn = .int .i64 ((cntJ (lstA LS) y.idx k 0 : Nat) : Int) ∧ Below w8.heap.size w8 wr) (fun _ i _ => LS.length - (Go.RowKit.intOf i).toNat)
                  case atStart => exact ⟨0, by omega, rfl, by rw [cntJ_zero]; rfl, Below.refl _ _⟩
                  case round =>
                    obtain ⟨k, hk, rfl, rfl, hbr⟩ := hrel
                    by_cases hlt : k < LS.length
                    · obtain ⟨z, hz⟩ : ∃ z, LS[k]'hlt = z := ⟨_, rfl⟩
                      have HZ := Lib.hid hz
                      have hlk : k < (lstA LS).length := by simpa [lstA] using hlt
                      have hle : (lstA LS)[k]'hlk = z.2.2 := by rw [← hz]; simp [lstA]
                      have HLE := Lib.hid hle
                      have HCN2 := Lib.hid (show cntJ (lstA LS) y.idx (k + 1) 0 = cntJ (lstA LS) y.idx k z.2.2.length by rw [cntJ_next hlk, hle])
                      have hz41 := (HEACH.out _ (List.getElem_mem hlt)).1
                      obtain ⟨ob2, oo2, e2, cz⟩ := (HPW.below hbr).at hlt
                      cases e2
                      rw [hz] at cz hz41
                      have hzrow := ((HPW.below hbr).each _ (List.getElem_mem hlt)).row
                      rw [hz] at hzrow
                      obtain ⟨z1, zc, zl⟩ := z
                      simp only at cz hz41 hzrow HLE HCN2
                      have c0' := keepJ hbr c0
                      clear hz hle
                      generalize wr = w9 at *
                      go_wp2
                      go_loopw [15, 17] (fun mn j wr2 => ∃ i : Nat, i ≤ zl.length ∧ j = .int .i64 i ∧ mn = .int .i64 ((cntJ (lstA LS) y.idx k i : Nat) : Int) ∧ Below w9.heap.size w9 wr2) (fun _ j _ => zl.length - (Go.RowKit.intOf j).toNat)
                      case atStart => exact ⟨0, by omega, rfl, rfl, Below.refl _ _⟩
                      case round =>
                        obtain ⟨i, hi, rfl, rfl, hbr2⟩ := hrel
                        have cz2 := keepJ hbr2 cz
                        have hcb := HCL.out k i
                        by_cases hli : i < zl.length
                        · obtain ⟨zb, zo, rfl, hzb, u0, u1, u2, u3, u4, u5, u6, u7⟩ := ap_cells (hzrow.below0 hbr2) hli
                          have d0 := keepJ hbr2 c0'
                          obtain ⟨v, hv⟩ : ∃ v, zl[i]'hli = v := ⟨_, rfl⟩
                          obtain ⟨r1, hr1⟩ : ∃ r1, (v.idx == y.idx) = r1 := ⟨_, rfl⟩
                          obtain ⟨r2, hr2⟩ : ∃ r2, noneE v.e = r2 := ⟨_, rfl⟩
                          have HCS := Lib.hid (cntJ_succ2 hlk HLE.out hli hv hr1 hr2)
                          have hne0 := fun w => run_neE0 v.e w
                          have hgn := fun p q u v w => run_gE p q u v w
                          rw [hr2] at hne0
                          simp only [enA] at hne0
                          rw [hv] at u0 u1 u2 u3 u4 u5 u6 u7
                          clear hv hr2
                          cases r1
                          case false =>
                            go_wp2
                            go_big_quiet (fail)
                            go_wp2
                            go_roundw
                            case rel => exact ⟨i + 1, by omega, by go_num, by rw [HCS.out]; simp, below_drewN hbr2 _⟩
                            case measure => simp [Go.RowKit.intOf]; omega
                          case true =>
                            cases r2
                            case true =>
                              go_wp2
                              go_big_quiet (fail)
                              go_wp2
                              go_roundw
                              case rel => exact ⟨i + 1, by omega, by go_num, by rw [HCS.out]; simp, below_drewN hbr2 _⟩
                              case measure => simp [Go.RowKit.intOf]; omega
                            case false =>
                              go_wp2
                              go_big_quiet (fail)
                              go_wp2
                              go_roundw
                              case rel => exact ⟨i + 1, by omega, by go_num, by rw [HCS.out]; simp, below_drewN hbr2 _⟩
                              case measure => simp [Go.RowKit.intOf]; omega
                        · obtain rfl : i = zl.length := by omega
                          go_wp2
                          go_roundw
                          case rel => exact ⟨k + 1, by omega, by go_num, by rw [HCN2.out], hbr.trans (hbr2.mono hbr.size)⟩
                          case measure => simp [Go.RowKit.intOf]; omega
                    · obtain rfl : k = LS.length := by omega
                      have hca : cntJ (lstA LS) y.idx LS.length 0 = manyJ (lstA LS).flatten y.idx := by
                        have h1 := cntJ_all (L := lstA LS) y.idx
                        rw [show (lstA LS).length = LS.length by simp [lstA]] at h1
                        exact h1
                      rw [hca]
                      have hmb := HCL.out LS.length 0
                      rw [hca] at hmb
                      generalize wr = w9 at *
                      have hb39 := hb38.trans (hbr.mono hb38.size)
                      have hw9 := hw8.trans (hbr.mono hw8.size)
                      have hTA := turn_all (HPL.out.below hb39) HLS.out HM.out hwh HX.out ht HY.out HNN.out (seq_ne y.e.seq) HL2.out HOKI.out
                      have hfr : w9.frozen? ⟨xb, xo + t * 8 + 3, none⟩ = false := by
                        obtain ⟨cur, hcur, _⟩ := own_block (HX.out ▸ (HPL.out.below hb39).each _ (List.getElem_mem hwh)) rfl
                        exact blk_frozen hcur (xo + t * 8 + 3)
                      have e3 := keepJ hbr c3
                      obtain ⟨mm, hmm⟩ : ∃ mm, manyJ (lstA LS).flatten y.idx = mm := ⟨_, rfl⟩
                      rw [hmm] at hTA hmb
                      rw [hmm]
                      have HTA := Lib.hid hTA
                      clear hca hmm hTA
                      have hxbs : w.heap.size ≤ xb := by
                        have h5 := (HPL.out.below hb39).each _ (List.getElem_mem hwh)
                        rw [HX.out] at h5
                        have h6 := (h5.lt xb rfl).1
                        exact Nat.le_trans hsz2 h6
                      have hwS := hw9.setCell (p := ⟨xb, xo + t * 8 + 1 + 2, none⟩) hxbs (.int .i64 (wrap64 (y.e.seq + 1)))
                      have d0 : (w9.setCell ⟨xb, xo + t * 8 + 1 + 2, none⟩ (.int .i64 (wrap64 (y.e.seq + 1)))).cell? ⟨xb, xo + t * 8, none⟩ = some (.int .i64 y.idx) := by
                        rw [World.cell?_setCell_other w9 _ _ _ (fun e => by injection e with _ e2; omega)]
                        exact keepJ hbr c0
                      obtain ⟨LT, l1, hPT0, l2, l3, k1, k2⟩ := HTA.out
                      have hPT : PartsA (w9.setCell ⟨xb, xo + t * 8 + 1 + 2, none⟩ (.int .i64 (wrap64 (y.e.seq + 1)))) (some ⟨ob, oo, none⟩) LT := hPT0
                      have CA := fun w' (hb : Below (w9.setCell ⟨xb, xo + t * 8 + 1 + 2, none⟩ (.int .i64 (wrap64 (y.e.seq + 1)))).heap.size (w9.setCell ⟨xb, xo + t * 8 + 1 + 2, none⟩ (.int .i64 (wrap64 (y.e.seq + 1)))) w') (g : Bool) (hg : agreeJ (flatJ (lstA LT)) = g) => agreeG (hPT.below hb) lc (by rw [l1]; omega) l2 l3 hg
                      have CF := fun w' (hb : Below (w9.setCell ⟨xb, xo + t * 8 + 1 + 2, none⟩ (.int .i64 (wrap64 (y.e.seq + 1)))).heap.size (w9.setCell ⟨xb, xo + t * 8 + 1 + 2, none⟩ (.int .i64 (wrap64 (y.e.seq + 1)))) w') (g : Int) (hg : firstOdd (flatJ (lstA LT)) = g) => firstG (hPT.below hb) lc (by rw [l1]; omega) l2 l3 hg
                      rw [l1] at CA CF
                      have HK1 := Lib.hid k1
                      have HK2 := Lib.hid k2
                      clear HTA hPT0 hPT l1 l2 l3 k1 k2 hw9 hbr
                      by_cases hm2 : mm < 2
                      · go_wp2_with fail
                        generalize w9.setCell ⟨xb, xo + t * 8 + 1 + 2, none⟩ (.int .i64 (wrap64 (y.e.seq + 1))) = wS at *
                        go_at_call 13
                        refine (CA wS (Below.refl _ _) true (HK1.out hm2)).mono ?_
                        rintro e wT ⟨rfl, hbT⟩
                        go_wp2_with fail
                        go_at_call 14
                        refine (CF wT hbT 0 (agree_first (HK1.out hm2))).mono ?_
                        rintro e wU ⟨rfl, hbU⟩
                        go_wp2
                        go_ret
                        exact ⟨rfl, (hwS.trans (hbT.mono hwS.size)).trans (hbU.mono (by have := hwS.size; have := hbT.size; omega))⟩
                      · obtain ⟨g1, g2⟩ := HK2.out hm2
                        have CA1 := fun w' hb => CA w' hb false g1
                        have CF1 := fun w' hb => CF w' hb y.idx g2
                        clear CA CF HK1 HK2 g1 g2
                        go_wp2_with fail
                        generalize w9.setCell ⟨xb, xo + t * 8 + 1 + 2, none⟩ (.int .i64 (wrap64 (y.e.seq + 1))) = wS at *
                        have U0 := under_cell d0
                        refine wp_region_under (by kernel_rfl) (by kernel_rfl) ?_
                        repeat (go_big_quiet_step ((first
                                                  | (go_at_call 13; exact under_call (CA1 _ (under_below _ _)))
                                                  | (go_at_call 14; exact under_call (CF1 _ (under_below _ _))))))
                        refine wpQuiet_nil ?_
                        intro _ hw'
                        obtain ⟨xU, hw''⟩ := hw'
                        subst hw''
                        have hbU := under_below wS xU
                        go_wp2
                        go_ret
                        exact ⟨ret_bool (by simp), hwS.trans (hbU.mono hwS.size)⟩
end Go.Proofs.Ytkkoookmnnmiiaa

