/- Plain: what the program notes is what the reference notes. -/
import Derived.Test.YtjolhdlnjdmbeaaN5
namespace Go.Proofs.Ytjolhdlnjdmbeaa
open Go.RowKit

theorem nst_filter (sn idx : Int) (l : List Int) (k : Nat) : (nst (keptB sn idx) l k).1 = (nst (liveB sn) l k).1 ∧ (nst (keptB sn idx) l k).2 = (nst (liveB sn) l k).2.filter (fun y => decide (y ≠ idx)) := by
  induction k with
  | zero => simp [nst]
  | succ k ih =>
    cases h : l[k]? with
    | none =>
      have e : ∀ p, nst p l (k + 1) = nst p l k := fun p => by unfold nst; rw [List.take_add_one, h]; simp
      rw [e, e]; exact ih
    | some x =>
      rw [nst_succ _ l k x h, nst_succ _ l k x h]
      unfold nstep
      rw [ih.1, ih.2]
      have hk : keptB sn idx x = (liveB sn x && decide (x ≠ idx)) := by
        unfold keptB liveB
        simp
      split
      · exact ih
      · rw [hk]
        cases liveB sn x
        · simp
        · by_cases hx : x = idx <;> simp [hx]

theorem nst_all (p : Int → Bool) (l : List Int) (k : Nat) : ∀ y ∈ (nst p l k).2, p y = true := by
  induction k with
  | zero => simp [nst]
  | succ k ih =>
    cases h : l[k]? with
    | none =>
      have : nst p l (k + 1) = nst p l k := by unfold nst; rw [List.take_add_one, h]; simp
      rw [this]; exact ih
    | some x =>
      rw [nst_succ p l k x h]
      unfold nstep
      split
      · exact ih
      · split
        · intro y hy
          simp only [List.mem_append, List.mem_singleton] at hy
          rcases hy with hy | rfl
          · exact ih y hy
          · assumption
        · exact ih

theorem filter_none {l : List Int} {p : Int → Bool} (h : ∀ y ∈ l, p y = false) : l.filter p = [] := by
  rw [List.filter_eq_nil_iff]
  intro y hy
  simp [h y hy]
theorem filter_all {l : List Int} {p : Int → Bool} (h : ∀ y ∈ l, p y = true) : l.filter p = l := List.filter_eq_self.2 h

/-- A rising list falls into what is below a number, that number or not, and what is above it. -/
theorem sorted_split (x : Int) : ∀ (l : List Int), l.Pairwise (· < ·) →
    l.take (bsPos l x) = l.filter (fun y => decide (y < x)) ∧ l.drop (bsPos l x) = l.filter (fun y => decide (x ≤ y)) ∧ l = l.filter (fun y => decide (y < x)) ++ l.filter (fun y => decide (x ≤ y)) ∧
    l.filter (fun y => decide (x ≤ y)) = (if x ∈ l then [x] else []) ++ l.filter (fun y => decide (x < y))
  | [], _ => by simp [bsPos]
  | a :: l, h => by
    have h' := List.pairwise_cons.1 h
    obtain ⟨i1, i2, i3, i4⟩ := sorted_split x l h'.2
    rcases Int.lt_trichotomy a x with ha | ha | ha
    · have e : bsPos (a :: l) x = bsPos l x + 1 := by unfold bsPos; rw [List.filter_cons]; simp [ha]
      have n1 : ¬ x ≤ a := by omega
      have n2 : ¬ x < a := by omega
      have n3 : ¬ x = a := by omega
      rw [e]
      simp only [List.take_succ_cons, List.drop_succ_cons, List.filter_cons, ha, n1, n2, decide_true, decide_false, if_true, Bool.false_eq_true, if_false, List.mem_cons, n3, false_or, List.cons_append]
      exact ⟨by rw [i1], i2, by rw [← i3], i4⟩
    · subst ha
      have hl : ∀ y ∈ l, a < y := h'.1
      have e : bsPos (a :: l) a = 0 := by
        unfold bsPos
        rw [filter_none]; · rfl
        intro y hy
        rcases List.mem_cons.1 hy with rfl | hy
        · simp
        · have := hl y hy; simp; omega
      have f1 : (a :: l).filter (fun y => decide (y < a)) = [] := filter_none (fun y hy => by
        rcases List.mem_cons.1 hy with rfl | hy
        · simp
        · have := hl y hy; simp; omega)
      have f2 : (a :: l).filter (fun y => decide (a ≤ y)) = a :: l := filter_all (fun y hy => by
        rcases List.mem_cons.1 hy with rfl | hy
        · simp
        · have := hl y hy; simp; omega)
      have f3 : (a :: l).filter (fun y => decide (a < y)) = l := by
        rw [List.filter_cons, if_neg (by simp), filter_all (fun y hy => by simpa using hl y hy)]
      rw [e, f1, f2, f3]
      simp
    · have hl : ∀ y ∈ l, a < y := h'.1
      have hall : ∀ y ∈ a :: l, x < y := fun y hy => by
        rcases List.mem_cons.1 hy with rfl | hy
        · exact ha
        · have := hl y hy; omega
      have e : bsPos (a :: l) x = 0 := by
        unfold bsPos
        rw [filter_none]; · rfl
        intro y hy
        have := hall y hy; simp; omega
      have f1 : (a :: l).filter (fun y => decide (y < x)) = [] := filter_none (fun y hy => by have := hall y hy; simp; omega)
      have f2 : (a :: l).filter (fun y => decide (x ≤ y)) = a :: l := filter_all (fun y hy => by have := hall y hy; simp; omega)
      have f3 : (a :: l).filter (fun y => decide (x < y)) = a :: l := filter_all (fun y hy => by simpa using hall y hy)
      have hn : x ∉ a :: l := fun hm => by have := hall x hm; omega
      rw [e, f1, f2, f3, if_neg hn]
      simp

theorem pfold_true (idx : Int) (l : List Int) (acc : List Int) : l.foldl (pstep idx) (acc, true) = (acc ++ l, true) := by
  induction l generalizing acc with
  | nil => simp
  | cons a l ih => rw [List.foldl_cons, pstep_no (.inl rfl), ih]; simp
theorem pfold_false (idx : Int) : ∀ (l : List Int) (acc : List Int), l.Pairwise (· < ·) →
    pend idx (l.foldl (pstep idx) (acc, false)) = acc ++ l.filter (fun y => decide (y ≤ idx)) ++ idx :: l.filter (fun y => decide (idx < y))
  | [], acc, _ => by simp [pend]
  | a :: l, acc, h => by
    have h' := List.pairwise_cons.1 h
    rw [List.foldl_cons]
    by_cases ha : idx < a
    · have hall : ∀ y ∈ a :: l, idx < y := fun y hy => by
        rcases List.mem_cons.1 hy with rfl | hy
        · exact ha
        · have := h'.1 y hy; omega
      rw [pstep_yes ha, pfold_true, filter_none (fun y hy => by have := hall y hy; simp; omega), filter_all (fun y hy => by simpa using hall y hy)]
      simp [pend]
    · rw [pstep_no (.inr (by omega)), pfold_false idx l _ h'.2]
      have n1 : a ≤ idx := by omega
      simp [ha, n1]
theorem pst_all (idx : Int) (l : List Int) (h : l.Pairwise (· < ·)) : pend idx (pst idx l l.length) = l.filter (fun y => decide (y ≤ idx)) ++ idx :: l.filter (fun y => decide (idx < y)) := by
  unfold pst
  rw [List.take_length, pfold_false idx l [] h, List.nil_append]

theorem note_same (sn idx : Int) (corrupt : Bool) (l : List Int) : pnoteL sn idx corrupt l = rnoteL sn idx corrupt l := by
  have hs := (nst_sorted (liveB sn) l l.length).1
  have hall := nst_all (liveB sn) l l.length
  unfold pnoteL rnoteL
  rw [(nst_filter sn idx l l.length).2]
  simp only
  generalize (nst (liveB sn) l l.length).2 = o at *
  obtain ⟨i1, i2, i3, i4⟩ := sorted_split idx o hs
  have hs' : (o.filter (fun y => decide (y ≠ idx))).Pairwise (· < ·) := List.Pairwise.filter _ hs
  have hfl : liveB sn idx = decide (sn < idx ∧ idx ≤ sn + 24) := rfl
  have hne : idx ∉ o → o.filter (fun y => decide (y ≠ idx)) = o := fun h => filter_all (fun y hy => by simp; rintro rfl; exact h hy)
  by_cases hlive : sn < idx ∧ idx ≤ sn + 24
  · rw [if_pos (show liveB sn idx = true by rw [hfl]; simpa using hlive)]
    cases corrupt
    · rw [if_neg (show ¬ (false = true) by simp), if_neg (show ¬ (sn < idx ∧ idx ≤ sn + 24 ∧ false = true) by simp)]
      by_cases hm : idx ∈ o
      · rw [if_pos hm, i1]
        have e1 : o.drop (bsPos o idx + 1) = (o.drop (bsPos o idx)).drop 1 := by rw [List.drop_drop]
        rw [e1, i2, i4, if_pos hm]
        simp only [List.singleton_append, List.drop_succ_cons, List.drop_zero]
        conv => rhs; rw [i3, i4, if_pos hm]
        simp only [List.filter_append, List.filter_cons, List.filter_filter]
        simp only [decide_not, decide_true, Bool.not_true, Bool.false_eq_true, if_false, List.filter_nil, List.nil_append, ne_eq]
        congr 1
        · apply List.filter_congr
          intro y _
          by_cases h : y < idx <;> simp [h]
          omega
        · apply List.filter_congr
          intro y _
          by_cases h : idx < y <;> simp [h]
          omega
      · rw [if_neg hm, hne hm]
    · rw [if_pos (show true = true from rfl), if_pos (show sn < idx ∧ idx ≤ sn + 24 ∧ true = true from ⟨hlive.1, hlive.2, rfl⟩), pst_all idx _ hs']
      have g1 : (o.filter (fun y => decide (y ≠ idx))).filter (fun y => decide (y ≤ idx)) = o.filter (fun y => decide (y < idx)) := by
        rw [List.filter_filter]
        apply List.filter_congr
        intro y _
        by_cases h1 : y < idx <;> by_cases h2 : y = idx <;> simp [h1, h2] <;> omega
      have g2 : (o.filter (fun y => decide (y ≠ idx))).filter (fun y => decide (idx < y)) = o.filter (fun y => decide (idx < y)) := by
        rw [List.filter_filter]
        apply List.filter_congr
        intro y _
        by_cases h1 : idx < y <;> by_cases h2 : y = idx <;> simp [h1, h2] <;> omega
      rw [g1, g2]
      by_cases hm : idx ∈ o
      · rw [if_pos hm]
        conv => lhs; rw [i3, i4, if_pos hm]
        simp
      · rw [if_neg hm, i1, i2, i4, if_neg hm]
        simp
  · rw [if_neg (show ¬ (liveB sn idx = true) by rw [hfl]; simpa using hlive), if_neg (show ¬ (sn < idx ∧ idx ≤ sn + 24 ∧ corrupt = true) from fun h => hlive ⟨h.1, h.2.1⟩)]
    refine (hne (fun hm => ?_)).symm
    have := hall idx hm
    rw [hfl] at this
    exact hlive (by simpa using this)
end Go.Proofs.Ytjolhdlnjdmbeaa
