/- Plain: what is noted. No program in sight. -/
import Derived.Test.YtjolhdlnjdmbeaaKit
namespace Go.Proofs.Ytjolhdlnjdmbeaa
open Go.RowKit

/-- One element of what was found: beside the greatest so far, those that are kept. -/
def nstep (p : Int → Bool) (s : Int × List Int) (x : Int) : Int × List Int := if x ≤ s.1 then s else (x, if p x then s.2 ++ [x] else s.2)
def nst (p : Int → Bool) (l : List Int) (k : Nat) : Int × List Int := (l.take k).foldl (nstep p) (0, [])
theorem nst_zero (p : Int → Bool) (l : List Int) : nst p l 0 = (0, []) := by simp [nst]
theorem nst_succ (p : Int → Bool) (l : List Int) (k : Nat) (x : Int) (h : l[k]? = some x) : nst p l (k + 1) = nstep p (nst p l k) x := by
  unfold nst
  rw [List.take_add_one, h]
  simp
theorem nst_len (p : Int → Bool) (l : List Int) (k : Nat) : (nst p l k).2.length ≤ k := by
  induction k with
  | zero => simp [nst]
  | succ k ih =>
    cases h : l[k]? with
    | none =>
      have : nst p l (k + 1) = nst p l k := by unfold nst; rw [List.take_add_one, h]; simp
      rw [this]; omega
    | some x =>
      rw [nst_succ p l k x h]
      unfold nstep
      split
      · omega
      · split <;> simp <;> omega

/-- The place of a number in a list, put in. -/
def putIn (x : Int) : List Int → List Int
  | [] => [x]
  | y :: r => if x < y then x :: y :: r else y :: putIn x r

def pstep (idx : Int) (s : List Int × Bool) (y : Int) : List Int × Bool := if s.2 = false ∧ idx < y then (s.1 ++ [idx] ++ [y], true) else (s.1 ++ [y], s.2)
def pst (idx : Int) (l : List Int) (k : Nat) : List Int × Bool := (l.take k).foldl (pstep idx) ([], false)
theorem pst_zero (idx : Int) (l : List Int) : pst idx l 0 = ([], false) := by simp [pst]
theorem pst_succ (idx : Int) (l : List Int) (k : Nat) (x : Int) (h : l[k]? = some x) : pst idx l (k + 1) = pstep idx (pst idx l k) x := by
  unfold pst
  rw [List.take_add_one, h]
  simp
theorem pst_len (idx : Int) (l : List Int) (k : Nat) : (pst idx l k).1.length ≤ 2 * k := by
  induction k with
  | zero => simp [pst]
  | succ k ih =>
    cases h : l[k]? with
    | none =>
      have : pst idx l (k + 1) = pst idx l k := by unfold pst; rw [List.take_add_one, h]; simp
      rw [this]; omega
    | some x =>
      rw [pst_succ idx l k x h]
      unfold pstep
      split <;> simp <;> omega
theorem pstep_yes {idx y : Int} {o : List Int} (h : idx < y) : pstep idx (o, false) y = (o ++ [idx] ++ [y], true) := by simp [pstep, h]
theorem pstep_no {idx y : Int} {o : List Int} {b : Bool} (h : b = true ∨ y ≤ idx) : pstep idx (o, b) y = (o ++ [y], b) := by
  unfold pstep
  rw [if_neg]
  rintro ⟨h1, h2⟩
  simp only at h1
  subst h1
  rcases h with h | h
  · cases h
  · omega
/-- What the reference notes. -/
def pend (idx : Int) (s : List Int × Bool) : List Int := if s.2 then s.1 else s.1 ++ [idx]
theorem nst_sorted (p : Int → Bool) (l : List Int) (k : Nat) : (nst p l k).2.Pairwise (· < ·) ∧ ∀ y ∈ (nst p l k).2, y ≤ (nst p l k).1 := by
  induction k with
  | zero => simp [nst]
  | succ k ih =>
    cases h : l[k]? with
    | none =>
      have : nst p l (k + 1) = nst p l k := by unfold nst; rw [List.take_add_one, h]; simp
      rw [this]; exact ih
    | some x =>
      rw [nst_succ p l k x h]
      unfold nstep
      split
      · exact ih
      · rename_i hx
        split
        · refine ⟨List.pairwise_append.2 ⟨ih.1, List.pairwise_singleton _ _, fun a ha b hb => ?_⟩, fun y hy => ?_⟩
          · simp at hb; subst hb
            have := ih.2 a ha
            omega
          · simp only [List.mem_append, List.mem_singleton] at hy
            rcases hy with hy | rfl
            · have := ih.2 y hy
              simp only
              omega
            · simp
        · refine ⟨ih.1, fun y hy => ?_⟩
          have := ih.2 y hy
          simp only
          omega
end Go.Proofs.Ytjolhdlnjdmbeaa
