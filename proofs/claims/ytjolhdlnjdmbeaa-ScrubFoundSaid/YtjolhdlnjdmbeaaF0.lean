/- Plain: what is found, as a table of marks. -/
import Derived.Test.YtjolhdlnjdmbeaaN6
namespace Go.Proofs.Ytjolhdlnjdmbeaa
open Go.RowKit

theorem filt_at {α : Type} (p : α → Bool) : ∀ (l : List α) (i : Nat) (x : α), l[i]? = some x → p x = true → (l.filter p)[((l.take i).filter p).length]? = some x
  | [], _, _, h, _ => by simp at h
  | a :: l, 0, x, h, hp => by simp at h; subst h; simp [hp]
  | a :: l, i + 1, x, h, hp => by
    have ih := filt_at p l i x (by simpa using h) hp
    by_cases ha : p a = true
    · simp [ha, ih]
    · simp only [Bool.not_eq_true] at ha
      simp [ha, ih]
theorem filt_len {α : Type} (p : α → Bool) (l : List α) (i : Nat) (x : α) (h : l[i]? = some x) : ((l.take (i + 1)).filter p).length = ((l.take i).filter p).length + (if p x = true then 1 else 0) := by
  rw [List.take_add_one, h]
  by_cases hp : p x = true
  · simp [hp]
  · simp only [Bool.not_eq_true] at hp
    simp [hp]

theorem sorted_ext : ∀ (l m : List Int), l.Pairwise (· < ·) → m.Pairwise (· < ·) → (∀ x, x ∈ l ↔ x ∈ m) → l = m
  | [], [], _, _, _ => rfl
  | [], b :: m, _, _, h => by have := (h b).2 (by simp); simp at this
  | a :: l, [], _, _, h => by have := (h a).1 (by simp); simp at this
  | a :: l, b :: m, hl, hm, h => by
    have hl' := List.pairwise_cons.1 hl
    have hm' := List.pairwise_cons.1 hm
    have hab : a = b := by
      have h1 := (h a).1 (by simp)
      have h2 := (h b).2 (by simp)
      rcases List.mem_cons.1 h1 with e | e
      · exact e
      · rcases List.mem_cons.1 h2 with e' | e'
        · exact e'.symm
        · have := hm'.1 a e
          have := hl'.1 b e'
          omega
    subst hab
    congr 1
    refine sorted_ext l m hl'.2 hm'.2 (fun x => ⟨fun hx => ?_, fun hx => ?_⟩)
    · rcases List.mem_cons.1 ((h x).1 (by simp [hx])) with e | e
      · have := hl'.1 x hx; omega
      · exact e
    · rcases List.mem_cons.1 ((h x).2 (by simp [hx])) with e | e
      · have := hm'.1 x hx; omega
      · exact e

theorem nst_keep_aux (p : Int → Bool) : ∀ (l : List Int) (la : Int) (o : List Int), l.Pairwise (· < ·) → (∀ x ∈ l, la < x) → (l.foldl (nstep p) (la, o)).2 = o ++ l.filter p
  | [], _, _, _, _ => by simp
  | a :: l, la, o, h, h0 => by
    have h' := List.pairwise_cons.1 h
    have ha := h0 a (by simp)
    rw [List.foldl_cons]
    cases hp : p a
    · rw [nstep_no ha hp, nst_keep_aux p l a o h'.2 h'.1]
      simp [hp]
    · rw [nstep_put ha hp, nst_keep_aux p l a _ h'.2 h'.1]
      simp [hp]
theorem nst_keep (p : Int → Bool) (l : List Int) (h : l.Pairwise (· < ·)) (h0 : ∀ x ∈ l, 0 < x) : (nst p l l.length).2 = l.filter p := by
  unfold nst
  rw [List.take_length, nst_keep_aux p l 0 [] h h0, List.nil_append]

/-- The list is what the marks say. -/
structure FI (sn : Int) (last : List Bool) (l : List Int) : Prop where
  sorted : l.Pairwise (· < ·)
  mem : ∀ x, x ∈ l ↔ (sn < x ∧ x ≤ sn + 24 ∧ last[(x - sn - 1).toNat]? = some true)

theorem fi_zero (sn : Int) : FI sn (List.replicate 24 false) [] := by
  refine ⟨List.Pairwise.nil, fun x => ⟨fun h => by simp at h, fun ⟨h1, h2, h3⟩ => ?_⟩⟩
  rw [List.getElem?_replicate] at h3
  split at h3 <;> simp at h3

theorem fi_len {sn : Int} {last : List Bool} {l : List Int} (h : FI sn last l) : l.length ≤ 24 := by
  have hs := h.sorted
  have hb : ∀ x ∈ l, sn < x ∧ x ≤ sn + 24 := fun x hx => ⟨((h.mem x).1 hx).1, ((h.mem x).1 hx).2.1⟩
  clear h
  have key : ∀ (l : List Int) (lo : Int), l.Pairwise (· < ·) → (∀ x ∈ l, lo < x ∧ x ≤ sn + 24) → (l.length : Int) ≤ max 0 (sn + 24 - lo) := by
    intro l
    induction l with
    | nil => intro lo _ _; simp; omega
    | cons a l ih =>
      intro lo hs hb
      have h' := List.pairwise_cons.1 hs
      have ha := hb a (by simp)
      have := ih a h'.2 (fun x hx => ⟨h'.1 x hx, (hb x (by simp [hx])).2⟩)
      simp only [List.length_cons]
      omega
  have := key l sn hs hb
  omega

theorem pnote_sorted (sn idx : Int) (c : Bool) (l : List Int) (h0 : 0 ≤ sn) (hs : l.Pairwise (· < ·)) (hb : ∀ x ∈ l, sn < x ∧ x ≤ sn + 24) :
    (pnoteL sn idx c l).Pairwise (· < ·) ∧ ∀ x, x ∈ pnoteL sn idx c l ↔ (if liveB sn idx = true then (if x = idx then c = true else x ∈ l) else x ∈ l) := by
  have hk := nst_keep (liveB sn) l hs (fun x hx => by have := hb x hx; omega)
  have hf : l.filter (liveB sn) = l := filter_all (fun y hy => by unfold liveB; simpa using hb y hy)
  rw [hf] at hk
  unfold pnoteL
  rw [hk]
  simp only
  obtain ⟨i1, i2, i3, i4⟩ := sorted_split idx l hs
  by_cases hl : liveB sn idx = true
  · rw [if_pos hl]
    simp only [hl, if_true]
    cases c
    · rw [if_neg (show ¬ (false = true) by simp)]
      by_cases hm : idx ∈ l
      · rw [if_pos hm]
        have e1 : l.drop (bsPos l idx + 1) = l.filter (fun y => decide (idx < y)) := by
          rw [show l.drop (bsPos l idx + 1) = (l.drop (bsPos l idx)).drop 1 by rw [List.drop_drop], i2, i4, if_pos hm]
          simp
        rw [i1, e1]
        refine ⟨List.pairwise_append.2 ⟨List.Pairwise.filter _ hs, List.Pairwise.filter _ hs, fun a ha b hb => ?_⟩, fun x => ?_⟩
        · simp only [List.mem_filter, decide_eq_true_eq] at ha hb
          omega
        · simp only [List.mem_append, List.mem_filter, decide_eq_true_eq]
          by_cases hx : x = idx
          · subst hx; simp
          · simp only [hx, if_false]
            constructor
            · rintro (h | h) <;> exact h.1
            · intro h
              by_cases hlt : x < idx
              · exact .inl ⟨h, hlt⟩
              · exact .inr ⟨h, by omega⟩
      · rw [if_neg hm]
        refine ⟨hs, fun x => ?_⟩
        by_cases hx : x = idx
        · subst hx; simp [hm]
        · simp [hx]
    · rw [if_pos (show true = true from rfl)]
      by_cases hm : idx ∈ l
      · rw [if_pos hm]
        refine ⟨hs, fun x => ?_⟩
        by_cases hx : x = idx
        · subst hx; simp [hm]
        · simp [hx]
      · rw [if_neg hm, i1, i2, i4, if_neg hm]
        refine ⟨List.pairwise_append.2 ⟨List.Pairwise.filter _ hs, List.pairwise_cons.2 ⟨fun a ha => ?_, List.Pairwise.filter _ hs⟩, fun a ha b hb => ?_⟩, fun x => ?_⟩
        · simpa using (List.mem_filter.1 ha).2
        · simp only [List.mem_filter, List.mem_cons, List.nil_append, decide_eq_true_eq] at ha hb
          rcases hb with rfl | hb
          · omega
          · omega
        · simp only [List.mem_append, List.mem_cons, List.mem_filter, decide_eq_true_eq, List.nil_append]
          by_cases hx : x = idx
          · subst hx; simp
          · simp only [hx, if_false, false_or]
            constructor
            · rintro (h | h) <;> exact h.1
            · intro h
              by_cases hlt : x < idx
              · exact .inl ⟨h, hlt⟩
              · exact .inr ⟨h, by omega⟩
  · rw [if_neg hl]
    simp only [hl]
    exact ⟨hs, fun x => by simp⟩

theorem fi_step {sn idx : Int} {c : Bool} {last : List Bool} {l : List Int} (h0 : 0 ≤ sn) (hlen : last.length = 24) (h : FI sn last l) :
    FI sn (if liveB sn idx = true then last.set (idx - sn - 1).toNat c else last) (pnoteL sn idx c l) := by
  have hp := pnote_sorted sn idx c l h0 h.sorted (fun x hx => ⟨((h.mem x).1 hx).1, ((h.mem x).1 hx).2.1⟩)
  refine ⟨hp.1, fun x => ?_⟩
  rw [hp.2]
  by_cases hl : liveB sn idx = true
  · simp only [hl, if_true]
    have hl2 : sn < idx ∧ idx ≤ sn + 24 := by unfold liveB at hl; simpa using hl
    rw [List.getElem?_set]
    by_cases hx : x = idx
    · subst hx
      simp only [if_true]
      rw [if_pos (by omega)]
      constructor
      · intro hc; subst hc; exact ⟨hl2.1, hl2.2, rfl⟩
      · rintro ⟨_, _, h3⟩; simpa using h3
    · simp only [hx, if_false]
      rw [h.mem x]
      constructor
      · rintro ⟨h1, h2, h3⟩
        refine ⟨h1, h2, ?_⟩
        rw [if_neg (by omega)]; exact h3
      · rintro ⟨h1, h2, h3⟩
        rw [if_neg (by omega)] at h3
        exact ⟨h1, h2, h3⟩
  · simp only [hl]
    simpa using h.mem x

/-- The list, told by its marks. -/
theorem fi_list {sn : Int} {last : List Bool} {l : List Int} (h : FI sn last l) : l = ((List.range 24).filter (fun i => last[i]? == some true)).map (fun i : Nat => sn + 1 + i) := by
  refine sorted_ext _ _ h.sorted ?_ (fun x => ?_)
  · rw [List.pairwise_map]
    refine List.Pairwise.imp ?_ (List.Pairwise.filter _ List.pairwise_lt_range)
    intro a b hab
    omega
  · rw [h.mem]
    simp only [List.mem_map, List.mem_filter, List.mem_range, beq_iff_eq]
    constructor
    · rintro ⟨h1, h2, h3⟩
      exact ⟨(x - sn - 1).toNat, ⟨by omega, h3⟩, by omega⟩
    · rintro ⟨i, ⟨h1, h2⟩, rfl⟩
      refine ⟨by omega, by omega, ?_⟩
      rw [show (sn + 1 + (i : Int) - sn - 1).toNat = i by omega]
      exact h2
end Go.Proofs.Ytjolhdlnjdmbeaa
