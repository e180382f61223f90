/- Plain: calls, histories, orders. No program in sight. -/
import Derived.Test.YtiipelccmkidbaaK7
namespace Go.Proofs.Ytiipelccmkidbaa

structure Cl where
  cli : Int
  op : Opn
  rep : Rp
  st : Int
  en : Int

def nilR (r : Rp) : Bool := r.err == 0 && r.found == false && r.val.toList == []
def mayC (c : Cl) : Bool := decide (0 ≤ c.cli) && decide (c.cli < 4) && mayO c.op && decide (1 ≤ c.st) && ((c.en == 0 && nilR c.rep) || decide (c.st < c.en))
def onB (t : Int) (c : Cl) : Bool := decide (c.st ≤ t) && (c.en == 0 || decide (t ≤ c.en))
def wideP (l : List Cl) (t : Int) : Nat := l.countP (onB t)
def pendP (l : List Cl) : Nat := l.countP (fun c => c.en == 0)
def mostP (l m : List Cl) : Nat := (m.map fun c => wideP l c.st).foldl max 0
def chk (l : List Cl) : Int := if 40 < l.length ∨ 8 < pendP l ∨ 12 < mostP l l then 4 else if l.all mayC then 0 else 2

theorem foldl_max_snoc (xs : List Nat) (x a : Nat) : (xs ++ [x]).foldl max a = max (xs.foldl max a) x := by simp
theorem mostP_snoc (l m : List Cl) (c : Cl) : mostP l (m ++ [c]) = max (mostP l m) (wideP l c.st) := by
  unfold mostP
  rw [List.map_append, List.map_singleton, foldl_max_snoc]
theorem pendP_snoc (m : List Cl) (c : Cl) : pendP (m ++ [c]) = pendP m + if c.en == 0 then 1 else 0 := by
  unfold pendP
  rw [List.countP_append, List.countP_singleton]
theorem all_snoc (m : List Cl) (c : Cl) : (m ++ [c]).all mayC = (m.all mayC && mayC c) := by simp
theorem wideP_le (l : List Cl) (t : Int) : wideP l t ≤ l.length := List.countP_le_length
theorem pendP_le (l : List Cl) : pendP l ≤ l.length := List.countP_le_length
theorem mostP_le (l : List Cl) : ∀ (m : List Cl), mostP l m ≤ l.length := by
  intro m
  unfold mostP
  have : ∀ (xs : List Cl) (a : Nat), a ≤ l.length → (xs.map fun c => wideP l c.st).foldl max a ≤ l.length := by
    intro xs
    induction xs with
    | nil => intro a ha; simpa using ha
    | cons x xs ih =>
      intro a ha
      simp only [List.map_cons, List.foldl_cons]
      exact ih _ (by have := wideP_le l x.st; omega)
  exact this m 0 (by omega)
theorem take_snoc' {α : Type} {l : List α} {k : Nat} {x : α} (h : l[k]? = some x) : l.take (k + 1) = l.take k ++ [x] := by
  rw [List.take_add_one, h]
  rfl
theorem most_iff (l : List Cl) (n : Nat) : ∀ (m : List Cl) (a : Nat), n < (m.map fun c => wideP l c.st).foldl max a ↔ (n < a ∨ ∃ c ∈ m, n < wideP l c.st)
  | [], a => by simp
  | x :: q, a => by
    rw [List.map_cons, List.foldl_cons, most_iff l n q]
    constructor
    · rintro (h | ⟨j, hj, h⟩)
      · by_cases h1 : n < a
        · exact .inl h1
        · exact .inr ⟨x, by simp, by omega⟩
      · exact .inr ⟨j, by simp [hj], h⟩
    · rintro (h | ⟨j, hj, h⟩)
      · exact .inl (by omega)
      · rw [List.mem_cons] at hj
        rcases hj with rfl | hj
        · exact .inl (by omega)
        · exact .inr ⟨j, hj, h⟩
/-- 'wide' of the reference: any of those gone over. -/
theorem mostP_gt (l : List Cl) (n : Nat) (m : List Cl) : decide (n < mostP l m) = m.any (fun c => decide (n < wideP l c.st)) := by
  rw [Bool.eq_iff_iff, decide_eq_true_eq, List.any_eq_true]
  unfold mostP
  rw [most_iff]
  constructor
  · rintro (h | ⟨j, hj, h⟩)
    · omega
    · exact ⟨j, hj, decide_eq_true h⟩
  · rintro ⟨j, hj, h⟩
    exact .inr ⟨j, hj, of_decide_eq_true h⟩

instance : Inhabited Cl := ⟨⟨0, ⟨0, ⟨#[]⟩, ⟨#[]⟩, ⟨#[]⟩⟩, ⟨0, false, ⟨#[]⟩⟩, 0, 0⟩⟩
def clA (l : List Cl) (i : Int) : Cl := l.getD i.toNat default
def rpEq (a b : Rp) : Bool := a.err == b.err && a.found == b.found && a.val.toList == b.val.toList
def stA (l : List Cl) (q : List Int) : List Pr := q.foldl (fun s i => (doP s (clA l i).op).1) []
theorem stA_snoc (l : List Cl) (q : List Int) (i : Int) : stA l (q ++ [i]) = (doP (stA l q) (clA l i).op).1 := by simp [stA]
theorem may_nil : mayS [] = true := by decide
theorem stA_may (l : List Cl) (q : List Int) : mayS (stA l q) = true := by
  unfold stA
  have : ∀ (q : List Int) (s : List Pr), mayS s = true → mayS (q.foldl (fun s i => (doP s (clA l i).op).1) s) = true := by
    intro q
    induction q with
    | nil => intro s h; simpa using h
    | cons i q ih => intro s h; rw [List.foldl_cons]; exact ih _ (doP_may _ h)
  exact this q [] may_nil
def latA (l : List Cl) (q : List Int) : Int := q.foldl (fun a i => max a (clA l i).st) 0
theorem latA_snoc (l : List Cl) (q : List Int) (i : Int) : latA l (q ++ [i]) = max (latA l q) (clA l i).st := by simp [latA]

/-- What is asked of the place i behind the places q. -/
def inR (l : List Cl) (i : Int) : Bool := decide (0 ≤ i) && decide (i < l.length)
def okP (l : List Cl) (q : List Int) (i : Int) : Bool :=
  inR l i && !q.contains i && !(decide (0 < (clA l i).en) && decide ((clA l i).en < latA l q)) && !(decide (0 < (clA l i).en) && !rpEq (doP (stA l q) (clA l i).op).2 (clA l i).rep)
def goesP (l : List Cl) : List Int → List Int → Bool
  | _, [] => true
  | q, i :: r => okP l q i && goesP l (q ++ [i]) r
def fullP (l : List Cl) (q : List Int) : Bool := (List.range l.length).all fun i => !(decide (0 < (clA l i).en) && !q.contains (i : Int))
def holdsP (l : List Cl) (q : List Int) : Bool := chk l == 0 && (goesP l [] q && fullP l q)

theorem goesP_take (l : List Cl) (q : List Int) {k : Nat} {i : Int} (h : q[k]? = some i) : goesP l (q.take k) (q.drop k) = (okP l (q.take k) i && goesP l (q.take (k + 1)) (q.drop (k + 1))) := by
  rw [take_snoc' h]
  have : q.drop k = i :: q.drop (k + 1) := by
    rw [← List.getElem_cons_drop (h := (List.getElem?_eq_some_iff.1 h).1), (List.getElem?_eq_some_iff.1 h).2]
  rw [this]
  rfl

/-! The reference's road. -/
def ok1 (l : List Cl) (q : List Int) (i : Int) : Bool := inR l i && !q.contains i
def goes1 (l : List Cl) : List Int → List Int → Bool
  | _, [] => true
  | q, i :: r => ok1 l q i && goes1 l (q ++ [i]) r
theorem goes1_take (l : List Cl) (q : List Int) {k : Nat} {i : Int} (h : q[k]? = some i) : goes1 l (q.take k) (q.drop k) = (ok1 l (q.take k) i && goes1 l (q.take (k + 1)) (q.drop (k + 1))) := by
  rw [take_snoc' h]
  have : q.drop k = i :: q.drop (k + 1) := by
    rw [← List.getElem_cons_drop (h := (List.getElem?_eq_some_iff.1 h).1), (List.getElem?_eq_some_iff.1 h).2]
  rw [this]
  rfl
def lateB (l : List Cl) (c : Cl) (j : Int) : Bool := (clA l j).en != 0 && decide ((clA l j).en < c.st)
def ok3 (l : List Cl) (q : List Int) (i : Int) (r : List Int) : Bool :=
  !r.any (lateB l (clA l i)) && !((clA l i).en != 0 && !rpEq (doP (stA l q) (clA l i).op).2 (clA l i).rep)
def goes3 (l : List Cl) : List Int → List Int → Bool
  | _, [] => true
  | q, i :: r => ok3 l q i r && goes3 l (q ++ [i]) r
theorem goes3_take (l : List Cl) (q : List Int) {k : Nat} {i : Int} (h : q[k]? = some i) : goes3 l (q.take k) (q.drop k) = (ok3 l (q.take k) i (q.drop (k + 1)) && goes3 l (q.take (k + 1)) (q.drop (k + 1))) := by
  rw [take_snoc' h]
  have : q.drop k = i :: q.drop (k + 1) := by
    rw [← List.getElem_cons_drop (h := (List.getElem?_eq_some_iff.1 h).1), (List.getElem?_eq_some_iff.1 h).2]
  rw [this]
  rfl
def full1 (l : List Cl) (q : List Int) : Bool := (List.range l.length).all fun i => !((clA l i).en != 0 && !q.contains (i : Int))
def holdsR (l : List Cl) (q : List Int) : Bool := chk l == 0 && (goes1 l [] q && (full1 l q && goes3 l [] q))

theorem chk_may {l : List Cl} (h : chk l = 0) : ∀ c ∈ l, mayC c = true := by
  unfold chk at h
  split at h
  · cases h
  · split at h
    · rename_i h2; exact List.all_eq_true.1 h2
    · cases h
theorem mayC_en {c : Cl} (h : mayC c = true) : c.en = 0 ∨ 0 < c.en := by
  unfold mayC at h
  simp only [Bool.and_eq_true, Bool.or_eq_true, decide_eq_true_eq, beq_iff_eq] at h
  obtain ⟨⟨_, h1⟩, h2 | h2⟩ := h
  · exact .inl h2.1
  · right; omega
theorem clA_mem {l : List Cl} {i : Int} (h : inR l i = true) : clA l i ∈ l := by
  unfold inR at h
  simp only [Bool.and_eq_true, decide_eq_true_eq] at h
  unfold clA
  rw [List.getD_eq_getElem?_getD, List.getElem?_eq_getElem (by omega)]
  exact List.getElem_mem _
theorem en_ne {l : List Cl} (h : chk l = 0) {i : Int} (hi : inR l i = true) : ((clA l i).en != 0) = decide (0 < (clA l i).en) := by
  rcases mayC_en (chk_may h _ (clA_mem hi)) with e | e
  · rw [e]; rfl
  · rw [decide_eq_true e, bne_iff_ne]; omega

theorem lat_iff (l : List Cl) (e : Int) : ∀ (q : List Int) (a : Int), e < q.foldl (fun a i => max a (clA l i).st) a ↔ (e < a ∨ ∃ j ∈ q, e < (clA l j).st)
  | [], a => by simp
  | x :: q, a => by
    rw [List.foldl_cons, lat_iff l e q]
    constructor
    · rintro (h | ⟨j, hj, h⟩)
      · by_cases h1 : e < a
        · exact .inl h1
        · exact .inr ⟨x, by simp, by omega⟩
      · exact .inr ⟨j, by simp [hj], h⟩
    · rintro (h | ⟨j, hj, h⟩)
      · exact .inl (by omega)
      · rw [List.mem_cons] at hj
        rcases hj with rfl | hj
        · exact .inl (by omega)
        · exact .inr ⟨j, hj, h⟩
theorem lat_spec (l : List Cl) (q : List Int) (e : Int) (he : 0 < e) : decide (e < latA l q) = q.any (fun j => decide (e < (clA l j).st)) := by
  rw [Bool.eq_iff_iff, decide_eq_true_eq, List.any_eq_true]
  unfold latA
  rw [lat_iff]
  constructor
  · rintro (h | ⟨j, hj, h⟩)
    · omega
    · exact ⟨j, hj, decide_eq_true h⟩
  · rintro ⟨j, hj, h⟩
    exact .inr ⟨j, hj, of_decide_eq_true h⟩

/-- No place of r is too early for one of q. -/
def clear2 (l : List Cl) (q r : List Int) : Bool := !r.any fun j => q.any fun i => lateB l (clA l i) j

theorem goes_eq {l : List Cl} (hchk : chk l = 0) : ∀ (r q : List Int), goes1 l q r = true → clear2 l q r = true → goesP l q r = goes3 l q r := by
  intro r
  induction r with
  | nil => intro q _ _; rfl
  | cons i r ih =>
    intro q h1 h2
    simp only [goes1, Bool.and_eq_true] at h1
    obtain ⟨ho, h1⟩ := h1
    have hin : inR l i = true := by unfold ok1 at ho; simp only [Bool.and_eq_true] at ho; exact ho.1
    have hq : (!q.contains i) = true := by unfold ok1 at ho; simp only [Bool.and_eq_true] at ho; exact ho.2
    have hen := en_ne hchk hin
    simp only [clear2, List.any_cons, Bool.not_or, Bool.and_eq_true, Bool.not_eq_true'] at h2
    obtain ⟨h2a, h2b⟩ := h2
    have hlate : (decide (0 < (clA l i).en) && decide ((clA l i).en < latA l q)) = false := by
      by_cases he : 0 < (clA l i).en
      · rw [lat_spec l q _ he, decide_eq_true he, Bool.true_and]
        rw [← h2a]
        congr 1
        funext j
        unfold lateB
        rw [hen, decide_eq_true he, Bool.true_and]
      · rw [decide_eq_false he]; rfl
    have hok : okP l q i = !((clA l i).en != 0 && !rpEq (doP (stA l q) (clA l i).op).2 (clA l i).rep) := by
      unfold okP
      rw [hin, hq, hlate, hen]
      rfl
    simp only [goesP, goes3, ok3, hok]
    cases hc : r.any (lateB l (clA l i)) with
    | false =>
      rw [Bool.not_false, Bool.true_and]
      congr 1
      refine ih _ h1 ?_
      simp only [clear2, Bool.not_eq_true']
      rw [List.any_eq_false] at h2b hc ⊢
      intro j hj
      have a1 := h2b j hj
      have a2 := hc j hj
      rw [Bool.not_eq_true] at a1 a2 ⊢
      rw [List.any_append, a1, List.any_cons, a2]
      rfl
    | true =>
      rw [Bool.not_true, Bool.false_and, Bool.false_and]
      have : goesP l (q ++ [i]) r = false := by
        have key : ∀ (r q : List Int) (i : Int), i ∈ q → goes1 l q r = true → r.any (lateB l (clA l i)) = true → goesP l q r = false := by
          intro r
          induction r with
          | nil => intro q i _ _ h; simp at h
          | cons j r ih2 =>
            intro q i hi h1 h
            simp only [goes1, Bool.and_eq_true] at h1
            obtain ⟨ho, h1⟩ := h1
            have hin : inR l j = true := by unfold ok1 at ho; simp only [Bool.and_eq_true] at ho; exact ho.1
            rw [List.any_cons, Bool.or_eq_true] at h
            simp only [goesP]
            rcases h with h | h
            · have : okP l q j = false := by
                unfold lateB at h
                rw [en_ne hchk hin, Bool.and_eq_true, decide_eq_true_eq, decide_eq_true_eq] at h
                unfold okP
                have h3 : decide ((clA l j).en < latA l q) = true := by
                  rw [lat_spec l q _ h.1, List.any_eq_true]
                  exact ⟨i, hi, decide_eq_true h.2⟩
                rw [h3, decide_eq_true h.1]
                simp
              rw [this]
              rfl
            · rw [ih2 (q ++ [j]) i (List.mem_append_left _ hi) h1 h, Bool.and_false]
        exact key r (q ++ [i]) i (by simp) h1 hc
      rw [this, Bool.and_false]

theorem goesP_1 {l : List Cl} : ∀ (r q : List Int), goesP l q r = true → goes1 l q r = true := by
  intro r
  induction r with
  | nil => intro q _; rfl
  | cons i r ih =>
    intro q h
    simp only [goesP, goes1, Bool.and_eq_true] at h ⊢
    refine ⟨?_, ih _ h.2⟩
    have := h.1
    unfold okP at this
    unfold ok1
    simp only [Bool.and_eq_true] at this ⊢
    exact this.1.1

theorem holds_eq (l : List Cl) (q : List Int) : holdsP l q = holdsR l q := by
  unfold holdsP holdsR
  cases hc : chk l == 0 with
  | false => rfl
  | true =>
    have h : chk l = 0 := by simpa using hc
    rw [Bool.true_and, Bool.true_and]
    have hf : fullP l q = full1 l q := by
      unfold fullP full1
      rw [Bool.eq_iff_iff, List.all_eq_true, List.all_eq_true]
      constructor
      all_goals
        intro H i hi
        have := H i hi
        have hin : inR l (i : Int) = true := by
          rw [List.mem_range] at hi
          unfold inR
          simp only [Bool.and_eq_true, decide_eq_true_eq]
          omega
        rw [en_ne h hin] at *
        exact this
    cases h1 : goes1 l [] q with
    | false =>
      have : goesP l [] q = false := by
        cases h2 : goesP l [] q with
        | false => rfl
        | true => rw [goesP_1 q [] h2] at h1; cases h1
      rw [this, Bool.false_and, Bool.false_and]
    | true =>
      rw [goes_eq h q [] h1 (by simp [clear2]), hf, Bool.true_and, Bool.and_comm]
end Go.Proofs.Ytiipelccmkidbaa
