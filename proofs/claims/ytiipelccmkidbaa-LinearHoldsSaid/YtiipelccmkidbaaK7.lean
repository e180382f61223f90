/- Plain: operations as steps of what one key has. No program in sight. -/
import Derived.Test.YtiipelccmkidbaaK6
namespace Go.Proofs.Ytiipelccmkidbaa

def rpOf (x : Option Tx) : Rp := match x with | none => ⟨0, false, ⟨#[]⟩⟩ | some v => ⟨0, true, v⟩
theorem wasR_eq (l : List Pr) (k : Tx) : wasR l k = rpOf (look l k) := rfl
theorem rpOf_err (x : Option Tx) : (rpOf x).err = 0 := by cases x <;> rfl
/-- What an operation does to what its key has; and its reply. -/
def stepK (o : Opn) (x : Option Tx) : Option Tx × Rp :=
  if o.kind = 1 then (x, rpOf x)
  else if o.kind = 2 then (some o.val, rpOf x)
  else if o.kind = 3 then (none, rpOf x)
  else if x = some o.old then (some o.val, rpOf x) else (x, { rpOf x with found := false })

theorem doP_err {l : List Pr} {o : Opn} (h : mayS l = true) : (doP l o).2.err = 0 ∨ (doP l o).2.err = 210 ∨ (doP l o).2.err = 211 := by
  cases ho : mayO o with
  | false => rw [doP_bad h ho]; exact .inr (.inl rfl)
  | true =>
    rw [doP_ok h ho]
    split
    · exact .inl (rpOf_err _)
    · split
      · split
        · exact .inr (.inr rfl)
        · exact .inl (rpOf_err _)
      · split
        · exact .inl (rpOf_err _)
        · split
          · exact .inl (rpOf_err _)
          · exact .inl (rpOf_err _)

theorem doP_same {l : List Pr} {o : Opn} (h : mayS l = true) (he : (doP l o).2.err ≠ 0) : (doP l o).1 = l := by
  cases ho : mayO o with
  | false => rw [doP_bad h ho]
  | true =>
    rw [doP_ok h ho] at he ⊢
    split
    · rfl
    · rename_i h1
      rw [if_neg h1] at he
      split
      · rename_i h2
        rw [if_pos h2] at he
        split
        · rfl
        · rename_i h3
          rw [if_neg h3] at he
          exact absurd (rpOf_err _) he
      · rename_i h2
        rw [if_neg h2] at he
        split
        · rename_i h3
          rw [if_pos h3] at he
          exact absurd (rpOf_err _) he
        · rename_i h3
          rw [if_neg h3] at he
          split
          · rename_i h4
            rw [if_pos h4] at he
            exact absurd (rpOf_err _) he
          · rfl

theorem doP_210 {l : List Pr} {o : Opn} (h : mayS l = true) : decide ((doP l o).2.err = 210) = !mayO o := by
  cases ho : mayO o with
  | false => rw [doP_bad h ho]; rfl
  | true =>
    have : (doP l o).2.err ≠ 210 := by
      rw [doP_ok h ho]
      split
      · show (rpOf _).err ≠ 210; rw [rpOf_err]; decide
      · split
        · split
          · show (211 : Int) ≠ 210; decide
          · show (rpOf _).err ≠ 210; rw [rpOf_err]; decide
        · split
          · show (rpOf _).err ≠ 210; rw [rpOf_err]; decide
          · split
            · show (rpOf _).err ≠ 210; rw [rpOf_err]; decide
            · show (rpOf _).err ≠ 210; rw [rpOf_err]; decide
    simp [this]

theorem doP_reads {l : List Pr} {o : Opn} (h : mayS l = true) (hk : o.kind = 1) : (doP l o).1 = l := by
  cases ho : mayO o with
  | false => rw [doP_bad h ho]
  | true => rw [doP_ok h ho, if_pos hk]

theorem doP_mayO {l : List Pr} {o : Opn} (h : mayS l = true) (he : (doP l o).2.err = 0) : mayO o = true := by
  cases ho : mayO o with
  | true => rfl
  | false => rw [doP_bad h ho] at he; cases he

theorem doP_step {l : List Pr} {o : Opn} (h : mayS l = true) (he : (doP l o).2.err = 0) :
    (doP l o).2 = (stepK o (look l o.key)).2 ∧ look (doP l o).1 o.key = (stepK o (look l o.key)).1 := by
  have ho := doP_mayO h he
  rw [doP_ok h ho] at he ⊢
  unfold stepK
  split
  · exact ⟨rfl, rfl⟩
  · rename_i h1
    rw [if_neg h1] at he
    split
    · rename_i h2
      rw [if_pos h2] at he
      split
      · rename_i h3
        rw [if_pos h3] at he
        cases he
      · exact ⟨rfl, look_put _ _ _⟩
    · split
      · exact ⟨rfl, look_del _ _⟩
      · split
        · exact ⟨rfl, look_put _ _ _⟩
        · exact ⟨rfl, rfl⟩

theorem doP_other {l : List Pr} {o : Opn} (h : mayS l = true) {k : Tx} (hk : k ≠ o.key) : look (doP l o).1 k = look l k := by
  obtain ⟨_, hr, _⟩ := may_spec h
  cases ho : mayO o with
  | false => rw [doP_bad h ho]
  | true =>
    rw [doP_ok h ho]
    split
    · rfl
    · split
      · split
        · rfl
        · exact look_put_ne hr hk _
      · split
        · exact look_del_ne hr hk
        · split
          · exact look_put_ne hr hk _
          · rfl

theorem may_rises {l : List Pr} (h : mayS l = true) : Rises l := (may_spec h).2.1

theorem apart_same {l : List Pr} {a b : Opn} (h : mayS l = true) (hk : a.key ≠ b.key) (e1 : (doP l a).2.err = 0) (e2 : (doP (doP l a).1 b).2.err = 0) (e3 : (doP l b).2.err = 0) (e4 : (doP (doP l b).1 a).2.err = 0) :
    (doP (doP l a).1 b).1 = (doP (doP l b).1 a).1 ∧ (doP l a).2 = (doP (doP l b).1 a).2 ∧ (doP (doP l a).1 b).2 = (doP l b).2 := by
  have ha := doP_may a h
  have hb := doP_may b h
  obtain ⟨f1, g1⟩ := doP_step h e1
  obtain ⟨f2, g2⟩ := doP_step ha e2
  obtain ⟨f3, g3⟩ := doP_step h e3
  obtain ⟨f4, g4⟩ := doP_step hb e4
  rw [doP_other h hk.symm] at f2 g2
  rw [doP_other h hk] at f4 g4
  refine ⟨look_ext (may_rises (doP_may b ha)) (may_rises (doP_may a hb)) fun k => ?_, f1.trans f4.symm, f2.trans f3.symm⟩
  by_cases ka : k = a.key
  · subst ka
    rw [doP_other ha hk, g1, g4]
  · by_cases kb : k = b.key
    · subst kb
      rw [g2, doP_other hb ka, g3]
    · rw [doP_other ha kb, doP_other h ka, doP_other hb ka, doP_other h kb]

theorem over_same {l : List Pr} {a b : Opn} (h : mayS l = true) (hk : a.key = b.key) (hb : b.kind = 2 ∨ b.kind = 3) (_ : (doP l a).2.err = 0) (e2 : (doP (doP l a).1 b).2.err = 0) (e3 : (doP l b).2.err = 0) :
    (doP (doP l a).1 b).1 = (doP l b).1 := by
  have ha := doP_may a h
  obtain ⟨_, g2⟩ := doP_step ha e2
  obtain ⟨_, g3⟩ := doP_step h e3
  refine look_ext (may_rises (doP_may b ha)) (may_rises (doP_may b h)) fun k => ?_
  by_cases kb : k = b.key
  · subst kb
    rw [g2, g3]
    unfold stepK
    rcases hb with hb | hb <;> simp [hb]
  · rw [doP_other ha kb, doP_other h (by rw [hk]; exact kb), doP_other h kb]

def getO (k : Tx) : Opn := ⟨1, k, ⟨#[]⟩, ⟨#[]⟩⟩
def valueP (l : List Pr) (k : Tx) : Tx × Bool := let r := (doP l (getO k)).2; (r.val, r.found && decide (r.err = 0))
theorem mayO_get (k : Tx) : mayO (getO k) = keyOk k := by
  have h1 : valOk ⟨#[]⟩ = true := by decide
  have h2 : (⟨#[]⟩ : Tx).size = 0 := rfl
  unfold mayO getO
  simp only [h1, h2]
  simp
theorem value_ok {l : List Pr} {k : Tx} (h : mayS l = true) (hk : keyOk k = true) : valueP l k = ((rpOf (look l k)).val, (look l k).isSome) := by
  have ho : mayO (getO k) = true := by rw [mayO_get]; exact hk
  unfold valueP
  rw [doP_ok h ho]
  simp only [getO, if_true, wasR_eq]
  cases look l k <;> rfl
end Go.Proofs.Ytiipelccmkidbaa
