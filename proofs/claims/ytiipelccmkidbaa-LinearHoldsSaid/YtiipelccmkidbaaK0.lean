/- Plain: a key-value state as a list of pairs of texts, by rising keys. No program in sight. -/
import Derived.Test.YtiipelccmkidbaaKit
import Derived.Laws.Strings
namespace Go.Proofs.Ytiipelccmkidbaa

abbrev Tx := ByteArray
abbrev Pr := Tx × Tx

def kl (a b : Tx) : Bool := Op.bytesLess a.toList b.toList
theorem bless_lex : ∀ (x y : List UInt8), Op.bytesLess x y = decide (x < y)
  | [], [] => by simp [Op.bytesLess]
  | _ :: _, [] => by simp [Op.bytesLess]
  | [], _ :: _ => by simp [Op.bytesLess]
  | a :: x, b :: y => by
    rw [Op.bytesLess, bless_lex x y]
    simp only [List.cons_lt_cons_iff]
    by_cases h1 : a < b <;> by_cases h2 : a = b <;> by_cases h3 : x < y <;> simp [h1, h2, h3]
theorem kl_lt (a b : Tx) : kl a b = decide (a.toList < b.toList) := bless_lex _ _
theorem tx_ext {a b : Tx} (h : a.toList = b.toList) : a = b := by
  rw [ByteArray.toList_eq, ByteArray.toList_eq] at h
  exact ByteArray.ext (Array.toList_inj.mp h)
theorem tx_eq (a b : Tx) : (a.toList == b.toList) = decide (a = b) := by
  by_cases h : a = b
  · subst h; simp
  · rw [decide_eq_false h, beq_eq_false_iff_ne]
    exact fun e => h (tx_ext e)
theorem kl_irrefl (a : Tx) : kl a a = false := by
  rw [kl_lt, decide_eq_false_iff_not]
  exact List.lt_irrefl _
theorem kl_trans {a b c : Tx} (h1 : kl a b = true) (h2 : kl b c = true) : kl a c = true := by
  rw [kl_lt, decide_eq_true_eq] at *
  exact List.lt_trans h1 h2
theorem kl_tri {a b : Tx} (h1 : kl a b = false) (h2 : kl b a = false) : a = b := by
  rw [kl_lt, decide_eq_false_iff_not] at *
  exact tx_ext (List.le_antisymm (List.not_lt.1 h2) (List.not_lt.1 h1))
theorem kl_asymm {a b : Tx} (h : kl a b = true) : kl b a = false := by
  cases h2 : kl b a with
  | false => rfl
  | true => exact absurd (kl_trans h h2) (by rw [kl_irrefl]; simp)
theorem kl_ne {a b : Tx} (h : kl a b = true) : a ≠ b := by
  rintro rfl
  rw [kl_irrefl] at h
  cases h

def keyOk (k : Tx) : Bool := decide (1 ≤ k.size) && decide (k.size ≤ 8)
def valOk (v : Tx) : Bool := decide (v.size ≤ 16)

/-- Is the pair at a place as it must be? -/
def goodAt (l : List Pr) (i : Nat) : Bool :=
  match l[i]? with
  | none => true
  | some p => keyOk p.1 && valOk p.2 && (decide (i = 0) || match l[i - 1]? with | none => true | some q => kl q.1 p.1)
def goods (l : List Pr) (k : Nat) : Bool := (List.range k).all (goodAt l)
def mayS (l : List Pr) : Bool := decide (l.length ≤ 8) && goods l l.length

theorem goods_zero (l : List Pr) : goods l 0 = true := by simp [goods]
theorem goods_succ (l : List Pr) (k : Nat) : goods l (k + 1) = (goods l k && goodAt l k) := by simp [goods, List.range_succ]
theorem goods_false {l : List Pr} {k : Nat} (hk : k < l.length) (h : goodAt l k = false) : goods l l.length = false := by
  unfold goods
  rw [List.all_eq_false]
  exact ⟨k, by simpa using hk, by simp [h]⟩

def Rises (l : List Pr) : Prop := l.Pairwise (fun p q => kl p.1 q.1 = true)

theorem goodAt_adj {l : List Pr} {i : Nat} {p q : Pr} (hg : goodAt l (i + 1) = true) (hp : l[i]? = some p) (hq : l[i + 1]? = some q) : kl p.1 q.1 = true := by
  unfold goodAt at hg
  rw [hq] at hg
  simp only [Nat.add_sub_cancel, hp, Nat.add_one_ne_zero, decide_false, Bool.false_or, Bool.and_eq_true] at hg
  exact hg.2

theorem may_spec {l : List Pr} (h : mayS l = true) : l.length ≤ 8 ∧ Rises l ∧ ∀ p ∈ l, keyOk p.1 = true ∧ valOk p.2 = true := by
  unfold mayS goods at h
  simp only [Bool.and_eq_true, decide_eq_true_eq, List.all_eq_true, List.mem_range] at h
  obtain ⟨h8, hg⟩ := h
  refine ⟨h8, ?_, ?_⟩
  · unfold Rises
    rw [List.pairwise_iff_getElem]
    intro i j hi hj hij
    induction j with
    | zero => omega
    | succ j ih =>
      have hadj := goodAt_adj (hg (j + 1) hj) (List.getElem?_eq_getElem (show j < l.length by omega)) (List.getElem?_eq_getElem hj)
      by_cases he : i = j
      · subst he; exact hadj
      · exact kl_trans (ih (by omega) (by omega)) hadj
  · intro p hp
    obtain ⟨i, hi, rfl⟩ := List.getElem_of_mem hp
    have := hg i hi
    unfold goodAt at this
    rw [List.getElem?_eq_getElem hi] at this
    simp only [Bool.and_eq_true] at this
    exact this.1

theorem may_mk {l : List Pr} (h8 : l.length ≤ 8) (hr : Rises l) (ha : ∀ p ∈ l, keyOk p.1 = true ∧ valOk p.2 = true) : mayS l = true := by
  unfold mayS goods
  simp only [Bool.and_eq_true, decide_eq_true_eq, List.all_eq_true, List.mem_range]
  refine ⟨h8, fun i hi => ?_⟩
  unfold goodAt
  rw [List.getElem?_eq_getElem hi]
  have h1 := ha l[i] (List.getElem_mem hi)
  simp only [h1.1, h1.2, Bool.true_and, Bool.or_eq_true, decide_eq_true_eq]
  by_cases h0 : i = 0
  · exact .inl h0
  · right
    rw [List.getElem?_eq_getElem (show i - 1 < l.length by omega)]
    exact (List.pairwise_iff_getElem.1 hr) (i - 1) i (by omega) hi (by omega)

/-! ### Ahead of a key, at it, behind it -/
def lo (l : List Pr) (k : Tx) : List Pr := l.filter (fun p => kl p.1 k)
def mid (l : List Pr) (k : Tx) : List Pr := l.filter (fun p => decide (p.1 = k))
def hi (l : List Pr) (k : Tx) : List Pr := l.filter (fun p => kl k p.1)

theorem filter_none {α : Type} {l : List α} {p : α → Bool} (h : ∀ y ∈ l, p y = false) : l.filter p = [] := by
  rw [List.filter_eq_nil_iff]
  intro y hy
  simp [h y hy]

theorem split3 (k : Tx) : ∀ {l : List Pr}, Rises l → l = lo l k ++ mid l k ++ hi l k
  | [], _ => rfl
  | p :: l, h => by
    have h2 := List.pairwise_cons.1 h
    have ih := split3 k h2.2
    cases h1 : kl p.1 k with
    | true =>
      have e1 : decide (p.1 = k) = false := decide_eq_false (kl_ne h1)
      have e2 : kl k p.1 = false := kl_asymm h1
      simp only [lo, mid, hi, List.filter_cons, h1, e1, e2, if_true, List.cons_append] at ih ⊢
      simp only [Bool.false_eq_true, if_false]
      rw [← ih]
    | false =>
      have hb : ∀ q ∈ l, kl k q.1 = true := fun q hq => by
        have h3 := h2.1 q hq
        cases h4 : kl k p.1 with
        | true => exact kl_trans h4 h3
        | false => rw [← kl_tri h1 h4]; exact h3
      have e1 : l.filter (fun p => kl p.1 k) = [] := filter_none fun q hq => kl_asymm (hb q hq)
      have e2 : l.filter (fun p => decide (p.1 = k)) = [] := filter_none fun q hq => decide_eq_false (fun e => kl_ne (hb q hq) e.symm)
      have e3 : l.filter (fun p => kl k p.1) = l := List.filter_eq_self.2 hb
      simp only [lo, mid, hi, List.filter_cons, h1, e1, e2, e3, Bool.false_eq_true, if_false, List.nil_append]
      cases h4 : kl k p.1 with
      | true =>
        rw [decide_eq_false (fun e => kl_ne h4 e.symm)]
        simp
      | false =>
        rw [decide_eq_true (kl_tri h1 h4)]
        simp

theorem mid_spec (k : Tx) : ∀ {l : List Pr}, Rises l → mid l k = [] ∨ ∃ v, mid l k = [(k, v)]
  | [], _ => .inl rfl
  | p :: l, h => by
    have h2 := List.pairwise_cons.1 h
    by_cases e : p.1 = k
    · have : mid l k = [] := filter_none fun q hq => decide_eq_false (fun e2 => kl_ne (h2.1 q hq) (e.trans e2.symm))
      right
      refine ⟨p.2, ?_⟩
      simp only [mid, List.filter_cons, decide_eq_true e, if_true] at this ⊢
      rw [this, ← e]
    · have := mid_spec k h2.2
      simpa [mid, List.filter_cons, e] using this

/-- What a key has. -/
def look (l : List Pr) (k : Tx) : Option Tx := (mid l k).head?.map (·.2)
def putL (l : List Pr) (k v : Tx) : List Pr := lo l k ++ (k, v) :: hi l k
def delL (l : List Pr) (k : Tx) : List Pr := lo l k ++ hi l k

/-- Where a key stands, or would. -/
def Pos (l : List Pr) (k : Tx) (i : Nat) : Prop :=
  i ≤ l.length ∧ (∀ j q, l[j]? = some q → j < i → kl q.1 k = true) ∧ (∀ j q, l[j]? = some q → i ≤ j → kl q.1 k = false)

theorem pos_lo {l : List Pr} {k : Tx} {i : Nat} (h : Pos l k i) : i = (lo l k).length := by
  obtain ⟨hl, h1, h2⟩ := h
  have e : l = l.take i ++ l.drop i := by simp
  have e2 : (lo l k) = l.take i := by
    unfold lo
    rw [e, List.filter_append]
    have f1 : (l.take i).filter (fun p => kl p.1 k) = l.take i := List.filter_eq_self.2 fun q hq => by
      obtain ⟨j, hj, rfl⟩ := List.getElem_of_mem hq
      rw [List.length_take] at hj
      rw [List.getElem_take]
      exact h1 j _ (List.getElem?_eq_getElem (by omega)) (by omega)
    have f2 : (l.drop i).filter (fun p => kl p.1 k) = [] := filter_none fun q hq => by
      obtain ⟨j, hj, rfl⟩ := List.getElem_of_mem hq
      rw [List.length_drop] at hj
      rw [List.getElem_drop]
      exact h2 (i + j) _ (List.getElem?_eq_getElem (by omega)) (by omega)
    rw [f1, f2]
    simp
  rw [e2, List.length_take]
  omega

theorem at_lo {l : List Pr} (hr : Rises l) (k : Tx) : l[(lo l k).length]? = (mid l k ++ hi l k).head? := by
  have e := split3 k hr
  have : l[(lo l k).length]? = (lo l k ++ (mid l k ++ hi l k))[(lo l k).length]? := by rw [← List.append_assoc, ← e]
  rw [this, List.getElem?_append_right (Nat.le_refl _), Nat.sub_self, List.head?_eq_getElem?]

theorem at_yes {l : List Pr} (hr : Rises l) {k v : Tx} (h : look l k = some v) : l[(lo l k).length]? = some (k, v) := by
  rw [at_lo hr]
  rcases mid_spec k hr with h1 | ⟨u, h1⟩
  · simp [look, h1] at h
  · simp [look, h1] at h
    subst h
    simp [h1]

theorem at_no {l : List Pr} (hr : Rises l) {k : Tx} (h : look l k = none) {q : Pr} (hq : l[(lo l k).length]? = some q) : q.1 ≠ k := by
  rw [at_lo hr] at hq
  rcases mid_spec k hr with h1 | ⟨u, h1⟩
  · rw [h1, List.nil_append] at hq
    have hm := List.mem_of_mem_head? hq
    unfold hi at hm
    rw [List.mem_filter] at hm
    exact fun e => kl_ne hm.2 e.symm
  · simp [look, h1] at h

theorem put_there {l : List Pr} (hr : Rises l) {k v w : Tx} (h : look l k = some v) : l.set (lo l k).length (k, w) = putL l k w := by
  rcases mid_spec k hr with h1 | ⟨u, h1⟩
  · simp [look, h1] at h
  · have e := split3 k hr
    rw [h1] at e
    have : l.set (lo l k).length (k, w) = (lo l k ++ [(k, u)] ++ hi l k).set (lo l k).length (k, w) := by rw [← e]
    rw [this]
    simp [putL]

theorem put_new {l : List Pr} (hr : Rises l) {k w : Tx} (h : look l k = none) : l.take (lo l k).length ++ (k, w) :: l.drop (lo l k).length = putL l k w := by
  rcases mid_spec k hr with h1 | ⟨u, h1⟩
  · have e := split3 k hr
    rw [h1, List.append_nil] at e
    have e1 : l.take (lo l k).length = lo l k := by
      have : l.take (lo l k).length = (lo l k ++ hi l k).take (lo l k).length := by rw [← e]
      rw [this]; simp
    have e2 : l.drop (lo l k).length = hi l k := by
      have : l.drop (lo l k).length = (lo l k ++ hi l k).drop (lo l k).length := by rw [← e]
      rw [this]; simp
    rw [e1, e2]
    rfl
  · simp [look, h1] at h

theorem del_there {l : List Pr} (hr : Rises l) {k v : Tx} (h : look l k = some v) : l.take (lo l k).length ++ l.drop ((lo l k).length + 1) = delL l k := by
  rcases mid_spec k hr with h1 | ⟨u, h1⟩
  · simp [look, h1] at h
  · have e := split3 k hr
    rw [h1] at e
    have e1 : l.take (lo l k).length = lo l k := by
      have : l.take (lo l k).length = (lo l k ++ [(k, u)] ++ hi l k).take (lo l k).length := by rw [← e]
      rw [this]; simp
    have e2 : l.drop ((lo l k).length + 1) = hi l k := by
      have : l.drop ((lo l k).length + 1) = (lo l k ++ [(k, u)] ++ hi l k).drop ((lo l k).length + 1) := by rw [← e]
      rw [this, List.drop_append]
      simp
    rw [e1, e2]
    rfl

theorem del_none {l : List Pr} (hr : Rises l) {k : Tx} (h : look l k = none) : delL l k = l := by
  rcases mid_spec k hr with h1 | ⟨u, h1⟩
  · have e := split3 k hr
    rw [h1, List.append_nil] at e
    exact e.symm
  · simp [look, h1] at h

/-! ### Operations -/
structure Opn where
  kind : Int
  key : Tx
  old : Tx
  val : Tx
structure Rp where
  err : Int
  found : Bool
  val : Tx

def mayO (o : Opn) : Bool :=
  keyOk o.key && valOk o.old && valOk o.val &&
    (if o.kind = 1 ∨ o.kind = 3 then decide (o.old.size = 0) && decide (o.val.size = 0) else if o.kind = 2 then decide (o.old.size = 0) else decide (o.kind = 4))

def wasR (l : List Pr) (k : Tx) : Rp := match look l k with | none => ⟨0, false, ⟨#[]⟩⟩ | some v => ⟨0, true, v⟩

def doP (l : List Pr) (o : Opn) : List Pr × Rp :=
  if mayS l = false then ([], ⟨2, false, ⟨#[]⟩⟩)
  else if mayO o = false then (l, ⟨210, false, ⟨#[]⟩⟩)
  else if o.kind = 1 then (l, wasR l o.key)
  else if o.kind = 2 then (if look l o.key = none ∧ l.length = 8 then (l, ⟨211, false, ⟨#[]⟩⟩) else (putL l o.key o.val, wasR l o.key))
  else if o.kind = 3 then (delL l o.key, wasR l o.key)
  else if look l o.key = some o.old then (putL l o.key o.val, wasR l o.key) else (l, { wasR l o.key with found := false })
end Go.Proofs.Ytiipelccmkidbaa
