/- Texts that the claim leans on, part 1: Kit, K0, IE, J1, J2, K6, K7, Mem. -/
import Derived.WalkKit
import Derived.WalkSpells
import Derived.WalkLawsBesides
import Derived.Handy
import Derived.Lib.Hide
import Derived.ProofKit
import Derived.Deep.QuietTactic
import Derived.OpenShut
import Derived.Laws.Strings
import Derived.Laws.CopyOwn
import Derived.Laws.CopyRow
import Derived.Laws.NewBlocks
import Derived.Deep.RegionLaw
namespace Go.Proofs.Ytkkoookmnnmiiaa
open Go.ChangeShapes Go.WideShapes Go.ChangeAt Go.RowKit

theorem ret_int {k : IntKind} {a b : Int} (h : a = b) : Ending.returned (.int k a) = .returned (.int k b) := by rw [h]
theorem bool_eq {a b : Bool} (h : a = b) : Value.bool a = .bool b := by rw [h]
theorem int_eq {k : IntKind} {a b : Int} (h : a = b) : Value.int k a = .int k b := by rw [h]
theorem ret_bool {a b : Bool} (h : a = b) : Ending.returned (.bool a) = .returned (.bool b) := by rw [h]
theorem quiet_same {P : Program} {f : FuncId} {args : Array Value} {w : World} {n : Nat} {v : Value}
    (h : Calls P f args (w.drewN n) fun e w' => e = .returned v ∧ w.drewN n = w') : Calls P f args (w.drewN n) fun e w'' => e = .returned v ∧ ∃ m, w'' = w.drewN m :=
  h.mono fun _ _ ⟨he, hm⟩ => ⟨he, n, hm.symm⟩

section
variable {H : Type} {enc : TypeId × Value → H} {P : Program}

theorem trodAll_below (hl : laidOutB P = true) {W W' : World} (hb : Below W.heap.size W W') {sp : Nat → Bool} :
    ∀ (ts : List TypeId) (vs : List Value) (ds : List (DataW H)) (ps : List MemPlace),
      (ts.all fun t => P.readableRec t && decide (t < P.types.size)) = true →
      DataW.TrodAll enc P W 0 (fun _ => true) true ts vs ds ps → (∀ x ∈ ps, x.block < W.heap.size) → (∀ x ∈ ps, sp x.block = true) → DataW.TrodAll enc P W' 0 sp true ts vs ds ps
  | [], vs, ds, ps, _, h, _, _ => by
    cases vs <;> cases ds <;> simp [DataW.TrodAll] at h ⊢
    exact h
  | t :: ts, vs, ds, ps, hr, h, hlt, hs => by
    obtain ⟨v, vs', d, ds', p, q, rfl, rfl, rfl, h1, h2⟩ := trodAll_cons h
    simp only [List.all_cons, Bool.and_eq_true, decide_eq_true_eq] at hr
    refine trodAll_cons_mk ?_ (trodAll_below hl hb ts vs' ds' q hr.2 h2 (fun x hx => hlt x (by simp [hx])) (fun x hx => hs x (by simp [hx])))
    exact WideElems.Trod_stays hl hr.1.1 hr.1.2 h1 (fun x hx => hb.same (hlt x (by simp [hx]))) (fun x hx => hs x (by simp [hx]))

/-- A law's post: the walk answers true and writes nothing that was there. -/
theorem law_post {f : Func} {s : ChangeSpec} {W W' : World} {args : Array Value} {tb : TypeId} {ds gs : List (DataW H)} {before : List MemPlace}
    (hl : laidOutB P = true) (hp : (f.params.toList.all fun t => P.readableRec t && decide (t < P.types.size)) = true)
    (hr : f.resultTypes = #[tb]) (hub : P.underlying tb = some .bool) (hvars : s.vars = [])
    (hspec : (s.fn H (ds ++ [])).results = [.lit (.bool true)] ∧ (s.fn H (ds ++ [])).args = ds ∧ (s.fn H (ds ++ [])).vars = [])
    (hW : DataW.Whole enc P f.params.toList s.vars false W args.toList ds gs before) (hb : Below W.heap.size W W') :
    s.post enc P f false true false false W args (.bool true) W' := by
  have hW0 := hW
  have hlt := hW.lt
  obtain ⟨p, q, hA, hV, rfl, hfz, hnd⟩ := hW
  rw [hvars] at hV
  obtain ⟨rfl, rfl⟩ := trodVars_none hV
  obtain ⟨e1, e2, e3⟩ := hspec
  have hold : ∀ x ∈ p ++ [], (fun b => decide (b < W.heap.size)) x.block = true := fun x hx => by simpa using hlt x hx
  refine ⟨ds, [], p ++ [], [], p, [], hW0, ?_, ?_, ?_, hb.frame _, fun h => by cases h⟩
  · rw [e1, hr]
    exact trodAll_mk1 (shut_bool hub _)
  · rw [e2]
    exact trodAll_below hl hb _ _ _ _ hp hA (fun x hx => hlt x (by simp [hx])) (fun x hx => hold x (by simp [hx]))
  · rw [e3, hvars]
    rfl
end

/-! ### Rows of cells that are read -/

/-- A slice's cells, as far as they are told: none, or they lie one behind the other from an address on. -/
def Row (w : World) (a : Option Addr) (xs : List Value) : Prop :=
  xs = [] ∨ ∃ b off, a = some ⟨b, off, none⟩ ∧ ∀ i u, xs[i]? = some u → w.cell? ⟨b, off + i, none⟩ = some u

theorem Row.below {w w' : World} {a : Option Addr} {xs : List Value} (h : Row w a xs) {B : Nat} (hB : w.heap.size ≤ B) (hb : Below B w w') : Row w' a xs := by
  rcases h with h | ⟨b, off, ha, h⟩
  · exact .inl h
  · refine .inr ⟨b, off, ha, fun i u hu => ?_⟩
    have h1 := h i u hu
    have h2 := World.block_lt_of_cell? _ _ h1
    rw [hb.cell (p := ⟨b, off + i, none⟩) (by simp only at h2 ⊢; omega)]
    exact h1

theorem Row.below0 {w w' : World} {a : Option Addr} {xs : List Value} (h : Row w a xs) (hb : Below w.heap.size w w') : Row w' a xs := h.below (Nat.le_refl _) hb

theorem Row.at {w : World} {a : Option Addr} {xs : List Value} (h : Row w a xs) {k : Nat} (hk : k < xs.length) : ∃ b off, a = some ⟨b, off, none⟩ ∧ ∀ i u, xs[i]? = some u → w.cell? ⟨b, off + i, none⟩ = some u := by
  rcases h with h | h
  · subst h; simp at hk
  · exact h

/-- One number of a row of numbers. -/
theorem Row.int {w : World} {a : Option Addr} {k : IntKind} {l : List Int} (h : Row w a (l.map (Value.int k))) {i : Nat} (hi : i < l.length) :
    ∃ b off x, a = some ⟨b, off, none⟩ ∧ l[i]? = some x ∧ w.cell? ⟨b, off + i, none⟩ = some (.int k x) := by
  obtain ⟨b, off, ha, hc⟩ := h.at (k := i) (by simpa using hi)
  exact ⟨b, off, l[i], ha, by simp [hi], hc i _ (by simp [hi])⟩

theorem Row.intAt {w : World} {b off : Nat} {k : IntKind} {l : List Int} {i : Nat} {x : Int} (h : Row w (some ⟨b, off, none⟩) (l.map (Value.int k))) (hx : l[i]? = some x) : w.cell? ⟨b, off + i, none⟩ = some (.int k x) := by
  rcases h with h | ⟨b', off', e, h⟩
  · simp at h; subst h; simp at hx
  · cases e
    exact h i _ (by simp [hx])

theorem addr_add (b o j : Nat) : (⟨b, o, none⟩ : Addr).add j = ⟨b, o + j, none⟩ := by
  unfold Addr.add
  by_cases h : j = 0 <;> simp [h]

theorem cell_new (w : World) (cs : Array Value) (e : TypeId) (j : Nat) : (w.alloc (.cells cs e)).cell? ⟨w.heap.size, j, none⟩ = cs[j]? := by simp [go_sem]

/-- What a call's own row reads as. -/
theorem Row.of_owns {w : World} {base n size : Nat} {e : TypeId} {v : Value} {xs : List Value} (h : w.ownsRow base e size v n xs) : ∃ a cap, v = .slice a n cap ∧ Row w a xs ∧ n ≤ cap ∧ cap ≤ maxLen := by
  have h0 := h
  obtain ⟨hl, ⟨rfl, rfl⟩ | ⟨g, cap, cur, rfl, hg, hc, hn, hm, hs, ht⟩⟩ := h
  · refine ⟨none, 0, rfl, .inl ?_, Nat.le_refl _, by simp⟩
    simpa using hl
  · refine ⟨some ⟨g, 0, none⟩, cap, rfl, .inr ⟨g, 0, rfl, fun i u hu => ?_⟩, hn, hm⟩
    have := h0.cells (g := g) rfl i u hu
    rw [addr_add] at this
    exact this

theorem owns_mono {w : World} {base base' n size : Nat} {e : TypeId} {v : Value} {xs : List Value} (h : w.ownsRow base e size v n xs) (hb : base' ≤ base) : w.ownsRow base' e size v n xs := by
  obtain ⟨hl, h | ⟨g, cap, cur, hv, hg, r⟩⟩ := h
  · exact ⟨hl, .inl h⟩
  · exact ⟨hl, .inr ⟨g, cap, cur, hv, Nat.le_trans hb hg, r⟩⟩

/-- The facts on a slice's element type, under one name. -/
structure ElemT (P : Program) (t e : TypeId) (size bytes : Nat) : Prop where
  ex : ∃ i z, P.underlying t = some (.slice e) ∧ P.info? e = some i ∧ i.zero = some z ∧ i.size = size ∧ i.bytes = bytes ∧ z.cells.size = size ∧ 0 < size

theorem ElemT.of {P : Program} {t e : TypeId} {size bytes : Nat} (z : Value) (ht : P.underlying t = some (.slice e)) (hi : (P.info? e).map (fun i => (i.zero, i.size, i.bytes)) = some (some z, size, bytes)) (hz : z.cells.size = size) (hp : 0 < size) : ElemT P t e size bytes := by
  obtain ⟨i, h1, h2, h3, h4⟩ := info_parts hi
  exact ⟨⟨i, z, ht, h1, h2, h3, h4, hz, hp⟩⟩

/-- 'append(out, x)': x lies in a new block, as the translation lays it. -/
theorem wpList_append1 {P : Program} {w : World} {ops : Array Oper} {rest : List Oper} {o : Oper} {a : Act} {Q : Exit → Act → World → Prop} (hgd : o.guard = none) (s x : Operand) (t e : TypeId) {size bytes : Nat} (hT : ElemT P t e size bytes)
    (ho : o.op = .call { callee := .builtin .append, args := #[s, x], argTypes := #[t, t] })
    (base : Nat) (v : Value) (n : Nat) (xs : List Value) (hs : a.eval s = v) (hown : w.ownsRow base e size v n xs)
    (cs : Array Value) (hcs : cs.size = size) (h1 : ∀ u ∈ cs.toList, u.oneCell' = true) (e' : TypeId) (hx : a.eval x = .slice (some ⟨w.heap.size, 0, none⟩) 1 1)
    (hn : n < 4294967296) (hby : bytes ≤ 4096) (hbase : base ≤ w.heap.size)
    (h : ∀ v' w', w'.ownsRow base e size v' (n + 1) (xs ++ cs.toList) → Below base w w' → (v' = .slice none 0 0 → False) → wpList P ops Q rest (a.put o.dst v') w') :
    wpList P ops Q (o :: rest) a (w.alloc (.cells cs e')) := by
  obtain ⟨i, z, ht, hi, hz, hsize, hbytes, hzs, hsz⟩ := hT.ex
  refine wpList_append_own _ hgd s x t ho base e i z size bytes ht hi hz hsize hbytes hzs hsz v n xs hs (hown.alloc _) ⟨w.heap.size, 0, none⟩ 1 1 cs.toList hx (by simp [hcs]) ?_ h1 (by unfold maxLen; omega) ?_ ?_ ?_
  · intro j u hj
    rw [addr_add, Nat.zero_add, cell_new]
    simpa using hj
  · have : (n + 1) * bytes ≤ 4294967296 * 4096 := Nat.mul_le_mul (by omega) hby
    omega
  · have : (w.alloc (.cells cs e')).heap.size = w.heap.size + 1 := by simp
    omega
  · intro v' w' h2 h3 h4
    refine h v' w' h2 ?_ (fun hv => ?_)
    · have hb : Below base w (w.alloc (.cells cs e')) := (Below.refl _ _).alloc hbase _
      refine hb.grown h3 (by simp; omega) (fun k hk => ?_)
      exact (hown.lt k hk).1
    · have := (h4.1 hv).2
      omega

def isums (l : List Int) : List Value := l.map (Value.int .i64)
end Go.Proofs.Ytkkoookmnnmiiaa

namespace Go.Proofs.Ytkkoookmnnmiiaa

abbrev Tx := ByteArray
abbrev Pr := Tx × Tx

def kl (a b : Tx) : Bool := Op.bytesLess a.toList b.toList
theorem bless_lex : ∀ (x y : List UInt8), Op.bytesLess x y = decide (x < y)
  | [], [] => by simp [Op.bytesLess]
  | _ :: _, [] => by simp [Op.bytesLess]
  | [], _ :: _ => by simp [Op.bytesLess]
  | a :: x, b :: y => by
    rw [Op.bytesLess, bless_lex x y]
    simp only [List.cons_lt_cons_iff]
    by_cases h1 : a < b <;> by_cases h2 : a = b <;> by_cases h3 : x < y <;> simp [h1, h2, h3]
theorem kl_lt (a b : Tx) : kl a b = decide (a.toList < b.toList) := bless_lex _ _
theorem tx_ext {a b : Tx} (h : a.toList = b.toList) : a = b := by
  rw [ByteArray.toList_eq, ByteArray.toList_eq] at h
  exact ByteArray.ext (Array.toList_inj.mp h)
theorem tx_eq (a b : Tx) : (a.toList == b.toList) = decide (a = b) := by
  by_cases h : a = b
  · subst h; simp
  · rw [decide_eq_false h, beq_eq_false_iff_ne]
    exact fun e => h (tx_ext e)
theorem kl_irrefl (a : Tx) : kl a a = false := by
  rw [kl_lt, decide_eq_false_iff_not]
  exact List.lt_irrefl _
theorem kl_trans {a b c : Tx} (h1 : kl a b = true) (h2 : kl b c = true) : kl a c = true := by
  rw [kl_lt, decide_eq_true_eq] at *
  exact List.lt_trans h1 h2
theorem kl_tri {a b : Tx} (h1 : kl a b = false) (h2 : kl b a = false) : a = b := by
  rw [kl_lt, decide_eq_false_iff_not] at *
  exact tx_ext (List.le_antisymm (List.not_lt.1 h2) (List.not_lt.1 h1))
theorem kl_asymm {a b : Tx} (h : kl a b = true) : kl b a = false := by
  cases h2 : kl b a with
  | false => rfl
  | true => exact absurd (kl_trans h h2) (by rw [kl_irrefl]; simp)
theorem kl_ne {a b : Tx} (h : kl a b = true) : a ≠ b := by
  rintro rfl
  rw [kl_irrefl] at h
  cases h

def keyOk (k : Tx) : Bool := decide (1 ≤ k.size) && decide (k.size ≤ 8)
def valOk (v : Tx) : Bool := decide (v.size ≤ 16)

/-- Is the pair at a place as it must be? -/
def goodAt (l : List Pr) (i : Nat) : Bool :=
  match l[i]? with
  | none => true
  | some p => keyOk p.1 && valOk p.2 && (decide (i = 0) || match l[i - 1]? with | none => true | some q => kl q.1 p.1)
def goods (l : List Pr) (k : Nat) : Bool := (List.range k).all (goodAt l)
def mayS (l : List Pr) : Bool := decide (l.length ≤ 8) && goods l l.length

theorem goods_zero (l : List Pr) : goods l 0 = true := by simp [goods]
theorem goods_succ (l : List Pr) (k : Nat) : goods l (k + 1) = (goods l k && goodAt l k) := by simp [goods, List.range_succ]
theorem goods_false {l : List Pr} {k : Nat} (hk : k < l.length) (h : goodAt l k = false) : goods l l.length = false := by
  unfold goods
  rw [List.all_eq_false]
  exact ⟨k, by simpa using hk, by simp [h]⟩

def Rises (l : List Pr) : Prop := l.Pairwise (fun p q => kl p.1 q.1 = true)

theorem goodAt_adj {l : List Pr} {i : Nat} {p q : Pr} (hg : goodAt l (i + 1) = true) (hp : l[i]? = some p) (hq : l[i + 1]? = some q) : kl p.1 q.1 = true := by
  unfold goodAt at hg
  rw [hq] at hg
  simp only [Nat.add_sub_cancel, hp, Nat.add_one_ne_zero, decide_false, Bool.false_or, Bool.and_eq_true] at hg
  exact hg.2

theorem may_spec {l : List Pr} (h : mayS l = true) : l.length ≤ 8 ∧ Rises l ∧ ∀ p ∈ l, keyOk p.1 = true ∧ valOk p.2 = true := by
  unfold mayS goods at h
  simp only [Bool.and_eq_true, decide_eq_true_eq, List.all_eq_true, List.mem_range] at h
  obtain ⟨h8, hg⟩ := h
  refine ⟨h8, ?_, ?_⟩
  · unfold Rises
    rw [List.pairwise_iff_getElem]
    intro i j hi hj hij
    induction j with
    | zero => omega
    | succ j ih =>
      have hadj := goodAt_adj (hg (j + 1) hj) (List.getElem?_eq_getElem (show j < l.length by omega)) (List.getElem?_eq_getElem hj)
      by_cases he : i = j
      · subst he; exact hadj
      · exact kl_trans (ih (by omega) (by omega)) hadj
  · intro p hp
    obtain ⟨i, hi, rfl⟩ := List.getElem_of_mem hp
    have := hg i hi
    unfold goodAt at this
    rw [List.getElem?_eq_getElem hi] at this
    simp only [Bool.and_eq_true] at this
    exact this.1

theorem may_mk {l : List Pr} (h8 : l.length ≤ 8) (hr : Rises l) (ha : ∀ p ∈ l, keyOk p.1 = true ∧ valOk p.2 = true) : mayS l = true := by
  unfold mayS goods
  simp only [Bool.and_eq_true, decide_eq_true_eq, List.all_eq_true, List.mem_range]
  refine ⟨h8, fun i hi => ?_⟩
  unfold goodAt
  rw [List.getElem?_eq_getElem hi]
  have h1 := ha l[i] (List.getElem_mem hi)
  simp only [h1.1, h1.2, Bool.true_and, Bool.or_eq_true, decide_eq_true_eq]
  by_cases h0 : i = 0
  · exact .inl h0
  · right
    rw [List.getElem?_eq_getElem (show i - 1 < l.length by omega)]
    exact (List.pairwise_iff_getElem.1 hr) (i - 1) i (by omega) hi (by omega)

/-! ### Ahead of a key, at it, behind it -/
def lo (l : List Pr) (k : Tx) : List Pr := l.filter (fun p => kl p.1 k)
def mid (l : List Pr) (k : Tx) : List Pr := l.filter (fun p => decide (p.1 = k))
def hi (l : List Pr) (k : Tx) : List Pr := l.filter (fun p => kl k p.1)

theorem filter_none {α : Type} {l : List α} {p : α → Bool} (h : ∀ y ∈ l, p y = false) : l.filter p = [] := by
  rw [List.filter_eq_nil_iff]
  intro y hy
  simp [h y hy]

theorem split3 (k : Tx) : ∀ {l : List Pr}, Rises l → l = lo l k ++ mid l k ++ hi l k
  | [], _ => rfl
  | p :: l, h => by
    have h2 := List.pairwise_cons.1 h
    have ih := split3 k h2.2
    cases h1 : kl p.1 k with
    | true =>
      have e1 : decide (p.1 = k) = false := decide_eq_false (kl_ne h1)
      have e2 : kl k p.1 = false := kl_asymm h1
      simp only [lo, mid, hi, List.filter_cons, h1, e1, e2, if_true, List.cons_append] at ih ⊢
      simp only [Bool.false_eq_true, if_false]
      rw [← ih]
    | false =>
      have hb : ∀ q ∈ l, kl k q.1 = true := fun q hq => by
        have h3 := h2.1 q hq
        cases h4 : kl k p.1 with
        | true => exact kl_trans h4 h3
        | false => rw [← kl_tri h1 h4]; exact h3
      have e1 : l.filter (fun p => kl p.1 k) = [] := filter_none fun q hq => kl_asymm (hb q hq)
      have e2 : l.filter (fun p => decide (p.1 = k)) = [] := filter_none fun q hq => decide_eq_false (fun e => kl_ne (hb q hq) e.symm)
      have e3 : l.filter (fun p => kl k p.1) = l := List.filter_eq_self.2 hb
      simp only [lo, mid, hi, List.filter_cons, h1, e1, e2, e3, Bool.false_eq_true, if_false, List.nil_append]
      cases h4 : kl k p.1 with
      | true =>
        rw [decide_eq_false (fun e => kl_ne h4 e.symm)]
        simp
      | false =>
        rw [decide_eq_true (kl_tri h1 h4)]
        simp

theorem mid_spec (k : Tx) : ∀ {l : List Pr}, Rises l → mid l k = [] ∨ ∃ v, mid l k = [(k, v)]
  | [], _ => .inl rfl
  | p :: l, h => by
    have h2 := List.pairwise_cons.1 h
    by_cases e : p.1 = k
    · have : mid l k = [] := filter_none fun q hq => decide_eq_false (fun e2 => kl_ne (h2.1 q hq) (e.trans e2.symm))
      right
      refine ⟨p.2, ?_⟩
      simp only [mid, List.filter_cons, decide_eq_true e, if_true] at this ⊢
      rw [this, ← e]
    · have := mid_spec k h2.2
      simpa [mid, List.filter_cons, e] using this

/-- What a key has. -/
def look (l : List Pr) (k : Tx) : Option Tx := (mid l k).head?.map (·.2)
def putL (l : List Pr) (k v : Tx) : List Pr := lo l k ++ (k, v) :: hi l k
def delL (l : List Pr) (k : Tx) : List Pr := lo l k ++ hi l k

/-- Where a key stands, or would. -/
def Pos (l : List Pr) (k : Tx) (i : Nat) : Prop :=
  i ≤ l.length ∧ (∀ j q, l[j]? = some q → j < i → kl q.1 k = true) ∧ (∀ j q, l[j]? = some q → i ≤ j → kl q.1 k = false)

theorem pos_lo {l : List Pr} {k : Tx} {i : Nat} (h : Pos l k i) : i = (lo l k).length := by
  obtain ⟨hl, h1, h2⟩ := h
  have e : l = l.take i ++ l.drop i := by simp
  have e2 : (lo l k) = l.take i := by
    unfold lo
    rw [e, List.filter_append]
    have f1 : (l.take i).filter (fun p => kl p.1 k) = l.take i := List.filter_eq_self.2 fun q hq => by
      obtain ⟨j, hj, rfl⟩ := List.getElem_of_mem hq
      rw [List.length_take] at hj
      rw [List.getElem_take]
      exact h1 j _ (List.getElem?_eq_getElem (by omega)) (by omega)
    have f2 : (l.drop i).filter (fun p => kl p.1 k) = [] := filter_none fun q hq => by
      obtain ⟨j, hj, rfl⟩ := List.getElem_of_mem hq
      rw [List.length_drop] at hj
      rw [List.getElem_drop]
      exact h2 (i + j) _ (List.getElem?_eq_getElem (by omega)) (by omega)
    rw [f1, f2]
    simp
  rw [e2, List.length_take]
  omega

theorem at_lo {l : List Pr} (hr : Rises l) (k : Tx) : l[(lo l k).length]? = (mid l k ++ hi l k).head? := by
  have e := split3 k hr
  have : l[(lo l k).length]? = (lo l k ++ (mid l k ++ hi l k))[(lo l k).length]? := by rw [← List.append_assoc, ← e]
  rw [this, List.getElem?_append_right (Nat.le_refl _), Nat.sub_self, List.head?_eq_getElem?]

theorem at_yes {l : List Pr} (hr : Rises l) {k v : Tx} (h : look l k = some v) : l[(lo l k).length]? = some (k, v) := by
  rw [at_lo hr]
  rcases mid_spec k hr with h1 | ⟨u, h1⟩
  · simp [look, h1] at h
  · simp [look, h1] at h
    subst h
    simp [h1]

theorem at_no {l : List Pr} (hr : Rises l) {k : Tx} (h : look l k = none) {q : Pr} (hq : l[(lo l k).length]? = some q) : q.1 ≠ k := by
  rw [at_lo hr] at hq
  rcases mid_spec k hr with h1 | ⟨u, h1⟩
  · rw [h1, List.nil_append] at hq
    have hm := List.mem_of_mem_head? hq
    unfold hi at hm
    rw [List.mem_filter] at hm
    exact fun e => kl_ne hm.2 e.symm
  · simp [look, h1] at h

theorem put_there {l : List Pr} (hr : Rises l) {k v w : Tx} (h : look l k = some v) : l.set (lo l k).length (k, w) = putL l k w := by
  rcases mid_spec k hr with h1 | ⟨u, h1⟩
  · simp [look, h1] at h
  · have e := split3 k hr
    rw [h1] at e
    have : l.set (lo l k).length (k, w) = (lo l k ++ [(k, u)] ++ hi l k).set (lo l k).length (k, w) := by rw [← e]
    rw [this]
    simp [putL]

theorem put_new {l : List Pr} (hr : Rises l) {k w : Tx} (h : look l k = none) : l.take (lo l k).length ++ (k, w) :: l.drop (lo l k).length = putL l k w := by
  rcases mid_spec k hr with h1 | ⟨u, h1⟩
  · have e := split3 k hr
    rw [h1, List.append_nil] at e
    have e1 : l.take (lo l k).length = lo l k := by
      have : l.take (lo l k).length = (lo l k ++ hi l k).take (lo l k).length := by rw [← e]
      rw [this]; simp
    have e2 : l.drop (lo l k).length = hi l k := by
      have : l.drop (lo l k).length = (lo l k ++ hi l k).drop (lo l k).length := by rw [← e]
      rw [this]; simp
    rw [e1, e2]
    rfl
  · simp [look, h1] at h

theorem del_there {l : List Pr} (hr : Rises l) {k v : Tx} (h : look l k = some v) : l.take (lo l k).length ++ l.drop ((lo l k).length + 1) = delL l k := by
  rcases mid_spec k hr with h1 | ⟨u, h1⟩
  · simp [look, h1] at h
  · have e := split3 k hr
    rw [h1] at e
    have e1 : l.take (lo l k).length = lo l k := by
      have : l.take (lo l k).length = (lo l k ++ [(k, u)] ++ hi l k).take (lo l k).length := by rw [← e]
      rw [this]; simp
    have e2 : l.drop ((lo l k).length + 1) = hi l k := by
      have : l.drop ((lo l k).length + 1) = (lo l k ++ [(k, u)] ++ hi l k).drop ((lo l k).length + 1) := by rw [← e]
      rw [this, List.drop_append]
      simp
    rw [e1, e2]
    rfl

theorem del_none {l : List Pr} (hr : Rises l) {k : Tx} (h : look l k = none) : delL l k = l := by
  rcases mid_spec k hr with h1 | ⟨u, h1⟩
  · have e := split3 k hr
    rw [h1, List.append_nil] at e
    exact e.symm
  · simp [look, h1] at h

/-! ### Operations -/
structure Opn where
  kind : Int
  key : Tx
  old : Tx
  val : Tx
structure Rp where
  err : Int
  found : Bool
  val : Tx

def mayO (o : Opn) : Bool :=
  keyOk o.key && valOk o.old && valOk o.val &&
    (if o.kind = 1 ∨ o.kind = 3 then decide (o.old.size = 0) && decide (o.val.size = 0) else if o.kind = 2 then decide (o.old.size = 0) else decide (o.kind = 4))

def wasR (l : List Pr) (k : Tx) : Rp := match look l k with | none => ⟨0, false, ⟨#[]⟩⟩ | some v => ⟨0, true, v⟩

def doP (l : List Pr) (o : Opn) : List Pr × Rp :=
  if mayS l = false then ([], ⟨2, false, ⟨#[]⟩⟩)
  else if mayO o = false then (l, ⟨210, false, ⟨#[]⟩⟩)
  else if o.kind = 1 then (l, wasR l o.key)
  else if o.kind = 2 then (if look l o.key = none ∧ l.length = 8 then (l, ⟨211, false, ⟨#[]⟩⟩) else (putL l o.key o.val, wasR l o.key))
  else if o.kind = 3 then (delL l o.key, wasR l o.key)
  else if look l o.key = some o.old then (putL l o.key o.val, wasR l o.key) else (l, { wasR l o.key with found := false })
end Go.Proofs.Ytkkoookmnnmiiaa

namespace Go.Proofs.Ytkkoookmnnmiiaa

structure En where
  kind : Int
  cli : Int
  seq : Int
  op : Opn
def big40 : Int := 1099511627776
def nilO (o : Opn) : Bool := o.kind == 0 && o.key.toList == [] && o.old.toList == [] && o.val.toList == []
def mayE (e : En) : Bool :=
  if e.kind = 1 then e.cli == 0 && e.seq == 0 && nilO e.op
  else e.kind == 2 && decide (0 ≤ e.cli) && decide (e.cli < 4) && decide (1 ≤ e.seq) && decide (e.seq ≤ big40) && mayO e.op && e.op.kind != 1
def enA (e : En) : Array Value := #[.int .u8 e.kind, .int .i64 e.cli, .int .i64 e.seq, .int .u8 e.op.kind, .string e.op.key, .string e.op.old, .string e.op.val]
def enC (e : En) : List Value := (enA e).toList
theorem enC_len (e : En) : (enC e).length = 7 := rfl
end Go.Proofs.Ytkkoookmnnmiiaa

namespace Go.Proofs.Ytkkoookmnnmiiaa

/-- An applied entry. -/
structure Ap where
  idx : Int
  e : En
def zeroE : En := ⟨0, 0, 0, ⟨0, ⟨#[]⟩, ⟨#[]⟩, ⟨#[]⟩⟩⟩
def eqE (a b : En) : Bool := a.kind == b.kind && (a.cli == b.cli && (a.seq == b.seq && (a.op.kind == b.op.kind && (a.op.key.toList == b.op.key.toList && (a.op.old.toList == b.op.old.toList && a.op.val.toList == b.op.val.toList)))))
theorem eqE_iff {a b : En} : eqE a b = true ↔ a = b := by
  obtain ⟨k, c, s, ⟨o, x, y, z⟩⟩ := a
  obtain ⟨k', c', s', ⟨o', x', y', z'⟩⟩ := b
  unfold eqE
  simp only [Bool.and_eq_true, beq_iff_eq, En.mk.injEq, Opn.mk.injEq]
  constructor
  · rintro ⟨h1, h2, h3, h4, h5, h6, h7⟩
    exact ⟨h1, h2, h3, h4, tx_ext h5, tx_ext h6, tx_ext h7⟩
  · rintro ⟨h1, h2, h3, h4, rfl, rfl, rfl⟩
    exact ⟨h1, h2, h3, h4, rfl, rfl, rfl⟩
theorem eqE_self (a : En) : eqE a a = true := eqE_iff.2 rfl
theorem eqE_no {a b : En} : eqE a b = false ↔ a ≠ b := by
  cases h : eqE a b
  · exact ⟨fun _ e => (by rw [eqE_iff.2 e] at h; cases h), fun _ => rfl⟩
  · exact ⟨fun h2 => (by cases h2), fun e => absurd (eqE_iff.1 h) e⟩
def noneE (e : En) : Bool := eqE e zeroE
/-- All entries that are, in order. -/
def flatJ (ls : List (List Ap)) : List Ap := ls.flatten.filter (fun x => !noneE x.e)
/-- The first entry of an index. -/
def firstJ (f : List Ap) (i : Int) : Option En := (f.find? (fun x => x.idx == i)).map (·.e)
def oddAt (f : List Ap) (x : Ap) : Bool := match firstJ f x.idx with | some e => !eqE e x.e | none => false
def oddJ (f : List Ap) : List Int := (f.filter (oddAt f)).map (·.idx)
def agreeJ (f : List Ap) : Bool := (oddJ f).isEmpty
def minI : List Int → Int
  | [] => 0
  | x :: l => l.foldl min x
def firstOdd (f : List Ap) : Int := minI (oddJ f)
section
variable {f f' : List Ap} {i : Int} {x y : Ap}
theorem first_snoc (f : List Ap) (x : Ap) (i : Int) : firstJ (f ++ [x]) i = match firstJ f i with | some e => some e | none => if x.idx = i then some x.e else none := by
  unfold firstJ
  rw [List.find?_append]
  cases h : List.find? (fun x => x.idx == i) f with
  | some a => simp
  | none =>
    by_cases hx : x.idx = i
    · simp [hx]
    · simp [hx]
theorem first_mem {e : En} (h : firstJ f i = some e) : ∃ x ∈ f, x.idx = i ∧ x.e = e := by
  unfold firstJ at h
  obtain ⟨x, hx, rfl⟩ := Option.map_eq_some_iff.1 h
  have h1 := List.find?_some hx
  exact ⟨x, List.mem_of_find?_eq_some hx, by simpa using h1, rfl⟩
theorem first_of (h : x ∈ f) : ∃ e, firstJ f x.idx = some e := by
  unfold firstJ
  cases h1 : List.find? (fun y => y.idx == x.idx) f with
  | some a => exact ⟨_, rfl⟩
  | none =>
    have := List.find?_eq_none.1 h1 x h
    simp at this
theorem odd_snoc (f : List Ap) (x : Ap) : oddJ (f ++ [x]) = oddJ f ++ (if oddAt f x = true then [x.idx] else []) := by
  have h1 : ∀ y ∈ f, oddAt (f ++ [x]) y = oddAt f y := fun y hy => by
    obtain ⟨e, he⟩ := first_of hy
    unfold oddAt
    rw [first_snoc, he]
  have h2 : oddAt (f ++ [x]) x = oddAt f x := by
    unfold oddAt
    rw [first_snoc]
    cases h : firstJ f x.idx with
    | some e => rfl
    | none => simp [eqE_self]
  unfold oddJ
  rw [List.filter_append, List.map_append, List.filter_congr h1]
  congr 1
  rw [List.filter_cons, h2]
  cases oddAt f x <;> simp
/-- An index is odd just if two entries differ there. -/
theorem odd_iff : i ∈ oddJ f ↔ ∃ x ∈ f, ∃ y ∈ f, x.idx = i ∧ y.idx = i ∧ x.e ≠ y.e := by
  unfold oddJ
  constructor
  · intro h
    obtain ⟨x, hx, rfl⟩ := List.mem_map.1 h
    obtain ⟨h1, h2⟩ := List.mem_filter.1 hx
    obtain ⟨e, he⟩ := first_of h1
    unfold oddAt at h2
    rw [he] at h2
    obtain ⟨y, hy, e1, e2⟩ := first_mem he
    refine ⟨x, h1, y, hy, rfl, e1, fun hh => ?_⟩
    rw [Bool.not_eq_true'] at h2
    exact eqE_no.1 h2 (by rw [← e2]; exact hh.symm)
  · rintro ⟨x, hx, y, hy, rfl, h2, h3⟩
    obtain ⟨e, he⟩ := first_of hx
    by_cases h4 : e = x.e
    · refine List.mem_map.2 ⟨y, List.mem_filter.2 ⟨hy, ?_⟩, h2⟩
      unfold oddAt
      rw [h2, he]
      simp only [Bool.not_eq_true']
      exact eqE_no.2 (by rw [h4]; exact h3)
    · refine List.mem_map.2 ⟨x, List.mem_filter.2 ⟨hx, ?_⟩, rfl⟩
      unfold oddAt
      rw [he]
      simp only [Bool.not_eq_true']
      exact eqE_no.2 h4
theorem agree_iff : agreeJ f = true ↔ ∀ x ∈ f, ∀ y ∈ f, x.idx = y.idx → x.e = y.e := by
  unfold agreeJ
  rw [List.isEmpty_iff, List.eq_nil_iff_forall_not_mem]
  constructor
  · intro h x hx y hy he
    by_cases hn : x.e = y.e
    · exact hn
    · exact absurd (odd_iff.2 ⟨x, hx, y, hy, rfl, he.symm, hn⟩) (h x.idx)
  · intro h i hi
    obtain ⟨x, hx, y, hy, h1, h2, h3⟩ := odd_iff.1 hi
    exact h3 (h x hx y hy (h1.trans h2.symm))
theorem min_fold : ∀ (l : List Int) (a : Int), (l.foldl min a = a ∨ l.foldl min a ∈ l) ∧ l.foldl min a ≤ a ∧ ∀ x ∈ l, l.foldl min a ≤ x
  | [], a => ⟨.inl rfl, Int.le_refl _, fun x hx => by simp at hx⟩
  | y :: l, a => by
    obtain ⟨h1, h2, h3⟩ := min_fold l (min a y)
    rw [List.foldl_cons]
    refine ⟨?_, by omega, fun x hx => ?_⟩
    · rcases h1 with h1 | h1
      · rcases (show min a y = a ∨ min a y = y by omega) with h | h
        · exact .inl (h1.trans h)
        · exact .inr (by rw [h1, h]; exact List.mem_cons_self)
      · exact .inr (List.mem_cons_of_mem _ h1)
    · rcases List.mem_cons.1 hx with rfl | hx
      · omega
      · exact h3 x hx
theorem minI_mem {l : List Int} (h : l ≠ []) : minI l ∈ l ∧ ∀ x ∈ l, minI l ≤ x := by
  match l, h with
  | y :: l, _ =>
    obtain ⟨h1, h2, h3⟩ := min_fold l y
    refine ⟨?_, fun x hx => ?_⟩
    · rcases h1 with h1 | h1
      · exact List.mem_cons.2 (.inl h1)
      · exact List.mem_cons_of_mem _ h1
    · rcases List.mem_cons.1 hx with rfl | hx
      · exact h2
      · exact h3 x hx
theorem minI_same {l m : List Int} (h : ∀ i, i ∈ l ↔ i ∈ m) : minI l = minI m := by
  by_cases hl : l = []
  · subst hl
    have : m = [] := List.eq_nil_iff_forall_not_mem.2 fun i hi => by have := (h i).2 hi; simp at this
    rw [this]
  · have hm : m ≠ [] := fun e => hl (List.eq_nil_iff_forall_not_mem.2 fun i hi => by have := (h i).1 hi; rw [e] at this; simp at this)
    obtain ⟨a1, a2⟩ := minI_mem hl
    obtain ⟨b1, b2⟩ := minI_mem hm
    have := a2 _ ((h _).2 b1)
    have := b2 _ ((h _).1 a1)
    omega
/-- What is told hangs on which entries there are, alone. -/
theorem told_same (h : ∀ x, x ∈ f ↔ x ∈ f') : agreeJ f = agreeJ f' ∧ firstOdd f = firstOdd f' := by
  have ho : ∀ i, i ∈ oddJ f ↔ i ∈ oddJ f' := fun i => by
    rw [odd_iff, odd_iff]
    constructor
    · rintro ⟨x, hx, y, hy, r⟩
      exact ⟨x, (h x).1 hx, y, (h y).1 hy, r⟩
    · rintro ⟨x, hx, y, hy, r⟩
      exact ⟨x, (h x).2 hx, y, (h y).2 hy, r⟩
  refine ⟨?_, minI_same ho⟩
  rw [Bool.eq_iff_iff, agree_iff, agree_iff]
  exact ⟨fun g x hx y hy => g x ((h x).2 hx) y ((h y).2 hy), fun g x hx y hy => g x ((h x).1 hx) y ((h y).1 hy)⟩
theorem agree_first (h : agreeJ f = true) : firstOdd f = 0 := by
  unfold agreeJ at h
  unfold firstOdd
  rw [List.isEmpty_iff.1 h]
  rfl
theorem flat_mem {ls : List (List Ap)} : x ∈ flatJ ls ↔ (∃ l ∈ ls, x ∈ l) ∧ noneE x.e = false := by
  unfold flatJ
  rw [List.mem_filter, List.mem_flatten]
  simp
theorem flat_snoc (ls : List (List Ap)) (l : List Ap) : flatJ (ls ++ [l]) = flatJ ls ++ l.filter (fun x => !noneE x.e) := by
  unfold flatJ
  simp
end

/-! JudgePairs. -/
theorem pairs_all (ls : List (List Ap)) : agreeJ (flatJ ls) = true ↔ ∀ i k, ∀ (hi : i < ls.length) (hk : k ≤ i), agreeJ (flatJ [ls[i], ls[k]]) = true := by
  rw [agree_iff]
  constructor
  · intro h i k hi hk
    rw [agree_iff]
    have hm : ∀ x ∈ flatJ [ls[i], ls[k]], x ∈ flatJ ls := fun x hx => by
      obtain ⟨⟨l, hl, hxl⟩, hn⟩ := flat_mem.1 hx
      refine flat_mem.2 ⟨⟨l, ?_, hxl⟩, hn⟩
      simp only [List.mem_cons, List.not_mem_nil, or_false] at hl
      rcases hl with rfl | rfl <;> exact List.getElem_mem _
    exact fun x hx y hy => h x (hm x hx) y (hm y hy)
  · intro h x hx y hy he
    obtain ⟨⟨l, hl, hxl⟩, hnx⟩ := flat_mem.1 hx
    obtain ⟨⟨m, hm, hym⟩, hny⟩ := flat_mem.1 hy
    obtain ⟨i, hi, rfl⟩ := List.getElem_of_mem hl
    obtain ⟨k, hk, rfl⟩ := List.getElem_of_mem hm
    have key : ∀ (a b : Nat) (ha : a < ls.length) (hb : b ≤ a) (u v : Ap), (u ∈ ls[a] ∨ u ∈ ls[b]) → noneE u.e = false → (v ∈ ls[a] ∨ v ∈ ls[b]) → noneE v.e = false → u.idx = v.idx → u.e = v.e := fun a b ha hb u v hu hnu hv hnv he => by
      refine agree_iff.1 (h a b ha hb) u (flat_mem.2 ⟨?_, hnu⟩) v (flat_mem.2 ⟨?_, hnv⟩) he
      · rcases hu with hu | hu
        · exact ⟨_, by simp, hu⟩
        · exact ⟨_, by simp, hu⟩
      · rcases hv with hv | hv
        · exact ⟨_, by simp, hv⟩
        · exact ⟨_, by simp, hv⟩
    by_cases hik : k ≤ i
    · exact key i k hi hik x y (.inl hxl) hnx (.inr hym) hny he
    · exact key k i hk (by omega) x y (.inr hxl) hnx (.inl hym) hny he
/-- Lists, read from one on. -/
def rotJ (ls : List (List Ap)) (from_ : Nat) : List (List Ap) := (List.range ls.length).map (fun i => ls.getD ((from_ + i) % ls.length) [])
theorem rot_told {ls : List (List Ap)} {n : Nat} (h0 : 0 < ls.length) (hn : n < ls.length) : agreeJ (flatJ (rotJ ls n)) = agreeJ (flatJ ls) ∧ firstOdd (flatJ (rotJ ls n)) = firstOdd (flatJ ls) := by
  refine told_same fun x => ?_
  rw [flat_mem, flat_mem]
  have hm : ∀ l, l ∈ rotJ ls n ↔ l ∈ ls := fun l => by
    unfold rotJ
    rw [List.mem_map]
    constructor
    · rintro ⟨i, _, rfl⟩
      have hlt := Nat.mod_lt (n + i) h0
      rw [List.getD_eq_getElem?_getD, List.getElem?_eq_getElem hlt]
      exact List.getElem_mem _
    · intro hl
      obtain ⟨k, hk, rfl⟩ := List.getElem_of_mem hl
      refine ⟨(k + ls.length - n) % ls.length, List.mem_range.2 (Nat.mod_lt _ h0), ?_⟩
      have e : (n + (k + ls.length - n) % ls.length) % ls.length = k := by
        rw [Nat.add_mod, Nat.mod_mod, ← Nat.add_mod, show n + (k + ls.length - n) = k + ls.length by omega, Nat.add_mod_right, Nat.mod_eq_of_lt hk]
      rw [e, List.getD_eq_getElem?_getD, List.getElem?_eq_getElem hk]
      rfl
  constructor
  · rintro ⟨⟨l, hl, hx⟩, hn⟩
    exact ⟨⟨l, (hm l).1 hl, hx⟩, hn⟩
  · rintro ⟨⟨l, hl, hx⟩, hn⟩
    exact ⟨⟨l, (hm l).2 hl, hx⟩, hn⟩
end Go.Proofs.Ytkkoookmnnmiiaa

namespace Go.Proofs.Ytkkoookmnnmiiaa

/-- An index is laid into rising ones, if it isn't there. -/
def insJ (i : Int) : List Int → List Int
  | [] => [i]
  | k :: l => if i < k then i :: k :: l else if i = k then k :: l else k :: insJ i l
def keysJ : List Ap → List Int
  | [] => []
  | x :: f => insJ x.idx (keysJ f)
theorem ins_mem (i : Int) : ∀ (l : List Int) (k : Int), k ∈ insJ i l ↔ k = i ∨ k ∈ l
  | [], k => by simp [insJ]
  | m :: l, k => by
    unfold insJ
    split
    · simp
    · split
      · rename_i h
        subst h
        simp
      · rw [List.mem_cons, ins_mem i l k, List.mem_cons]
        constructor
        · rintro (h | h | h)
          · exact .inr (.inl h)
          · exact .inl h
          · exact .inr (.inr h)
        · rintro (h | h | h)
          · exact .inr (.inl h)
          · exact .inl h
          · exact .inr (.inr h)
theorem ins_rises (i : Int) : ∀ (l : List Int), l.Pairwise (· < ·) → (insJ i l).Pairwise (· < ·)
  | [], _ => by simp [insJ]
  | m :: l, h => by
    obtain ⟨h1, h2⟩ := List.pairwise_cons.1 h
    unfold insJ
    split
    · rename_i hlt
      refine List.pairwise_cons.2 ⟨fun k hk => ?_, h⟩
      rcases List.mem_cons.1 hk with rfl | hk
      · exact hlt
      · have := h1 k hk; omega
    · split
      · exact h
      · refine List.pairwise_cons.2 ⟨fun k hk => ?_, ins_rises i l h2⟩
        rcases (ins_mem i l k).1 hk with rfl | hk
        · omega
        · exact h1 k hk
theorem keys_mem : ∀ (f : List Ap) (i : Int), i ∈ keysJ f ↔ ∃ x ∈ f, x.idx = i
  | [], i => by simp [keysJ]
  | x :: f, i => by
    unfold keysJ
    rw [ins_mem, keys_mem f i]
    constructor
    · rintro (rfl | ⟨y, hy, h⟩)
      · exact ⟨x, List.mem_cons_self, rfl⟩
      · exact ⟨y, List.mem_cons_of_mem _ hy, h⟩
    · rintro ⟨y, hy, h⟩
      rcases List.mem_cons.1 hy with rfl | hy
      · exact .inl h.symm
      · exact .inr ⟨y, hy, h⟩
theorem keys_rises : ∀ (f : List Ap), (keysJ f).Pairwise (· < ·)
  | [] => List.Pairwise.nil
  | x :: f => ins_rises x.idx _ (keys_rises f)
/-- Lists that rise, and hold the same, are one. -/
theorem rises_same : ∀ {l m : List Int}, l.Pairwise (· < ·) → m.Pairwise (· < ·) → (∀ i, i ∈ l ↔ i ∈ m) → l = m
  | [], m, _, _, h => by
    have : m = [] := List.eq_nil_iff_forall_not_mem.2 fun i hi => by have := (h i).2 hi; simp at this
    rw [this]
  | a :: l, [], _, _, h => by have := (h a).1 List.mem_cons_self; simp at this
  | a :: l, b :: m, hl, hm, h => by
    obtain ⟨l1, l2⟩ := List.pairwise_cons.1 hl
    obtain ⟨m1, m2⟩ := List.pairwise_cons.1 hm
    have hab : a = b := by
      rcases List.mem_cons.1 ((h a).1 List.mem_cons_self) with e | e
      · exact e
      · rcases List.mem_cons.1 ((h b).2 List.mem_cons_self) with e2 | e2
        · exact e2.symm
        · have := m1 a e; have := l1 b e2; omega
    subst hab
    rw [rises_same l2 m2 fun i => ?_]
    constructor
    · intro hi
      have h1 := l1 i hi
      rcases List.mem_cons.1 ((h i).1 (List.mem_cons_of_mem _ hi)) with e | e
      · omega
      · exact e
    · intro hi
      have h1 := m1 i hi
      rcases List.mem_cons.1 ((h i).2 (List.mem_cons_of_mem _ hi)) with e | e
      · omega
      · exact e
def atJ (f : List Ap) (i : Int) : Ap := ⟨i, (firstJ f i).getD zeroE⟩
def chosenJ (f : List Ap) : List Ap := (keysJ f).map (atJ f)
section
variable {f g : List Ap} {i : Int} {x y : Ap}
theorem first_key : (firstJ f i).isSome = true ↔ i ∈ keysJ f := by
  rw [keys_mem]
  constructor
  · intro h
    obtain ⟨e, he⟩ := Option.isSome_iff_exists.1 h
    obtain ⟨x, hx, h1, _⟩ := first_mem he
    exact ⟨x, hx, h1⟩
  · rintro ⟨x, hx, rfl⟩
    obtain ⟨e, he⟩ := first_of hx
    rw [he]
    rfl
theorem first_app (f g : List Ap) (i : Int) : firstJ (f ++ g) i = match firstJ f i with | some e => some e | none => firstJ g i := by
  unfold firstJ
  rw [List.find?_append]
  cases h : List.find? (fun x => x.idx == i) f <;> simp
theorem chosen_rises (f : List Ap) : (chosenJ f).Pairwise (fun x y => x.idx < y.idx) := by
  unfold chosenJ
  rw [List.pairwise_map]
  exact (keys_rises f).imp fun h => h
theorem chosen_mem (h : x ∈ chosenJ f) : firstJ f x.idx = some x.e := by
  unfold chosenJ at h
  obtain ⟨i, hi, rfl⟩ := List.mem_map.1 h
  obtain ⟨e, he⟩ := Option.isSome_iff_exists.1 (first_key.2 hi)
  simp [atJ, he]
/-- What was chosen of some is what was chosen of more, but for new indices. -/
theorem chosen_more (f g : List Ap) : chosenJ f = (chosenJ (f ++ g)).filter (fun x => (firstJ f x.idx).isSome) := by
  unfold chosenJ
  rw [List.filter_map]
  have e : (keysJ (f ++ g)).filter ((fun x : Ap => (firstJ f x.idx).isSome) ∘ atJ (f ++ g)) = keysJ f := by
    refine rises_same (List.Pairwise.filter _ (keys_rises _)) (keys_rises f) fun i => ?_
    rw [List.mem_filter, keys_mem]
    simp only [Function.comp, atJ]
    rw [first_key]
    constructor
    · exact fun h => h.2
    · intro h
      refine ⟨?_, h⟩
      obtain ⟨x, hx, h1⟩ := (keys_mem f i).1 h
      exact ⟨x, List.mem_append_left _ hx, h1⟩
  rw [e]
  refine List.map_congr_left fun i hi => ?_
  obtain ⟨e, he⟩ := Option.isSome_iff_exists.1 (first_key.2 hi)
  unfold atJ
  rw [first_app, he]
theorem filter_at {α : Type} (p : α → Bool) : ∀ (l : List α) (j : Nat) (hj : j < l.length), p l[j] = true → (l.filter p)[((l.take j).filter p).length]? = some l[j]
  | [], _, hj, _ => by simp at hj
  | x :: l, 0, _, h => by
    simp only [List.getElem_cons_zero] at h
    simp [h]
  | x :: l, j + 1, hj, h => by
    simp only [List.getElem_cons_succ] at h ⊢
    have := filter_at p l j (by simpa using hj) h
    rw [List.take_succ_cons, List.filter_cons, List.filter_cons]
    cases p x
    · simpa using this
    · simpa using this
theorem filter_le {α : Type} (p : α → Bool) (l : List α) (j : Nat) : ((l.take j).filter p).length ≤ (l.filter p).length := by
  have h : l.filter p = (l.take j).filter p ++ (l.drop j).filter p := by rw [← List.filter_append, List.take_append_drop]
  rw [h, List.length_append]
  omega
theorem filter_succ {α : Type} (p : α → Bool) (l : List α) (j : Nat) (hj : j < l.length) : ((l.take (j + 1)).filter p).length = ((l.take j).filter p).length + (if p l[j] = true then 1 else 0) := by
  rw [List.take_succ_eq_append_getElem hj, List.filter_append, List.length_append, List.filter_cons]
  cases p l[j] <;> simp
theorem agree_less (h : agreeJ (f ++ g) = true) : agreeJ f = true := by
  rw [agree_iff] at h ⊢
  exact fun x hx y hy => h x (List.mem_append_left _ hx) y (List.mem_append_left _ hy)
/-- An entry that is new is of the list that came. -/
theorem more_new {l : List Ap} (h : x ∈ chosenJ (f ++ l.filter (fun x => !noneE x.e))) (hn : (firstJ f x.idx).isSome = false) : x ∈ l := by
  have h1 := chosen_mem h
  rw [first_app] at h1
  cases h2 : firstJ f x.idx with
  | some e => rw [h2] at hn; cases hn
  | none =>
    rw [h2] at h1
    simp only at h1
    obtain ⟨y, hy, e1, e2⟩ := first_mem h1
    have e : y = x := by
      obtain ⟨a, b⟩ := x
      obtain ⟨c, d⟩ := y
      simp only at e1 e2
      rw [e1, e2]
    rw [← e]
    exact (List.mem_filter.1 hy).1
end
/-! A list that is right. -/
def okR (l : List Ap) (i : Nat) (x : Ap) : Bool :=
  (decide (1 ≤ x.idx) && (decide (x.idx ≤ big40) && (noneE x.e || mayE x.e))) &&
    (decide (i = 0) || (decide ((l.getD (i - 1) ⟨0, zeroE⟩).idx < x.idx) && (noneE x.e || decide (x.idx ≤ (l.getD (i - 1) ⟨0, zeroE⟩).idx + 1))))
def rightJ (l : List Ap) : Bool := (List.range l.length).all (fun i => okR l i (l.getD i ⟨0, zeroE⟩))
end Go.Proofs.Ytkkoookmnnmiiaa

namespace Go.Proofs.Ytkkoookmnnmiiaa

theorem rises_lo {l : List Pr} (h : Rises l) (k : Tx) : Rises (lo l k) := List.Pairwise.filter _ h
theorem rises_hi {l : List Pr} (h : Rises l) (k : Tx) : Rises (hi l k) := List.Pairwise.filter _ h
theorem mem_lo {l : List Pr} {k : Tx} {p : Pr} (h : p ∈ lo l k) : p ∈ l ∧ kl p.1 k = true := by
  unfold lo at h; rw [List.mem_filter] at h; exact h
theorem mem_hi {l : List Pr} {k : Tx} {p : Pr} (h : p ∈ hi l k) : p ∈ l ∧ kl k p.1 = true := by
  unfold hi at h; rw [List.mem_filter] at h; exact h

theorem rises_put {l : List Pr} (h : Rises l) (k v : Tx) : Rises (putL l k v) := by
  unfold putL Rises
  rw [List.pairwise_append, List.pairwise_cons]
  refine ⟨rises_lo h k, ⟨fun q hq => (mem_hi hq).2, rises_hi h k⟩, fun p hp q hq => ?_⟩
  rw [List.mem_cons] at hq
  rcases hq with rfl | hq
  · exact (mem_lo hp).2
  · exact kl_trans (mem_lo hp).2 (mem_hi hq).2
theorem rises_del {l : List Pr} (h : Rises l) (k : Tx) : Rises (delL l k) := by
  unfold delL Rises
  rw [List.pairwise_append]
  exact ⟨rises_lo h k, rises_hi h k, fun p hp q hq => kl_trans (mem_lo hp).2 (mem_hi hq).2⟩

theorem mid_app (l m : List Pr) (k : Tx) : mid (l ++ m) k = mid l k ++ mid m k := by simp [mid]
theorem mid_lo (l : List Pr) (k : Tx) : mid (lo l k) k = [] := filter_none fun _ hq => decide_eq_false (kl_ne (mem_lo hq).2)
theorem mid_hi (l : List Pr) (k : Tx) : mid (hi l k) k = [] := filter_none fun _ hq => decide_eq_false (fun e => kl_ne (mem_hi hq).2 e.symm)
theorem mid_mid {l : List Pr} {k k' : Tx} (h : k' ≠ k) : mid (mid l k) k' = [] := filter_none fun q hq => by
  unfold mid at hq
  rw [List.mem_filter, decide_eq_true_eq] at hq
  exact decide_eq_false fun e => h (e.symm.trans hq.2)

theorem look_put (l : List Pr) (k v : Tx) : look (putL l k v) k = some v := by
  have : mid (putL l k v) k = [(k, v)] := by
    unfold putL
    rw [mid_app, mid_lo, List.nil_append]
    have e : mid ((k, v) :: hi l k) k = (k, v) :: mid (hi l k) k := by simp [mid]
    rw [e, mid_hi]
  simp [look, this]
theorem look_put_ne {l : List Pr} (hr : Rises l) {k k' : Tx} (h : k' ≠ k) (v : Tx) : look (putL l k v) k' = look l k' := by
  have h1 : mid (putL l k v) k' = mid l k' := by
    conv => rhs; rw [split3 k hr, mid_app, mid_app, mid_mid h, List.append_nil]
    unfold putL
    rw [mid_app]
    have e : mid ((k, v) :: hi l k) k' = mid (hi l k) k' := by simp [mid, Ne.symm h]
    rw [e]
  unfold look
  rw [h1]
theorem look_del (l : List Pr) (k : Tx) : look (delL l k) k = none := by
  have : mid (delL l k) k = [] := by
    unfold delL
    rw [mid_app, mid_lo, mid_hi]
    rfl
  simp [look, this]
theorem look_del_ne {l : List Pr} (hr : Rises l) {k k' : Tx} (h : k' ≠ k) : look (delL l k) k' = look l k' := by
  have h1 : mid (delL l k) k' = mid l k' := by
    conv => rhs; rw [split3 k hr, mid_app, mid_app, mid_mid h, List.append_nil]
    unfold delL
    rw [mid_app]
  unfold look
  rw [h1]

theorem look_mem {l : List Pr} (hr : Rises l) {p : Pr} (h : p ∈ l) : look l p.1 = some p.2 := by
  have hm : p ∈ mid l p.1 := by
    unfold mid
    rw [List.mem_filter]
    exact ⟨h, by simp⟩
  rcases mid_spec p.1 hr with h1 | ⟨v, h1⟩
  · rw [h1] at hm
    cases hm
  · rw [h1, List.mem_singleton] at hm
    have : v = p.2 := by rw [hm]
    simp [look, h1, this]
theorem mem_look {l : List Pr} {k v : Tx} (h : look l k = some v) : (k, v) ∈ l := by
  unfold look at h
  cases hm : mid l k with
  | nil => rw [hm] at h; cases h
  | cons p m =>
    rw [hm] at h
    have hp : p ∈ mid l k := by rw [hm]; simp
    unfold mid at hp
    rw [List.mem_filter, decide_eq_true_eq] at hp
    simp at h
    have : p = (k, v) := by rw [← hp.2, ← h]
    rw [← this]
    exact hp.1

theorem rises_ext : ∀ {l m : List Pr}, Rises l → Rises m → (∀ p, p ∈ l ↔ p ∈ m) → l = m
  | [], [], _, _, _ => rfl
  | [], q :: m, _, _, h => by have := (h q).2 (by simp); cases this
  | p :: l, [], _, _, h => by have := (h p).1 (by simp); cases this
  | p :: l, q :: m, hl, hm, h => by
    have h1 := List.pairwise_cons.1 hl
    have h2 := List.pairwise_cons.1 hm
    have hpq : p = q := by
      have a1 := (h p).1 (by simp)
      have a2 := (h q).2 (by simp)
      rw [List.mem_cons] at a1 a2
      rcases a1 with a1 | a1
      · exact a1
      · rcases a2 with a2 | a2
        · exact a2.symm
        · have b1 := h2.1 p a1
          have b2 := h1.1 q a2
          rw [kl_asymm b1] at b2
          cases b2
    subst hpq
    congr 1
    refine rises_ext h1.2 h2.2 fun r => ⟨fun hr => ?_, fun hr => ?_⟩
    · have := (h r).1 (by simp [hr])
      rw [List.mem_cons] at this
      rcases this with rfl | this
      · have := h1.1 r hr
        rw [kl_irrefl] at this
        cases this
      · exact this
    · have := (h r).2 (by simp [hr])
      rw [List.mem_cons] at this
      rcases this with rfl | this
      · have := h2.1 r hr
        rw [kl_irrefl] at this
        cases this
      · exact this
theorem look_ext {l m : List Pr} (hl : Rises l) (hm : Rises m) (h : ∀ k, look l k = look m k) : l = m :=
  rises_ext hl hm fun p => ⟨fun hp => by
    have := look_mem hl hp
    rw [h] at this
    exact mem_look this, fun hp => by
    have := look_mem hm hp
    rw [← h] at this
    exact mem_look this⟩

theorem len_put {l : List Pr} (hr : Rises l) (k v : Tx) : (putL l k v).length = (if look l k = none then l.length + 1 else l.length) := by
  have e := congrArg List.length (split3 k hr)
  simp only [List.length_append] at e
  unfold putL
  rw [List.length_append, List.length_cons]
  rcases mid_spec k hr with h1 | ⟨u, h1⟩
  · have : look l k = none := by simp [look, h1]
    rw [if_pos this]
    rw [h1] at e
    simp at e
    omega
  · have : look l k ≠ none := by simp [look, h1]
    rw [if_neg this]
    rw [h1] at e
    simp at e
    omega
theorem len_del (l : List Pr) (hr : Rises l) (k : Tx) : (delL l k).length ≤ l.length := by
  have e := congrArg List.length (split3 k hr)
  simp only [List.length_append] at e
  unfold delL
  rw [List.length_append]
  omega

theorem ok_put {l : List Pr} (h : ∀ p ∈ l, keyOk p.1 = true ∧ valOk p.2 = true) {k v : Tx} (hk : keyOk k = true) (hv : valOk v = true) : ∀ p ∈ putL l k v, keyOk p.1 = true ∧ valOk p.2 = true := by
  intro p hp
  unfold putL at hp
  rw [List.mem_append, List.mem_cons] at hp
  rcases hp with hp | rfl | hp
  · exact h p (mem_lo hp).1
  · exact ⟨hk, hv⟩
  · exact h p (mem_hi hp).1
theorem ok_del {l : List Pr} (h : ∀ p ∈ l, keyOk p.1 = true ∧ valOk p.2 = true) (k : Tx) : ∀ p ∈ delL l k, keyOk p.1 = true ∧ valOk p.2 = true := by
  intro p hp
  unfold delL at hp
  rw [List.mem_append] at hp
  rcases hp with hp | hp
  · exact h p (mem_lo hp).1
  · exact h p (mem_hi hp).1

theorem may_put {l : List Pr} (h : mayS l = true) {k v : Tx} (hk : keyOk k = true) (hv : valOk v = true) (hn : ¬(look l k = none ∧ l.length = 8)) : mayS (putL l k v) = true := by
  obtain ⟨h8, hr, ho⟩ := may_spec h
  refine may_mk ?_ (rises_put hr k v) (ok_put ho hk hv)
  rw [len_put hr]
  split
  · rename_i h1
    have : l.length ≠ 8 := fun e => hn ⟨h1, e⟩
    omega
  · exact h8
theorem may_del {l : List Pr} (h : mayS l = true) (k : Tx) : mayS (delL l k) = true := by
  obtain ⟨h8, hr, ho⟩ := may_spec h
  exact may_mk (Nat.le_trans (len_del l hr k) h8) (rises_del hr k) (ok_del ho k)

theorem mayO_spec {o : Opn} (h : mayO o = true) : keyOk o.key = true ∧ valOk o.old = true ∧ valOk o.val = true ∧ (o.kind = 1 ∨ o.kind = 2 ∨ o.kind = 3 ∨ o.kind = 4) := by
  unfold mayO at h
  simp only [Bool.and_eq_true] at h
  obtain ⟨⟨⟨h1, h2⟩, h3⟩, h4⟩ := h
  refine ⟨h1, h2, h3, ?_⟩
  split at h4
  · rename_i h5; rcases h5 with h5 | h5 <;> simp [h5]
  · split at h4
    · rename_i h5; simp [h5]
    · simp at h4; simp [h4]

/-- One operation that may be, on a state that may be. -/
theorem doP_ok {l : List Pr} {o : Opn} (h : mayS l = true) (ho : mayO o = true) :
    doP l o = if o.kind = 1 then (l, wasR l o.key)
      else if o.kind = 2 then (if look l o.key = none ∧ l.length = 8 then (l, ⟨211, false, ⟨#[]⟩⟩) else (putL l o.key o.val, wasR l o.key))
      else if o.kind = 3 then (delL l o.key, wasR l o.key)
      else if look l o.key = some o.old then (putL l o.key o.val, wasR l o.key) else (l, { wasR l o.key with found := false }) := by
  unfold doP
  rw [if_neg (by simp [h]), if_neg (by simp [ho])]
theorem doP_bad {l : List Pr} {o : Opn} (h : mayS l = true) (ho : mayO o = false) : doP l o = (l, ⟨210, false, ⟨#[]⟩⟩) := by
  unfold doP
  rw [if_neg (by simp [h]), if_pos ho]

theorem doP_may {l : List Pr} (o : Opn) (h : mayS l = true) : mayS (doP l o).1 = true := by
  cases ho : mayO o with
  | false => rw [doP_bad h ho]; exact h
  | true =>
    obtain ⟨h1, h2, h3, h4⟩ := mayO_spec ho
    rw [doP_ok h ho]
    split
    · exact h
    · split
      · split
        · exact h
        · rename_i hn; exact may_put h h1 h3 hn
      · split
        · exact may_del h _
        · split
          · rename_i hl; exact may_put h h1 h3 (by rw [hl]; simp)
          · exact h
end Go.Proofs.Ytkkoookmnnmiiaa

namespace Go.Proofs.Ytkkoookmnnmiiaa

def rpOf (x : Option Tx) : Rp := match x with | none => ⟨0, false, ⟨#[]⟩⟩ | some v => ⟨0, true, v⟩
theorem wasR_eq (l : List Pr) (k : Tx) : wasR l k = rpOf (look l k) := rfl
theorem rpOf_err (x : Option Tx) : (rpOf x).err = 0 := by cases x <;> rfl
/-- What an operation does to what its key has; and its reply. -/
def stepK (o : Opn) (x : Option Tx) : Option Tx × Rp :=
  if o.kind = 1 then (x, rpOf x)
  else if o.kind = 2 then (some o.val, rpOf x)
  else if o.kind = 3 then (none, rpOf x)
  else if x = some o.old then (some o.val, rpOf x) else (x, { rpOf x with found := false })

theorem doP_err {l : List Pr} {o : Opn} (h : mayS l = true) : (doP l o).2.err = 0 ∨ (doP l o).2.err = 210 ∨ (doP l o).2.err = 211 := by
  cases ho : mayO o with
  | false => rw [doP_bad h ho]; exact .inr (.inl rfl)
  | true =>
    rw [doP_ok h ho]
    split
    · exact .inl (rpOf_err _)
    · split
      · split
        · exact .inr (.inr rfl)
        · exact .inl (rpOf_err _)
      · split
        · exact .inl (rpOf_err _)
        · split
          · exact .inl (rpOf_err _)
          · exact .inl (rpOf_err _)

theorem doP_same {l : List Pr} {o : Opn} (h : mayS l = true) (he : (doP l o).2.err ≠ 0) : (doP l o).1 = l := by
  cases ho : mayO o with
  | false => rw [doP_bad h ho]
  | true =>
    rw [doP_ok h ho] at he ⊢
    split
    · rfl
    · rename_i h1
      rw [if_neg h1] at he
      split
      · rename_i h2
        rw [if_pos h2] at he
        split
        · rfl
        · rename_i h3
          rw [if_neg h3] at he
          exact absurd (rpOf_err _) he
      · rename_i h2
        rw [if_neg h2] at he
        split
        · rename_i h3
          rw [if_pos h3] at he
          exact absurd (rpOf_err _) he
        · rename_i h3
          rw [if_neg h3] at he
          split
          · rename_i h4
            rw [if_pos h4] at he
            exact absurd (rpOf_err _) he
          · rfl

theorem doP_210 {l : List Pr} {o : Opn} (h : mayS l = true) : decide ((doP l o).2.err = 210) = !mayO o := by
  cases ho : mayO o with
  | false => rw [doP_bad h ho]; rfl
  | true =>
    have : (doP l o).2.err ≠ 210 := by
      rw [doP_ok h ho]
      split
      · show (rpOf _).err ≠ 210; rw [rpOf_err]; decide
      · split
        · split
          · show (211 : Int) ≠ 210; decide
          · show (rpOf _).err ≠ 210; rw [rpOf_err]; decide
        · split
          · show (rpOf _).err ≠ 210; rw [rpOf_err]; decide
          · split
            · show (rpOf _).err ≠ 210; rw [rpOf_err]; decide
            · show (rpOf _).err ≠ 210; rw [rpOf_err]; decide
    simp [this]

theorem doP_reads {l : List Pr} {o : Opn} (h : mayS l = true) (hk : o.kind = 1) : (doP l o).1 = l := by
  cases ho : mayO o with
  | false => rw [doP_bad h ho]
  | true => rw [doP_ok h ho, if_pos hk]

theorem doP_mayO {l : List Pr} {o : Opn} (h : mayS l = true) (he : (doP l o).2.err = 0) : mayO o = true := by
  cases ho : mayO o with
  | true => rfl
  | false => rw [doP_bad h ho] at he; cases he

theorem doP_step {l : List Pr} {o : Opn} (h : mayS l = true) (he : (doP l o).2.err = 0) :
    (doP l o).2 = (stepK o (look l o.key)).2 ∧ look (doP l o).1 o.key = (stepK o (look l o.key)).1 := by
  have ho := doP_mayO h he
  rw [doP_ok h ho] at he ⊢
  unfold stepK
  split
  · exact ⟨rfl, rfl⟩
  · rename_i h1
    rw [if_neg h1] at he
    split
    · rename_i h2
      rw [if_pos h2] at he
      split
      · rename_i h3
        rw [if_pos h3] at he
        cases he
      · exact ⟨rfl, look_put _ _ _⟩
    · split
      · exact ⟨rfl, look_del _ _⟩
      · split
        · exact ⟨rfl, look_put _ _ _⟩
        · exact ⟨rfl, rfl⟩

theorem doP_other {l : List Pr} {o : Opn} (h : mayS l = true) {k : Tx} (hk : k ≠ o.key) : look (doP l o).1 k = look l k := by
  obtain ⟨_, hr, _⟩ := may_spec h
  cases ho : mayO o with
  | false => rw [doP_bad h ho]
  | true =>
    rw [doP_ok h ho]
    split
    · rfl
    · split
      · split
        · rfl
        · exact look_put_ne hr hk _
      · split
        · exact look_del_ne hr hk
        · split
          · exact look_put_ne hr hk _
          · rfl

theorem may_rises {l : List Pr} (h : mayS l = true) : Rises l := (may_spec h).2.1

theorem apart_same {l : List Pr} {a b : Opn} (h : mayS l = true) (hk : a.key ≠ b.key) (e1 : (doP l a).2.err = 0) (e2 : (doP (doP l a).1 b).2.err = 0) (e3 : (doP l b).2.err = 0) (e4 : (doP (doP l b).1 a).2.err = 0) :
    (doP (doP l a).1 b).1 = (doP (doP l b).1 a).1 ∧ (doP l a).2 = (doP (doP l b).1 a).2 ∧ (doP (doP l a).1 b).2 = (doP l b).2 := by
  have ha := doP_may a h
  have hb := doP_may b h
  obtain ⟨f1, g1⟩ := doP_step h e1
  obtain ⟨f2, g2⟩ := doP_step ha e2
  obtain ⟨f3, g3⟩ := doP_step h e3
  obtain ⟨f4, g4⟩ := doP_step hb e4
  rw [doP_other h hk.symm] at f2 g2
  rw [doP_other h hk] at f4 g4
  refine ⟨look_ext (may_rises (doP_may b ha)) (may_rises (doP_may a hb)) fun k => ?_, f1.trans f4.symm, f2.trans f3.symm⟩
  by_cases ka : k = a.key
  · subst ka
    rw [doP_other ha hk, g1, g4]
  · by_cases kb : k = b.key
    · subst kb
      rw [g2, doP_other hb ka, g3]
    · rw [doP_other ha kb, doP_other h ka, doP_other hb ka, doP_other h kb]

theorem over_same {l : List Pr} {a b : Opn} (h : mayS l = true) (hk : a.key = b.key) (hb : b.kind = 2 ∨ b.kind = 3) (_ : (doP l a).2.err = 0) (e2 : (doP (doP l a).1 b).2.err = 0) (e3 : (doP l b).2.err = 0) :
    (doP (doP l a).1 b).1 = (doP l b).1 := by
  have ha := doP_may a h
  obtain ⟨_, g2⟩ := doP_step ha e2
  obtain ⟨_, g3⟩ := doP_step h e3
  refine look_ext (may_rises (doP_may b ha)) (may_rises (doP_may b h)) fun k => ?_
  by_cases kb : k = b.key
  · subst kb
    rw [g2, g3]
    unfold stepK
    rcases hb with hb | hb <;> simp [hb]
  · rw [doP_other ha kb, doP_other h (by rw [hk]; exact kb), doP_other h kb]

def getO (k : Tx) : Opn := ⟨1, k, ⟨#[]⟩, ⟨#[]⟩⟩
def valueP (l : List Pr) (k : Tx) : Tx × Bool := let r := (doP l (getO k)).2; (r.val, r.found && decide (r.err = 0))
theorem mayO_get (k : Tx) : mayO (getO k) = keyOk k := by
  have h1 : valOk ⟨#[]⟩ = true := by decide
  have h2 : (⟨#[]⟩ : Tx).size = 0 := rfl
  unfold mayO getO
  simp only [h1, h2]
  simp
theorem value_ok {l : List Pr} {k : Tx} (h : mayS l = true) (hk : keyOk k = true) : valueP l k = ((rpOf (look l k)).val, (look l k).isSome) := by
  have ho : mayO (getO k) = true := by rw [mayO_get]; exact hk
  unfold valueP
  rw [doP_ok h ho]
  simp only [getO, if_true, wasR_eq]
  cases look l k <;> rfl
end Go.Proofs.Ytkkoookmnnmiiaa

namespace Go.Proofs.Ytkkoookmnnmiiaa
open Go.RowKit
variable {P : Program}

/-- An operation whose run is known, as one step of the walk. -/
theorem wpList_run {w w' : World} {v : Value} {ops : Array Oper} {rest : List Oper} {o : Oper} {a : Act} {Q : Exit → Act → World → Prop} (hgd : o.guard = none)
    (hr : (execOp a.eval o).run P w = .ok (.value v) w') (h : wpList P ops Q rest (a.put o.dst v) w') : wpList P ops Q (o :: rest) a w :=
  wpList_plain hgd fun K hK => by
    unfold Oper.wp
    rw [hr]
    exact hK _ _ h

theorem step_run {ops : Array Oper} {o : Oper} {a : Act} {w w' : World} {v : Value} {K : Act → World → Prop} {Q : Exit → Act → World → Prop} {E : Prop}
    (hg : o.guard = none) (hr : (execOp a.eval o).run P w = .ok (.value v) w') (hK : K (a.put o.dst v) w') :
    if Region.wanted o (yielded ops a.tmps) = true then Oper.wp P o a w K Q else E := by
  have hw : Region.wanted o (yielded ops a.tmps) = true := by simp [Region.wanted, hg]
  rw [if_pos hw]
  unfold Oper.wp
  rw [hr]
  exact hK

theorem exec_copy {w w' : World} {o : Oper} {a : Act} {v' : Value} (d s : Operand) (dT sT : TypeId) (ho : o.op = .call { callee := .builtin .copy, args := #[d, s], argTypes := #[dT, sT] })
    (vd vs : Value) (hd : a.eval d = vd) (hs : a.eval s = vs) (hr : (Builtin.copy_ #[dT, sT] o.type #[vd, vs]).run P w = .ok v' w') : (execOp a.eval o).run P w = .ok (.value v') w' := by
  simp [execOp, ho, resolve, invoke, builtin, hd, hs, hr, Result.andThen]

theorem exec_append {w w' : World} {o : Oper} {a : Act} {v' : Value} (d s : Operand) (dT sT : TypeId) (ho : o.op = .call { callee := .builtin .append, args := #[d, s], argTypes := #[dT, sT] })
    (vd vs : Value) (hd : a.eval d = vd) (hs : a.eval s = vs) (hr : (Builtin.append_ #[dT, sT] o.type #[vd, vs]).run P w = .ok v' w') : (execOp a.eval o).run P w = .ok (.value v') w' := by
  simp [execOp, ho, resolve, invoke, builtin, hd, hs, hr, Result.andThen]

/-- 'copy' into a plain row, elements of 'size' cells. -/
theorem run_copyK (w : World) (dT sT ty elem : TypeId) (size : Nat) (hu : P.underlying dT = some (.slice elem)) (hsz : (P.info? elem).map (·.size) = some size)
    (g o dLen dCap : Nat) (a : Addr) (sLen sCap : Nat) (cur : List Value) (t : TypeId) (cs : List Value)
    (hg : w.heap[g]? = some (.cells cur.toArray t (0, 0))) (hn : cs.length = Nat.min sLen dLen * size)
    (hsrc : ∀ j v, cs[j]? = some v → w.cell? (a.add j) = some v) (hfit : o + cs.length ≤ cur.length) (h1 : ∀ v ∈ cs, v.oneCell' = true) :
    (Builtin.copy_ #[dT, sT] ty #[.slice (some ⟨g, o, none⟩) dLen dCap, .slice (some a) sLen sCap]).run P w =
      .ok (goInt (Nat.min sLen dLen)) (w.setRow g (splice cur o cs).toArray) := by
  have hl := run_firstCells_some (P := P) w size (Nat.min sLen dLen) a sLen sCap cs hn hsrc
  have hst := run_storeCells_at P g o t cs 0 cur.toArray w hg (by simpa using hfit) h1
  cases hq : P.info? elem with
  | none => simp [hq] at hsz
  | some i =>
    have hi : i.size = size := by simpa [hq] using hsz
    simp only [Nat.add_zero, List.append_assoc] at hst
    simp [Builtin.copy_, run_underlying hu, Builtin.lenOf, sizeOf, typeInfo, hq, hi, hl, hst, splice]

/-- 'append(s, make([]T, m)...)' where there is no room. -/
theorem run_append_zeros (w : World) (t tn ty e : TypeId) (i : TypeInfo) (z : Value) (kn : IntKind) (ht : P.underlying t = some (.slice e)) (htn : P.underlying tn = some (.int kn)) (hi : P.info? e = some i) (hz : i.zero = some z)
    (b : Addr) (n cap : Nat) (xs : List Value) (hx : xs.length = n * i.size) (holds : ∀ j u, xs[j]? = some u → w.cell? (b.add j) = some u)
    (m : Nat) (h0 : 0 < m) (hcap : cap < n + m) (hs : 0 < i.size) (h63 : n + m ≤ 4294967296) (hby : i.bytes ≤ 4096) :
    (Builtin.append_ #[t, tn] ty #[.slice (some b) n cap, .int .i64 m]).run P w =
      .ok (.slice (some ⟨w.heap.size, 0, none⟩) (n + m) (grownCap w (n + m) cap e))
        (w.drew.alloc (.cells (xs.toArray ++ Builtin.zeroCells z.cells m ++ Builtin.zeroCells z.cells (grownCap w (n + m) cap e - (n + m))) e)) := by
  have hm : m ≠ 0 := by omega
  have hn : ¬ (n + m ≤ cap) := by omega
  have hw : IntKind.i64.wrap (m : Int) = m := by rw [IntKind.wrap_i64]; omega
  have h63' : ¬ (9223372036854775807 < ((n : Int) + (m : Int))) := by omega
  have hb1 : (n + m) * i.bytes ≤ 4294967296 * 4096 := Nat.mul_le_mul h63 hby
  have hfit := growslice_fits (need := n + m) (old := cap) (bytes := i.bytes) (by omega) (by omega)
  have h48' : ¬ (281474976710656 < Builtin.nextslicecap (n + m) cap * i.bytes) := by omega
  have hb2 : m * i.bytes ≤ (n + m) * i.bytes := Nat.mul_le_mul_right _ (by omega)
  have h48i : ¬ (281474976710656 < (m : Int) * (i.bytes : Int)) := by
    rw [← Int.natCast_mul]
    omega
  have hneg : ¬ ((m : Int) < 0) := by omega
  have hns : ¬ (m * i.size = 0) := Nat.mul_ne_zero hm (by omega)
  have hfo := run_firstCells_some (P := P) w.drew i.size n b n cap xs hx (by simpa using holds)
  simp [Builtin.append_, run_underlying ht, run_underlying htn, sizeOf, typeInfo, zeroValue, hi, hz, asInt, asIntOf, hw, hn, hneg, hns, h63', h48', h48i, Question.forced, hfo, newRow, grownCap]

/-- What a function hands back that made a row of its own. -/
def OwnRes (base : Nat) (e : TypeId) (size n : Nat) (xs : List Value) (en : Ending) (w' : World) : Prop := ∃ v, en = .returned v ∧ w'.ownsRow base e size v n xs

theorem exec_append_own {w : World} {o : Oper} {a : Act} (s x : Operand) (t e : TypeId) {size bytes : Nat} (hT : ElemT P t e size bytes) (ho : o.op = .call { callee := .builtin .append, args := #[s, x], argTypes := #[t, t] })
    (base : Nat) (v : Value) (n : Nat) (xs : List Value) (hs : a.eval s = v) (hown : w.ownsRow base e size v n xs)
    (ad : Addr) (m c : Nat) (news : List Value) (hx : a.eval x = .slice (some ad) m c) (hl : news.length = m * size) (hnews : ∀ j u, news[j]? = some u → w.cell? (ad.add j) = some u) (h1 : ∀ u ∈ news, u.oneCell' = true)
    (hn : n + m ≤ 4294967296) (hby : bytes ≤ 4096) (hbase : base ≤ w.heap.size) :
    ∃ v' w', (execOp a.eval o).run P w = .ok (.value v') w' ∧ w'.ownsRow base e size v' (n + m) (xs ++ news) ∧ Below base w w' ∧ (0 < m → v' ≠ .slice none 0 0) := by
  obtain ⟨i, z, ht, hi, hz, hsize, hbytes, hzs, hsz⟩ := hT.ex
  have hb1 : (n + m) * bytes ≤ 4294967296 * 4096 := Nat.mul_le_mul hn hby
  obtain ⟨v', w', hr, h2, h3, h4⟩ := run_append_own (P := P) (w := w) base t o.type e i z size bytes ht hi hz hsize hbytes hzs hsz v n xs hown ad m c news hl hnews h1 (by unfold maxLen; omega) (by omega) hbase
  refine ⟨v', w', exec_append s x t t ho _ _ hs hx hr, h2, ?_, fun hm hv => ?_⟩
  · exact (Below.refl _ _).grown h3 hbase (fun k hk => (hown.lt k hk).1)
  · have := (h4.1 hv).2
    omega
/-- 'append(s, x...)' onto a row of one's own. -/
theorem wpList_appendN {w : World} {ops : Array Oper} {rest : List Oper} {o : Oper} {a : Act} {Q : Exit → Act → World → Prop} (hgd : o.guard = none) (s x : Operand) (t e : TypeId) {size bytes : Nat} (hT : ElemT P t e size bytes)
    (ho : o.op = .call { callee := .builtin .append, args := #[s, x], argTypes := #[t, t] })
    (base : Nat) (v : Value) (n : Nat) (xs : List Value) (hs : a.eval s = v) (hown : w.ownsRow base e size v n xs)
    (ad : Addr) (m c : Nat) (news : List Value) (hx : a.eval x = .slice (some ad) m c) (hl : news.length = m * size) (hnews : ∀ j u, news[j]? = some u → w.cell? (ad.add j) = some u) (h1 : ∀ u ∈ news, u.oneCell' = true)
    (hn : n + m ≤ 4294967296) (hby : bytes ≤ 4096) (hbase : base ≤ w.heap.size)
    (h : ∀ v' w', w'.ownsRow base e size v' (n + m) (xs ++ news) → Below base w w' → wpList P ops Q rest (a.put o.dst v') w') : wpList P ops Q (o :: rest) a w := by
  obtain ⟨v', w', hr, h2, h3, _⟩ := exec_append_own (P := P) s x t e hT ho base v n xs hs hown ad m c news hx hl hnews h1 hn hby hbase
  exact wpList_run hgd hr (h v' w' h2 h3)

theorem grownBy_setRow (w : World) (g : Nat) (cs : Array Value) : w.grownBy (w.setRow g cs) (some g) :=
  ⟨rfl, rfl, rfl, by simp [World.setRow], fun k _ hk => setRow_other w g k cs (fun e => hk (by simp [e]))⟩

theorem exec_copyK (w : World) {o : Oper} {a : Act} (d s : Operand) (dT sT elem : TypeId) (size : Nat) (hu : P.underlying dT = some (.slice elem)) (hsz : (P.info? elem).map (·.size) = some size)
    (ho : o.op = .call { callee := .builtin .copy, args := #[d, s], argTypes := #[dT, sT] })
    (g off dLen dCap : Nat) (ad : Addr) (sLen sCap : Nat) (hd : a.eval d = .slice (some ⟨g, off, none⟩) dLen dCap) (hs : a.eval s = .slice (some ad) sLen sCap)
    (cur : List Value) (t : TypeId) (cs : List Value)
    (hg : w.heap[g]? = some (.cells cur.toArray t (0, 0))) (hn : cs.length = Nat.min sLen dLen * size)
    (hsrc : ∀ j v, cs[j]? = some v → w.cell? (ad.add j) = some v) (hfit : off + cs.length ≤ cur.length) (h1 : ∀ v ∈ cs, v.oneCell' = true) :
    ∃ w', (execOp a.eval o).run P w = .ok (.value (goInt (Nat.min sLen dLen))) w' ∧ w'.heap[g]? = some (.cells (splice cur off cs).toArray t (0, 0)) ∧ w.grownBy w' (some g) :=
  ⟨_, exec_copy d s dT sT ho _ _ hd hs (run_copyK (P := P) w dT sT o.type elem size hu hsz g off dLen dCap ad sLen sCap cur t cs hg hn hsrc hfit h1),
    setRow_heap w g _ _ t _ hg, grownBy_setRow w g _⟩

theorem wpList_copyK {w : World} {ops : Array Oper} {rest : List Oper} {o : Oper} {a : Act} {Q : Exit → Act → World → Prop} (hgd : o.guard = none) (d s : Operand) (dT sT elem : TypeId) (size : Nat) (hu : P.underlying dT = some (.slice elem)) (hsz : (P.info? elem).map (·.size) = some size)
    (ho : o.op = .call { callee := .builtin .copy, args := #[d, s], argTypes := #[dT, sT] })
    (g off dLen dCap : Nat) (ad : Addr) (sLen sCap : Nat) (hd : a.eval d = .slice (some ⟨g, off, none⟩) dLen dCap) (hs : a.eval s = .slice (some ad) sLen sCap)
    (cur : List Value) (t : TypeId) (cs : List Value)
    (hg : w.heap[g]? = some (.cells cur.toArray t (0, 0))) (hn : cs.length = Nat.min sLen dLen * size)
    (hsrc : ∀ j v, cs[j]? = some v → w.cell? (ad.add j) = some v) (hfit : off + cs.length ≤ cur.length) (h1 : ∀ v ∈ cs, v.oneCell' = true)
    (h : ∀ w', Hid (w'.heap[g]? = some (.cells (splice cur off cs).toArray t (0, 0))) → w.grownBy w' (some g) → wpList P ops Q rest (a.put o.dst (goInt (Nat.min sLen dLen))) w') : wpList P ops Q (o :: rest) a w := by
  obtain ⟨w', hr, h2, h3⟩ := exec_copyK (P := P) w d s dT sT elem size hu hsz ho g off dLen dCap ad sLen sCap hd hs cur t cs hg hn hsrc hfit h1
  exact wpList_run hgd hr (h w' h2 h3)

theorem step_copyK {w : World} {ops : Array Oper} {o : Oper} {a : Act} {K : Act → World → Prop} {Q : Exit → Act → World → Prop} {E : Prop} (hgd : o.guard = none) (d s : Operand) (dT sT elem : TypeId) (size : Nat) (hu : P.underlying dT = some (.slice elem)) (hsz : (P.info? elem).map (·.size) = some size)
    (ho : o.op = .call { callee := .builtin .copy, args := #[d, s], argTypes := #[dT, sT] })
    (g off dLen dCap : Nat) (ad : Addr) (sLen sCap : Nat) (hd : a.eval d = .slice (some ⟨g, off, none⟩) dLen dCap) (hs : a.eval s = .slice (some ad) sLen sCap)
    (cur : List Value) (t : TypeId) (cs : List Value)
    (hg : w.heap[g]? = some (.cells cur.toArray t (0, 0))) (hn : cs.length = Nat.min sLen dLen * size)
    (hsrc : ∀ j v, cs[j]? = some v → w.cell? (ad.add j) = some v) (hfit : off + cs.length ≤ cur.length) (h1 : ∀ v ∈ cs, v.oneCell' = true)
    (h : ∀ w', Hid (w'.heap[g]? = some (.cells (splice cur off cs).toArray t (0, 0))) → w.grownBy w' (some g) → K (a.put o.dst (goInt (Nat.min sLen dLen))) w') :
    if Region.wanted o (yielded ops a.tmps) = true then Oper.wp P o a w K Q else E := by
  obtain ⟨w', hr, h2, h3⟩ := exec_copyK (P := P) w d s dT sT elem size hu hsz ho g off dLen dCap ad sLen sCap hd hs cur t cs hg hn hsrc hfit h1
  exact step_run hgd hr (h w' h2 h3)

/-- 'append(s, make([]T, m)...)' where there is no room: a new row. -/
theorem wpList_append_zeros {w : World} {ops : Array Oper} {rest : List Oper} {o : Oper} {a : Act} {Q : Exit → Act → World → Prop} (hgd : o.guard = none) (d s : Operand) (t tn e : TypeId) {size bytes : Nat} (hT : ElemT P t e size bytes) (kn : IntKind) (htn : P.underlying tn = some (.int kn))
    (ho : o.op = .call { callee := .builtin .append, args := #[d, s], argTypes := #[t, tn] })
    (b : Addr) (n cap : Nat) (xs : List Value) (hx : xs.length = n * size) (holds : ∀ j u, xs[j]? = some u → w.cell? (b.add j) = some u)
    (m : Nat) (h0 : 0 < m) (hcap : cap < n + m) (h63 : n + m ≤ 4294967296) (hby : bytes ≤ 4096) (hd : a.eval d = .slice (some b) n cap) (hs : a.eval s = .int .i64 m)
    (h : ∀ w' C zs, n + m ≤ C → C ≤ maxLen → xs.length + zs.length = C * size → Hid (w'.heap[w.heap.size]? = some (.cells (xs ++ zs).toArray e (0, 0))) → w.grownBy w' none → wpList P ops Q rest (a.put o.dst (.slice (some ⟨w.heap.size, 0, none⟩) (n + m) C)) w') :
    wpList P ops Q (o :: rest) a w := by
  obtain ⟨i, z, ht, hi, hz, hsize, hbytes, hzs, hsz⟩ := hT.ex
  subst hsize hbytes
  have hr := run_append_zeros (P := P) w t tn o.type e i z kn ht htn hi hz b n cap xs hx holds m h0 hcap hsz h63 hby
  have hge := grownCap_ge w (n + m) cap e
  have hcm : grownCap w (n + m) cap e ≤ maxLen := grownCap_le_maxLen w (n + m) cap e (by unfold maxLen; omega)
  have e1 : xs.toArray ++ Builtin.zeroCells z.cells m ++ Builtin.zeroCells z.cells (grownCap w (n + m) cap e - (n + m)) = (xs ++ ((Builtin.zeroCells z.cells m).toList ++ (Builtin.zeroCells z.cells (grownCap w (n + m) cap e - (n + m))).toList)).toArray := by
    apply Array.ext'
    simp
  rw [e1] at hr
  refine wpList_run hgd (exec_append d s t tn ho _ _ hd hs hr) (h _ _ _ hge hcm ?_ (heap_alloc_new w.drew _) ⟨rfl, rfl, rfl, by simp, fun k hk _ => heap_alloc_old w.drew _ hk⟩)
  simp only [hx, List.length_append, Array.length_toList, size_zeroCells, hzs, ← Nat.add_mul]
  congr 1
  omega

theorem grown_same {w w' : World} {row : Option Nat} (h : w.grownBy w' row) {k : Nat} {ob : Obj} (hk : w.heap[k]? = some ob) (hne : some k ≠ row) : w'.heap[k]? = some ob :=
  (h.block k (Array.getElem?_eq_some_iff.1 hk).1 hne).trans hk

theorem grown_below {w w' : World} {row : Option Nat} (h : w.grownBy w' row) {B : Nat} (hB : B ≤ w.heap.size) (hr : ∀ k, row = some k → B ≤ k) : Below B w w' := (Below.refl _ _).grown h hB hr

theorem owns_of_cur {w : World} {base g n cap size : Nat} {e : TypeId} {cur ys : List Value} (hc : w.heap[g]? = some (.cells cur.toArray e (0, 0))) (hb : base ≤ g) (hn : n ≤ cap) (hm : cap ≤ maxLen) (hl : cur.length = cap * size)
    (hy : cur.take (n * size) = ys) : w.ownsRow base e size (.slice (some ⟨g, 0, none⟩) n cap) n ys := by
  refine ⟨?_, .inr ⟨g, cap, cur.toArray, rfl, hb, hc, hn, hm, by simpa using hl, by simpa using hy⟩⟩
  rw [← hy, List.length_take, hl]
  exact Nat.min_eq_left (Nat.mul_le_mul_right _ hn)

theorem splice_at {A Z B : List Value} {k : Nat} (hk : k = A.length) : splice (A ++ Z) k B = A ++ B ++ Z.drop B.length := by
  subst hk
  simp [splice, List.drop_append]

theorem take_len {A Z : List Value} {k : Nat} (hk : k = A.length) : (A ++ Z).take k = A := by subst hk; simp

theorem splice_shift {A D Z X : List Value} (h : X.length ≤ Z.length) : splice (splice (A ++ D ++ Z) (A.length + X.length) D) A.length X = A ++ X ++ D ++ Z.drop X.length := by
  have e1 : splice (A ++ D ++ Z) (A.length + X.length) D = A ++ ((D ++ Z).take X.length ++ D ++ Z.drop X.length) := by
    unfold splice
    have f1 : (A ++ D ++ Z).take (A.length + X.length) = A ++ (D ++ Z).take X.length := by rw [List.append_assoc, List.take_append, List.take_of_length_le (by omega), Nat.add_sub_cancel_left]
    have f2 : (A ++ D ++ Z).drop (A.length + X.length + D.length) = Z.drop X.length := by
      rw [List.drop_append, List.drop_of_length_le (by simp)]
      simp only [List.length_append, List.nil_append]
      congr 1
      omega
    rw [f1, f2]
    simp
  rw [e1, splice_at rfl]
  have f3 : ((D ++ Z).take X.length ++ D ++ Z.drop X.length).drop X.length = D ++ Z.drop X.length := by
    rw [List.append_assoc, List.drop_append, List.drop_of_length_le (by rw [List.length_take]; omega), List.length_take, List.length_append]
    rw [show X.length - min X.length (D.length + Z.length) = 0 by omega]
    simp
  rw [f3]
  simp

theorem cells_row {w : World} {g off : Nat} {A B C : List Value} {e : TypeId} {fr : Nat × Nat} (hc : w.heap[g]? = some (.cells (A ++ B ++ C).toArray e fr)) (ho : off = A.length) : ∀ j u, B[j]? = some u → w.cell? ((⟨g, off, none⟩ : Addr).add j) = some u := by
  intro j u hj
  have hj2 := (List.getElem?_eq_some_iff.1 hj).1
  subst ho
  rw [addr_add]
  simp only [World.cell?, hc]
  simp only [List.getElem?_toArray]
  rw [List.append_assoc, List.getElem?_append_right (by omega), List.getElem?_append_left (by omega)]
  simpa using hj

/-- 'append(s, x...)' where there is room: onto the row itself. -/
theorem wpList_append_room {w : World} {ops : Array Oper} {rest : List Oper} {o : Oper} {a : Act} {Q : Exit → Act → World → Prop} (hgd : o.guard = none) (s x : Operand) (t e : TypeId) {size bytes : Nat} (hT : ElemT P t e size bytes)
    (ho : o.op = .call { callee := .builtin .append, args := #[s, x], argTypes := #[t, t] })
    (g n cap : Nat) (hs : a.eval s = .slice (some ⟨g, 0, none⟩) n cap) (cur : List Value) (hg : w.heap[g]? = some (.cells cur.toArray e (0, 0)))
    (ad : Addr) (m c : Nat) (news : List Value) (hx : a.eval x = .slice (some ad) m c) (hl : news.length = m * size) (hnews : ∀ j u, news[j]? = some u → w.cell? (ad.add j) = some u) (h1 : ∀ u ∈ news, u.oneCell' = true)
    (hroom : n + m ≤ cap) (hfit : n * size + news.length ≤ cur.length)
    (h : ∀ w', Hid (w'.heap[g]? = some (.cells (splice cur (n * size) news).toArray e (0, 0))) → w.grownBy w' (some g) → wpList P ops Q rest (a.put o.dst (.slice (some ⟨g, 0, none⟩) (n + m) cap)) w') : wpList P ops Q (o :: rest) a w := by
  obtain ⟨i, z, ht, hi, hz, hsize, hbytes, hzs, hsz⟩ := hT.ex
  subst hsize
  have hr := run_append_room (P := P) w t o.type e i ht hi g n cap cur.toArray hg ad m c news hl hnews h1 hroom (by simpa using hfit)
  refine wpList_run hgd (exec_append s x t t ho _ _ hs hx hr) (h _ ?_ (grownBy_setRow w g _))
  refine (setRow_heap w g _ _ e _ hg).trans ?_
  simp [splice]

theorem run_clearK (w : World) (t e ty : TypeId) {size bytes : Nat} (hT : ElemT P t e size bytes) (g off n c : Nat) (hn : 0 < n) (cur : List Value) (hg : w.heap[g]? = some (.cells cur.toArray e (0, 0))) (hfit : off + n * size ≤ cur.length)
    (hv : ∃ z : Value, (∀ w, (zeroValue e).run P w = .ok z w) ∧ z.cells.size = size ∧ ∀ u ∈ (Builtin.zeroCells z.cells n).toList, u.oneCell' = true) :
    ∃ zs : List Value, zs.length = n * size ∧ (Builtin.clear_ #[t] ty #[.slice (some ⟨g, off, none⟩) n c]).run P w = .ok (.tuple #[]) (w.setRow g (splice cur off zs).toArray) := by
  obtain ⟨i, z0, ht, hi, hz, hsize, hbytes, hzs, hsz⟩ := hT.ex
  obtain ⟨z, hzv, hz2, h1⟩ := hv
  refine ⟨(Builtin.zeroCells z.cells n).toList, by rw [Array.length_toList, size_zeroCells, hz2], ?_⟩
  have hlen : (Builtin.zeroCells z.cells n).toList.length = n * size := by rw [Array.length_toList, size_zeroCells, hz2]
  have hst := run_storeCells_at P g off e (Builtin.zeroCells z.cells n).toList 0 cur.toArray w hg (by rw [hlen]; simpa using hfit) h1
  cases n with
  | zero => omega
  | succ n =>
    simp only [Nat.add_zero, List.append_assoc] at hst
    simp [Builtin.clear_, run_underlying ht, hzv, hst, splice]

theorem exec_clear {w w' : World} {o : Oper} {a : Act} {v' : Value} (d : Operand) (dT : TypeId) (ho : o.op = .call { callee := .builtin .clear, args := #[d], argTypes := #[dT] })
    (vd : Value) (hd : a.eval d = vd) (hr : (Builtin.clear_ #[dT] o.type #[vd]).run P w = .ok v' w') : (execOp a.eval o).run P w = .ok (.value v') w' := by
  simp [execOp, ho, resolve, invoke, builtin, hd, hr, Result.andThen]

theorem wpList_clearK {w : World} {ops : Array Oper} {rest : List Oper} {o : Oper} {a : Act} {Q : Exit → Act → World → Prop} (hgd : o.guard = none) (s : Operand) (t e : TypeId) {size bytes : Nat} (hT : ElemT P t e size bytes)
    (ho : o.op = .call { callee := .builtin .clear, args := #[s], argTypes := #[t] })
    (g off n c : Nat) (hs : a.eval s = .slice (some ⟨g, off, none⟩) n c) (hn : 0 < n) (cur : List Value) (hg : w.heap[g]? = some (.cells cur.toArray e (0, 0))) (hfit : off + n * size ≤ cur.length)
    (hv : ∃ z : Value, (∀ w, (zeroValue e).run P w = .ok z w) ∧ z.cells.size = size ∧ ∀ u ∈ (Builtin.zeroCells z.cells n).toList, u.oneCell' = true)
    (h : ∀ w' zs, zs.length = n * size → Hid (w'.heap[g]? = some (.cells (splice cur off zs).toArray e (0, 0))) → w.grownBy w' (some g) → wpList P ops Q rest (a.put o.dst (.tuple #[])) w') : wpList P ops Q (o :: rest) a w := by
  obtain ⟨zs, hl, hr⟩ := run_clearK (P := P) w t e o.type hT g off n c hn cur hg hfit hv
  exact wpList_run hgd (exec_clear s t ho _ hs hr) (h _ zs hl (setRow_heap w g _ _ e _ hg) (grownBy_setRow w g _))

theorem zeroCells_mem {z : Value} {n : Nat} (h : ∀ u ∈ z.cells.toList, u.oneCell' = true) : ∀ u ∈ (Builtin.zeroCells z.cells n).toList, u.oneCell' = true := by
  intro u hu
  simp only [Builtin.zeroCells, Array.toList_map, List.mem_map] at hu
  obtain ⟨i, hi, rfl⟩ := hu
  have hi2 : i < n * z.cells.size := by simpa using hi
  have hp : 0 < z.cells.size := by
    rcases Nat.eq_zero_or_pos z.cells.size with e | e
    · rw [e] at hi2; simp at hi2
    · exact e
  have hlt := Nat.mod_lt i hp
  rw [getElem!_pos z.cells _ hlt]
  exact h _ (by simp)

theorem run_append_nothing (w : World) (t ty e : TypeId) {size bytes : Nat} (hT : ElemT P t e size bytes) (ba : Option Addr) (n cap : Nat) (hn : n ≤ cap) (ad : Option Addr) (c : Nat) :
    (Builtin.append_ #[t, t] ty #[.slice ba n cap, .slice ad 0 c]).run P w = .ok (.slice ba n cap) w := by
  obtain ⟨i, z, ht, hi, hz, hsize, hbytes, hzs, hsz⟩ := hT.ex
  cases ba <;> cases ad <;> simp [Builtin.append_, run_underlying ht, sizeOf, typeInfo, hi, Builtin.lenOf, Builtin.firstCells, loadCells, loadCellsFrom, hn, storeCells]

/-- 'append(s, x...)' onto a row of one's own, x a row that is read, nil and empty too. -/
theorem wpList_append_row {w : World} {ops : Array Oper} {rest : List Oper} {o : Oper} {a : Act} {Q : Exit → Act → World → Prop} (hgd : o.guard = none) (s x : Operand) (t e : TypeId) {size bytes : Nat} (hT : ElemT P t e size bytes)
    (ho : o.op = .call { callee := .builtin .append, args := #[s, x], argTypes := #[t, t] })
    (base : Nat) (v : Value) (n : Nat) (xs : List Value) (hs : a.eval s = v) (hown : w.ownsRow base e size v n xs)
    (ad : Option Addr) (m c : Nat) (news : List Value) (hx : a.eval x = .slice ad m c) (hl : news.length = m * size) (hrow : Row w ad news) (h1 : ∀ u ∈ news, u.oneCell' = true)
    (hn : n + m ≤ 4294967296) (hby : bytes ≤ 4096) (hbase : base ≤ w.heap.size)
    (h : ∀ v' w', w'.ownsRow base e size v' (n + m) (xs ++ news) → Below base w w' → wpList P ops Q rest (a.put o.dst v') w') : wpList P ops Q (o :: rest) a w := by
  by_cases hm : m = 0
  · subst hm
    have hnil : news = [] := List.eq_nil_of_length_eq_zero (by simpa using hl)
    subst hnil
    obtain ⟨ba, cap, hv, _, hnc, _⟩ := Row.of_owns hown
    subst hv
    refine wpList_run hgd (exec_append s x t t ho _ _ hs hx (run_append_nothing (P := P) w t o.type e hT ba n cap hnc ad c)) (h _ _ ?_ (Below.refl _ _))
    simpa using hown
  · obtain ⟨i, z, ht, hi, hz, hsize, hbytes, hzs, hsz⟩ := hT.ex
    have hpos : 0 < news.length := by rw [hl]; exact Nat.mul_pos (by omega) hsz
    obtain ⟨b, off, rfl, hc⟩ := hrow.at hpos
    refine wpList_appendN hgd s x t e hT ho base v n xs hs hown ⟨b, off, none⟩ m c news hx hl (fun j u hj => ?_) h1 hn hby hbase h
    rw [addr_add]
    exact hc j u hj

theorem owns_some {w : World} {base n size : Nat} {e : TypeId} {v : Value} {xs : List Value} (h : w.ownsRow base e size v n xs) (hn : 0 < n) : ∃ g cap, v = .slice (some ⟨g, 0, none⟩) n cap ∧ base ≤ g := by
  obtain ⟨_, ⟨_, h⟩ | ⟨g, cap, cur, hv, hg, _⟩⟩ := h
  · omega
  · exact ⟨g, cap, hv, hg⟩

/-- '[]T{}': an empty row of one's own. -/
theorem owns_empty (w : World) (e : TypeId) (size : Nat) : (w.alloc (.cells #[] e)).ownsRow w.heap.size e size (.slice (some ⟨w.heap.size, 0, none⟩) 0 0) 0 [] :=
  owns_of_cur (cur := []) (heap_alloc_new w _) (Nat.le_refl _) (Nat.le_refl _) (by simp) (by simp) (by simp)

end Go.Proofs.Ytkkoookmnnmiiaa

