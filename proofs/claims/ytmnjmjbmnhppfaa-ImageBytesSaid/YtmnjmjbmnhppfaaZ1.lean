/- Texts that the claim leans on, part 1: Kit, K0, K6, K7, Mem, Own, Under, K1, K2, K5, K1b, K5b, I0, I1, K2b, K8, I2, Flat. -/
import Derived.WalkKit
import Derived.WalkSpells
import Derived.WalkLawsBesides
import Derived.Handy
import Derived.Lib.Hide
import Derived.ProofKit
import Derived.Deep.QuietTactic
import Derived.OpenShut
import Derived.Laws.Strings
import Derived.Laws.CopyOwn
import Derived.Laws.CopyRow
import Derived.Laws.NewBlocks
import Derived.Deep.RegionLaw
import Derived.Test.YtmnjmjbmnhppfaaRows
import Derived.BigQuiet
import Derived.Deep.DeepCutAuto
import Derived.RegionTactic
import Derived.ChangeAlike
import Derived.Laws.ResultCell
namespace Go.Proofs.Ytmnjmjbmnhppfaa
open Go.ChangeShapes Go.WideShapes Go.ChangeAt Go.RowKit

theorem ret_int {k : IntKind} {a b : Int} (h : a = b) : Ending.returned (.int k a) = .returned (.int k b) := by rw [h]
theorem bool_eq {a b : Bool} (h : a = b) : Value.bool a = .bool b := by rw [h]
theorem int_eq {k : IntKind} {a b : Int} (h : a = b) : Value.int k a = .int k b := by rw [h]
theorem ret_bool {a b : Bool} (h : a = b) : Ending.returned (.bool a) = .returned (.bool b) := by rw [h]
theorem quiet_same {P : Program} {f : FuncId} {args : Array Value} {w : World} {n : Nat} {v : Value}
    (h : Calls P f args (w.drewN n) fun e w' => e = .returned v ∧ w.drewN n = w') : Calls P f args (w.drewN n) fun e w'' => e = .returned v ∧ ∃ m, w'' = w.drewN m :=
  h.mono fun _ _ ⟨he, hm⟩ => ⟨he, n, hm.symm⟩

section
variable {H : Type} {enc : TypeId × Value → H} {P : Program}

theorem trodAll_below (hl : laidOutB P = true) {W W' : World} (hb : Below W.heap.size W W') {sp : Nat → Bool} :
    ∀ (ts : List TypeId) (vs : List Value) (ds : List (DataW H)) (ps : List MemPlace),
      (ts.all fun t => P.readableRec t && decide (t < P.types.size)) = true →
      DataW.TrodAll enc P W 0 (fun _ => true) true ts vs ds ps → (∀ x ∈ ps, x.block < W.heap.size) → (∀ x ∈ ps, sp x.block = true) → DataW.TrodAll enc P W' 0 sp true ts vs ds ps
  | [], vs, ds, ps, _, h, _, _ => by
    cases vs <;> cases ds <;> simp [DataW.TrodAll] at h ⊢
    exact h
  | t :: ts, vs, ds, ps, hr, h, hlt, hs => by
    obtain ⟨v, vs', d, ds', p, q, rfl, rfl, rfl, h1, h2⟩ := trodAll_cons h
    simp only [List.all_cons, Bool.and_eq_true, decide_eq_true_eq] at hr
    refine trodAll_cons_mk ?_ (trodAll_below hl hb ts vs' ds' q hr.2 h2 (fun x hx => hlt x (by simp [hx])) (fun x hx => hs x (by simp [hx])))
    exact WideElems.Trod_stays hl hr.1.1 hr.1.2 h1 (fun x hx => hb.same (hlt x (by simp [hx]))) (fun x hx => hs x (by simp [hx]))

/-- A law's post: the walk answers true and writes nothing that was there. -/
theorem law_post {f : Func} {s : ChangeSpec} {W W' : World} {args : Array Value} {tb : TypeId} {ds gs : List (DataW H)} {before : List MemPlace}
    (hl : laidOutB P = true) (hp : (f.params.toList.all fun t => P.readableRec t && decide (t < P.types.size)) = true)
    (hr : f.resultTypes = #[tb]) (hub : P.underlying tb = some .bool) (hvars : s.vars = [])
    (hspec : (s.fn H (ds ++ [])).results = [.lit (.bool true)] ∧ (s.fn H (ds ++ [])).args = ds ∧ (s.fn H (ds ++ [])).vars = [])
    (hW : DataW.Whole enc P f.params.toList s.vars false W args.toList ds gs before) (hb : Below W.heap.size W W') :
    s.post enc P f false true false false W args (.bool true) W' := by
  have hW0 := hW
  have hlt := hW.lt
  obtain ⟨p, q, hA, hV, rfl, hfz, hnd⟩ := hW
  rw [hvars] at hV
  obtain ⟨rfl, rfl⟩ := trodVars_none hV
  obtain ⟨e1, e2, e3⟩ := hspec
  have hold : ∀ x ∈ p ++ [], (fun b => decide (b < W.heap.size)) x.block = true := fun x hx => by simpa using hlt x hx
  refine ⟨ds, [], p ++ [], [], p, [], hW0, ?_, ?_, ?_, hb.frame _, fun h => by cases h⟩
  · rw [e1, hr]
    exact trodAll_mk1 (shut_bool hub _)
  · rw [e2]
    exact trodAll_below hl hb _ _ _ _ hp hA (fun x hx => hlt x (by simp [hx])) (fun x hx => hold x (by simp [hx]))
  · rw [e3, hvars]
    rfl
end

/-! ### Rows of cells that are read -/

/-- A slice's cells, as far as they are told: none, or they lie one behind the other from an address on. -/
def Row (w : World) (a : Option Addr) (xs : List Value) : Prop :=
  xs = [] ∨ ∃ b off, a = some ⟨b, off, none⟩ ∧ ∀ i u, xs[i]? = some u → w.cell? ⟨b, off + i, none⟩ = some u

theorem Row.below {w w' : World} {a : Option Addr} {xs : List Value} (h : Row w a xs) {B : Nat} (hB : w.heap.size ≤ B) (hb : Below B w w') : Row w' a xs := by
  rcases h with h | ⟨b, off, ha, h⟩
  · exact .inl h
  · refine .inr ⟨b, off, ha, fun i u hu => ?_⟩
    have h1 := h i u hu
    have h2 := World.block_lt_of_cell? _ _ h1
    rw [hb.cell (p := ⟨b, off + i, none⟩) (by simp only at h2 ⊢; omega)]
    exact h1

theorem Row.below0 {w w' : World} {a : Option Addr} {xs : List Value} (h : Row w a xs) (hb : Below w.heap.size w w') : Row w' a xs := h.below (Nat.le_refl _) hb

theorem Row.at {w : World} {a : Option Addr} {xs : List Value} (h : Row w a xs) {k : Nat} (hk : k < xs.length) : ∃ b off, a = some ⟨b, off, none⟩ ∧ ∀ i u, xs[i]? = some u → w.cell? ⟨b, off + i, none⟩ = some u := by
  rcases h with h | h
  · subst h; simp at hk
  · exact h

/-- One number of a row of numbers. -/
theorem Row.int {w : World} {a : Option Addr} {k : IntKind} {l : List Int} (h : Row w a (l.map (Value.int k))) {i : Nat} (hi : i < l.length) :
    ∃ b off x, a = some ⟨b, off, none⟩ ∧ l[i]? = some x ∧ w.cell? ⟨b, off + i, none⟩ = some (.int k x) := by
  obtain ⟨b, off, ha, hc⟩ := h.at (k := i) (by simpa using hi)
  exact ⟨b, off, l[i], ha, by simp [hi], hc i _ (by simp [hi])⟩

theorem Row.intAt {w : World} {b off : Nat} {k : IntKind} {l : List Int} {i : Nat} {x : Int} (h : Row w (some ⟨b, off, none⟩) (l.map (Value.int k))) (hx : l[i]? = some x) : w.cell? ⟨b, off + i, none⟩ = some (.int k x) := by
  rcases h with h | ⟨b', off', e, h⟩
  · simp at h; subst h; simp at hx
  · cases e
    exact h i _ (by simp [hx])

theorem addr_add (b o j : Nat) : (⟨b, o, none⟩ : Addr).add j = ⟨b, o + j, none⟩ := by
  unfold Addr.add
  by_cases h : j = 0 <;> simp [h]

theorem cell_new (w : World) (cs : Array Value) (e : TypeId) (j : Nat) : (w.alloc (.cells cs e)).cell? ⟨w.heap.size, j, none⟩ = cs[j]? := by simp [go_sem]

/-- What a call's own row reads as. -/
theorem Row.of_owns {w : World} {base n size : Nat} {e : TypeId} {v : Value} {xs : List Value} (h : w.ownsRow base e size v n xs) : ∃ a cap, v = .slice a n cap ∧ Row w a xs ∧ n ≤ cap ∧ cap ≤ maxLen := by
  have h0 := h
  obtain ⟨hl, ⟨rfl, rfl⟩ | ⟨g, cap, cur, rfl, hg, hc, hn, hm, hs, ht⟩⟩ := h
  · refine ⟨none, 0, rfl, .inl ?_, Nat.le_refl _, by simp⟩
    simpa using hl
  · refine ⟨some ⟨g, 0, none⟩, cap, rfl, .inr ⟨g, 0, rfl, fun i u hu => ?_⟩, hn, hm⟩
    have := h0.cells (g := g) rfl i u hu
    rw [addr_add] at this
    exact this

theorem owns_mono {w : World} {base base' n size : Nat} {e : TypeId} {v : Value} {xs : List Value} (h : w.ownsRow base e size v n xs) (hb : base' ≤ base) : w.ownsRow base' e size v n xs := by
  obtain ⟨hl, h | ⟨g, cap, cur, hv, hg, r⟩⟩ := h
  · exact ⟨hl, .inl h⟩
  · exact ⟨hl, .inr ⟨g, cap, cur, hv, Nat.le_trans hb hg, r⟩⟩

/-- The facts on a slice's element type, under one name. -/
structure ElemT (P : Program) (t e : TypeId) (size bytes : Nat) : Prop where
  ex : ∃ i z, P.underlying t = some (.slice e) ∧ P.info? e = some i ∧ i.zero = some z ∧ i.size = size ∧ i.bytes = bytes ∧ z.cells.size = size ∧ 0 < size

theorem ElemT.of {P : Program} {t e : TypeId} {size bytes : Nat} (z : Value) (ht : P.underlying t = some (.slice e)) (hi : (P.info? e).map (fun i => (i.zero, i.size, i.bytes)) = some (some z, size, bytes)) (hz : z.cells.size = size) (hp : 0 < size) : ElemT P t e size bytes := by
  obtain ⟨i, h1, h2, h3, h4⟩ := info_parts hi
  exact ⟨⟨i, z, ht, h1, h2, h3, h4, hz, hp⟩⟩

/-- 'append(out, x)': x lies in a new block, as the translation lays it. -/
theorem wpList_append1 {P : Program} {w : World} {ops : Array Oper} {rest : List Oper} {o : Oper} {a : Act} {Q : Exit → Act → World → Prop} (hgd : o.guard = none) (s x : Operand) (t e : TypeId) {size bytes : Nat} (hT : ElemT P t e size bytes)
    (ho : o.op = .call { callee := .builtin .append, args := #[s, x], argTypes := #[t, t] })
    (base : Nat) (v : Value) (n : Nat) (xs : List Value) (hs : a.eval s = v) (hown : w.ownsRow base e size v n xs)
    (cs : Array Value) (hcs : cs.size = size) (h1 : ∀ u ∈ cs.toList, u.oneCell' = true) (e' : TypeId) (hx : a.eval x = .slice (some ⟨w.heap.size, 0, none⟩) 1 1)
    (hn : n < 4294967296) (hby : bytes ≤ 4096) (hbase : base ≤ w.heap.size)
    (h : ∀ v' w', w'.ownsRow base e size v' (n + 1) (xs ++ cs.toList) → Below base w w' → (v' = .slice none 0 0 → False) → wpList P ops Q rest (a.put o.dst v') w') :
    wpList P ops Q (o :: rest) a (w.alloc (.cells cs e')) := by
  obtain ⟨i, z, ht, hi, hz, hsize, hbytes, hzs, hsz⟩ := hT.ex
  refine wpList_append_own _ hgd s x t ho base e i z size bytes ht hi hz hsize hbytes hzs hsz v n xs hs (hown.alloc _) ⟨w.heap.size, 0, none⟩ 1 1 cs.toList hx (by simp [hcs]) ?_ h1 (by unfold maxLen; omega) ?_ ?_ ?_
  · intro j u hj
    rw [addr_add, Nat.zero_add, cell_new]
    simpa using hj
  · have : (n + 1) * bytes ≤ 4294967296 * 4096 := Nat.mul_le_mul (by omega) hby
    omega
  · have : (w.alloc (.cells cs e')).heap.size = w.heap.size + 1 := by simp
    omega
  · intro v' w' h2 h3 h4
    refine h v' w' h2 ?_ (fun hv => ?_)
    · have hb : Below base w (w.alloc (.cells cs e')) := (Below.refl _ _).alloc hbase _
      refine hb.grown h3 (by simp; omega) (fun k hk => ?_)
      exact (hown.lt k hk).1
    · have := (h4.1 hv).2
      omega

def isums (l : List Int) : List Value := l.map (Value.int .i64)
end Go.Proofs.Ytmnjmjbmnhppfaa

namespace Go.Proofs.Ytmnjmjbmnhppfaa

abbrev Tx := ByteArray
abbrev Pr := Tx × Tx

def kl (a b : Tx) : Bool := Op.bytesLess a.toList b.toList
theorem bless_lex : ∀ (x y : List UInt8), Op.bytesLess x y = decide (x < y)
  | [], [] => by simp [Op.bytesLess]
  | _ :: _, [] => by simp [Op.bytesLess]
  | [], _ :: _ => by simp [Op.bytesLess]
  | a :: x, b :: y => by
    rw [Op.bytesLess, bless_lex x y]
    simp only [List.cons_lt_cons_iff]
    by_cases h1 : a < b <;> by_cases h2 : a = b <;> by_cases h3 : x < y <;> simp [h1, h2, h3]
theorem kl_lt (a b : Tx) : kl a b = decide (a.toList < b.toList) := bless_lex _ _
theorem tx_ext {a b : Tx} (h : a.toList = b.toList) : a = b := by
  rw [ByteArray.toList_eq, ByteArray.toList_eq] at h
  exact ByteArray.ext (Array.toList_inj.mp h)
theorem tx_eq (a b : Tx) : (a.toList == b.toList) = decide (a = b) := by
  by_cases h : a = b
  · subst h; simp
  · rw [decide_eq_false h, beq_eq_false_iff_ne]
    exact fun e => h (tx_ext e)
theorem kl_irrefl (a : Tx) : kl a a = false := by
  rw [kl_lt, decide_eq_false_iff_not]
  exact List.lt_irrefl _
theorem kl_trans {a b c : Tx} (h1 : kl a b = true) (h2 : kl b c = true) : kl a c = true := by
  rw [kl_lt, decide_eq_true_eq] at *
  exact List.lt_trans h1 h2
theorem kl_tri {a b : Tx} (h1 : kl a b = false) (h2 : kl b a = false) : a = b := by
  rw [kl_lt, decide_eq_false_iff_not] at *
  exact tx_ext (List.le_antisymm (List.not_lt.1 h2) (List.not_lt.1 h1))
theorem kl_asymm {a b : Tx} (h : kl a b = true) : kl b a = false := by
  cases h2 : kl b a with
  | false => rfl
  | true => exact absurd (kl_trans h h2) (by rw [kl_irrefl]; simp)
theorem kl_ne {a b : Tx} (h : kl a b = true) : a ≠ b := by
  rintro rfl
  rw [kl_irrefl] at h
  cases h

def keyOk (k : Tx) : Bool := decide (1 ≤ k.size) && decide (k.size ≤ 8)
def valOk (v : Tx) : Bool := decide (v.size ≤ 16)

/-- Is the pair at a place as it must be? -/
def goodAt (l : List Pr) (i : Nat) : Bool :=
  match l[i]? with
  | none => true
  | some p => keyOk p.1 && valOk p.2 && (decide (i = 0) || match l[i - 1]? with | none => true | some q => kl q.1 p.1)
def goods (l : List Pr) (k : Nat) : Bool := (List.range k).all (goodAt l)
def mayS (l : List Pr) : Bool := decide (l.length ≤ 8) && goods l l.length

theorem goods_zero (l : List Pr) : goods l 0 = true := by simp [goods]
theorem goods_succ (l : List Pr) (k : Nat) : goods l (k + 1) = (goods l k && goodAt l k) := by simp [goods, List.range_succ]
theorem goods_false {l : List Pr} {k : Nat} (hk : k < l.length) (h : goodAt l k = false) : goods l l.length = false := by
  unfold goods
  rw [List.all_eq_false]
  exact ⟨k, by simpa using hk, by simp [h]⟩

def Rises (l : List Pr) : Prop := l.Pairwise (fun p q => kl p.1 q.1 = true)

theorem goodAt_adj {l : List Pr} {i : Nat} {p q : Pr} (hg : goodAt l (i + 1) = true) (hp : l[i]? = some p) (hq : l[i + 1]? = some q) : kl p.1 q.1 = true := by
  unfold goodAt at hg
  rw [hq] at hg
  simp only [Nat.add_sub_cancel, hp, Nat.add_one_ne_zero, decide_false, Bool.false_or, Bool.and_eq_true] at hg
  exact hg.2

theorem may_spec {l : List Pr} (h : mayS l = true) : l.length ≤ 8 ∧ Rises l ∧ ∀ p ∈ l, keyOk p.1 = true ∧ valOk p.2 = true := by
  unfold mayS goods at h
  simp only [Bool.and_eq_true, decide_eq_true_eq, List.all_eq_true, List.mem_range] at h
  obtain ⟨h8, hg⟩ := h
  refine ⟨h8, ?_, ?_⟩
  · unfold Rises
    rw [List.pairwise_iff_getElem]
    intro i j hi hj hij
    induction j with
    | zero => omega
    | succ j ih =>
      have hadj := goodAt_adj (hg (j + 1) hj) (List.getElem?_eq_getElem (show j < l.length by omega)) (List.getElem?_eq_getElem hj)
      by_cases he : i = j
      · subst he; exact hadj
      · exact kl_trans (ih (by omega) (by omega)) hadj
  · intro p hp
    obtain ⟨i, hi, rfl⟩ := List.getElem_of_mem hp
    have := hg i hi
    unfold goodAt at this
    rw [List.getElem?_eq_getElem hi] at this
    simp only [Bool.and_eq_true] at this
    exact this.1

theorem may_mk {l : List Pr} (h8 : l.length ≤ 8) (hr : Rises l) (ha : ∀ p ∈ l, keyOk p.1 = true ∧ valOk p.2 = true) : mayS l = true := by
  unfold mayS goods
  simp only [Bool.and_eq_true, decide_eq_true_eq, List.all_eq_true, List.mem_range]
  refine ⟨h8, fun i hi => ?_⟩
  unfold goodAt
  rw [List.getElem?_eq_getElem hi]
  have h1 := ha l[i] (List.getElem_mem hi)
  simp only [h1.1, h1.2, Bool.true_and, Bool.or_eq_true, decide_eq_true_eq]
  by_cases h0 : i = 0
  · exact .inl h0
  · right
    rw [List.getElem?_eq_getElem (show i - 1 < l.length by omega)]
    exact (List.pairwise_iff_getElem.1 hr) (i - 1) i (by omega) hi (by omega)

/-! ### Ahead of a key, at it, behind it -/
def lo (l : List Pr) (k : Tx) : List Pr := l.filter (fun p => kl p.1 k)
def mid (l : List Pr) (k : Tx) : List Pr := l.filter (fun p => decide (p.1 = k))
def hi (l : List Pr) (k : Tx) : List Pr := l.filter (fun p => kl k p.1)

theorem filter_none {α : Type} {l : List α} {p : α → Bool} (h : ∀ y ∈ l, p y = false) : l.filter p = [] := by
  rw [List.filter_eq_nil_iff]
  intro y hy
  simp [h y hy]

theorem split3 (k : Tx) : ∀ {l : List Pr}, Rises l → l = lo l k ++ mid l k ++ hi l k
  | [], _ => rfl
  | p :: l, h => by
    have h2 := List.pairwise_cons.1 h
    have ih := split3 k h2.2
    cases h1 : kl p.1 k with
    | true =>
      have e1 : decide (p.1 = k) = false := decide_eq_false (kl_ne h1)
      have e2 : kl k p.1 = false := kl_asymm h1
      simp only [lo, mid, hi, List.filter_cons, h1, e1, e2, if_true, List.cons_append] at ih ⊢
      simp only [Bool.false_eq_true, if_false]
      rw [← ih]
    | false =>
      have hb : ∀ q ∈ l, kl k q.1 = true := fun q hq => by
        have h3 := h2.1 q hq
        cases h4 : kl k p.1 with
        | true => exact kl_trans h4 h3
        | false => rw [← kl_tri h1 h4]; exact h3
      have e1 : l.filter (fun p => kl p.1 k) = [] := filter_none fun q hq => kl_asymm (hb q hq)
      have e2 : l.filter (fun p => decide (p.1 = k)) = [] := filter_none fun q hq => decide_eq_false (fun e => kl_ne (hb q hq) e.symm)
      have e3 : l.filter (fun p => kl k p.1) = l := List.filter_eq_self.2 hb
      simp only [lo, mid, hi, List.filter_cons, h1, e1, e2, e3, Bool.false_eq_true, if_false, List.nil_append]
      cases h4 : kl k p.1 with
      | true =>
        rw [decide_eq_false (fun e => kl_ne h4 e.symm)]
        simp
      | false =>
        rw [decide_eq_true (kl_tri h1 h4)]
        simp

theorem mid_spec (k : Tx) : ∀ {l : List Pr}, Rises l → mid l k = [] ∨ ∃ v, mid l k = [(k, v)]
  | [], _ => .inl rfl
  | p :: l, h => by
    have h2 := List.pairwise_cons.1 h
    by_cases e : p.1 = k
    · have : mid l k = [] := filter_none fun q hq => decide_eq_false (fun e2 => kl_ne (h2.1 q hq) (e.trans e2.symm))
      right
      refine ⟨p.2, ?_⟩
      simp only [mid, List.filter_cons, decide_eq_true e, if_true] at this ⊢
      rw [this, ← e]
    · have := mid_spec k h2.2
      simpa [mid, List.filter_cons, e] using this

/-- What a key has. -/
def look (l : List Pr) (k : Tx) : Option Tx := (mid l k).head?.map (·.2)
def putL (l : List Pr) (k v : Tx) : List Pr := lo l k ++ (k, v) :: hi l k
def delL (l : List Pr) (k : Tx) : List Pr := lo l k ++ hi l k

/-- Where a key stands, or would. -/
def Pos (l : List Pr) (k : Tx) (i : Nat) : Prop :=
  i ≤ l.length ∧ (∀ j q, l[j]? = some q → j < i → kl q.1 k = true) ∧ (∀ j q, l[j]? = some q → i ≤ j → kl q.1 k = false)

theorem pos_lo {l : List Pr} {k : Tx} {i : Nat} (h : Pos l k i) : i = (lo l k).length := by
  obtain ⟨hl, h1, h2⟩ := h
  have e : l = l.take i ++ l.drop i := by simp
  have e2 : (lo l k) = l.take i := by
    unfold lo
    rw [e, List.filter_append]
    have f1 : (l.take i).filter (fun p => kl p.1 k) = l.take i := List.filter_eq_self.2 fun q hq => by
      obtain ⟨j, hj, rfl⟩ := List.getElem_of_mem hq
      rw [List.length_take] at hj
      rw [List.getElem_take]
      exact h1 j _ (List.getElem?_eq_getElem (by omega)) (by omega)
    have f2 : (l.drop i).filter (fun p => kl p.1 k) = [] := filter_none fun q hq => by
      obtain ⟨j, hj, rfl⟩ := List.getElem_of_mem hq
      rw [List.length_drop] at hj
      rw [List.getElem_drop]
      exact h2 (i + j) _ (List.getElem?_eq_getElem (by omega)) (by omega)
    rw [f1, f2]
    simp
  rw [e2, List.length_take]
  omega

theorem at_lo {l : List Pr} (hr : Rises l) (k : Tx) : l[(lo l k).length]? = (mid l k ++ hi l k).head? := by
  have e := split3 k hr
  have : l[(lo l k).length]? = (lo l k ++ (mid l k ++ hi l k))[(lo l k).length]? := by rw [← List.append_assoc, ← e]
  rw [this, List.getElem?_append_right (Nat.le_refl _), Nat.sub_self, List.head?_eq_getElem?]

theorem at_yes {l : List Pr} (hr : Rises l) {k v : Tx} (h : look l k = some v) : l[(lo l k).length]? = some (k, v) := by
  rw [at_lo hr]
  rcases mid_spec k hr with h1 | ⟨u, h1⟩
  · simp [look, h1] at h
  · simp [look, h1] at h
    subst h
    simp [h1]

theorem at_no {l : List Pr} (hr : Rises l) {k : Tx} (h : look l k = none) {q : Pr} (hq : l[(lo l k).length]? = some q) : q.1 ≠ k := by
  rw [at_lo hr] at hq
  rcases mid_spec k hr with h1 | ⟨u, h1⟩
  · rw [h1, List.nil_append] at hq
    have hm := List.mem_of_mem_head? hq
    unfold hi at hm
    rw [List.mem_filter] at hm
    exact fun e => kl_ne hm.2 e.symm
  · simp [look, h1] at h

theorem put_there {l : List Pr} (hr : Rises l) {k v w : Tx} (h : look l k = some v) : l.set (lo l k).length (k, w) = putL l k w := by
  rcases mid_spec k hr with h1 | ⟨u, h1⟩
  · simp [look, h1] at h
  · have e := split3 k hr
    rw [h1] at e
    have : l.set (lo l k).length (k, w) = (lo l k ++ [(k, u)] ++ hi l k).set (lo l k).length (k, w) := by rw [← e]
    rw [this]
    simp [putL]

theorem put_new {l : List Pr} (hr : Rises l) {k w : Tx} (h : look l k = none) : l.take (lo l k).length ++ (k, w) :: l.drop (lo l k).length = putL l k w := by
  rcases mid_spec k hr with h1 | ⟨u, h1⟩
  · have e := split3 k hr
    rw [h1, List.append_nil] at e
    have e1 : l.take (lo l k).length = lo l k := by
      have : l.take (lo l k).length = (lo l k ++ hi l k).take (lo l k).length := by rw [← e]
      rw [this]; simp
    have e2 : l.drop (lo l k).length = hi l k := by
      have : l.drop (lo l k).length = (lo l k ++ hi l k).drop (lo l k).length := by rw [← e]
      rw [this]; simp
    rw [e1, e2]
    rfl
  · simp [look, h1] at h

theorem del_there {l : List Pr} (hr : Rises l) {k v : Tx} (h : look l k = some v) : l.take (lo l k).length ++ l.drop ((lo l k).length + 1) = delL l k := by
  rcases mid_spec k hr with h1 | ⟨u, h1⟩
  · simp [look, h1] at h
  · have e := split3 k hr
    rw [h1] at e
    have e1 : l.take (lo l k).length = lo l k := by
      have : l.take (lo l k).length = (lo l k ++ [(k, u)] ++ hi l k).take (lo l k).length := by rw [← e]
      rw [this]; simp
    have e2 : l.drop ((lo l k).length + 1) = hi l k := by
      have : l.drop ((lo l k).length + 1) = (lo l k ++ [(k, u)] ++ hi l k).drop ((lo l k).length + 1) := by rw [← e]
      rw [this, List.drop_append]
      simp
    rw [e1, e2]
    rfl

theorem del_none {l : List Pr} (hr : Rises l) {k : Tx} (h : look l k = none) : delL l k = l := by
  rcases mid_spec k hr with h1 | ⟨u, h1⟩
  · have e := split3 k hr
    rw [h1, List.append_nil] at e
    exact e.symm
  · simp [look, h1] at h

/-! ### Operations -/
structure Opn where
  kind : Int
  key : Tx
  old : Tx
  val : Tx
structure Rp where
  err : Int
  found : Bool
  val : Tx

def mayO (o : Opn) : Bool :=
  keyOk o.key && valOk o.old && valOk o.val &&
    (if o.kind = 1 ∨ o.kind = 3 then decide (o.old.size = 0) && decide (o.val.size = 0) else if o.kind = 2 then decide (o.old.size = 0) else decide (o.kind = 4))

def wasR (l : List Pr) (k : Tx) : Rp := match look l k with | none => ⟨0, false, ⟨#[]⟩⟩ | some v => ⟨0, true, v⟩

def doP (l : List Pr) (o : Opn) : List Pr × Rp :=
  if mayS l = false then ([], ⟨2, false, ⟨#[]⟩⟩)
  else if mayO o = false then (l, ⟨210, false, ⟨#[]⟩⟩)
  else if o.kind = 1 then (l, wasR l o.key)
  else if o.kind = 2 then (if look l o.key = none ∧ l.length = 8 then (l, ⟨211, false, ⟨#[]⟩⟩) else (putL l o.key o.val, wasR l o.key))
  else if o.kind = 3 then (delL l o.key, wasR l o.key)
  else if look l o.key = some o.old then (putL l o.key o.val, wasR l o.key) else (l, { wasR l o.key with found := false })
end Go.Proofs.Ytmnjmjbmnhppfaa

namespace Go.Proofs.Ytmnjmjbmnhppfaa

theorem rises_lo {l : List Pr} (h : Rises l) (k : Tx) : Rises (lo l k) := List.Pairwise.filter _ h
theorem rises_hi {l : List Pr} (h : Rises l) (k : Tx) : Rises (hi l k) := List.Pairwise.filter _ h
theorem mem_lo {l : List Pr} {k : Tx} {p : Pr} (h : p ∈ lo l k) : p ∈ l ∧ kl p.1 k = true := by
  unfold lo at h; rw [List.mem_filter] at h; exact h
theorem mem_hi {l : List Pr} {k : Tx} {p : Pr} (h : p ∈ hi l k) : p ∈ l ∧ kl k p.1 = true := by
  unfold hi at h; rw [List.mem_filter] at h; exact h

theorem rises_put {l : List Pr} (h : Rises l) (k v : Tx) : Rises (putL l k v) := by
  unfold putL Rises
  rw [List.pairwise_append, List.pairwise_cons]
  refine ⟨rises_lo h k, ⟨fun q hq => (mem_hi hq).2, rises_hi h k⟩, fun p hp q hq => ?_⟩
  rw [List.mem_cons] at hq
  rcases hq with rfl | hq
  · exact (mem_lo hp).2
  · exact kl_trans (mem_lo hp).2 (mem_hi hq).2
theorem rises_del {l : List Pr} (h : Rises l) (k : Tx) : Rises (delL l k) := by
  unfold delL Rises
  rw [List.pairwise_append]
  exact ⟨rises_lo h k, rises_hi h k, fun p hp q hq => kl_trans (mem_lo hp).2 (mem_hi hq).2⟩

theorem mid_app (l m : List Pr) (k : Tx) : mid (l ++ m) k = mid l k ++ mid m k := by simp [mid]
theorem mid_lo (l : List Pr) (k : Tx) : mid (lo l k) k = [] := filter_none fun _ hq => decide_eq_false (kl_ne (mem_lo hq).2)
theorem mid_hi (l : List Pr) (k : Tx) : mid (hi l k) k = [] := filter_none fun _ hq => decide_eq_false (fun e => kl_ne (mem_hi hq).2 e.symm)
theorem mid_mid {l : List Pr} {k k' : Tx} (h : k' ≠ k) : mid (mid l k) k' = [] := filter_none fun q hq => by
  unfold mid at hq
  rw [List.mem_filter, decide_eq_true_eq] at hq
  exact decide_eq_false fun e => h (e.symm.trans hq.2)

theorem look_put (l : List Pr) (k v : Tx) : look (putL l k v) k = some v := by
  have : mid (putL l k v) k = [(k, v)] := by
    unfold putL
    rw [mid_app, mid_lo, List.nil_append]
    have e : mid ((k, v) :: hi l k) k = (k, v) :: mid (hi l k) k := by simp [mid]
    rw [e, mid_hi]
  simp [look, this]
theorem look_put_ne {l : List Pr} (hr : Rises l) {k k' : Tx} (h : k' ≠ k) (v : Tx) : look (putL l k v) k' = look l k' := by
  have h1 : mid (putL l k v) k' = mid l k' := by
    conv => rhs; rw [split3 k hr, mid_app, mid_app, mid_mid h, List.append_nil]
    unfold putL
    rw [mid_app]
    have e : mid ((k, v) :: hi l k) k' = mid (hi l k) k' := by simp [mid, Ne.symm h]
    rw [e]
  unfold look
  rw [h1]
theorem look_del (l : List Pr) (k : Tx) : look (delL l k) k = none := by
  have : mid (delL l k) k = [] := by
    unfold delL
    rw [mid_app, mid_lo, mid_hi]
    rfl
  simp [look, this]
theorem look_del_ne {l : List Pr} (hr : Rises l) {k k' : Tx} (h : k' ≠ k) : look (delL l k) k' = look l k' := by
  have h1 : mid (delL l k) k' = mid l k' := by
    conv => rhs; rw [split3 k hr, mid_app, mid_app, mid_mid h, List.append_nil]
    unfold delL
    rw [mid_app]
  unfold look
  rw [h1]

theorem look_mem {l : List Pr} (hr : Rises l) {p : Pr} (h : p ∈ l) : look l p.1 = some p.2 := by
  have hm : p ∈ mid l p.1 := by
    unfold mid
    rw [List.mem_filter]
    exact ⟨h, by simp⟩
  rcases mid_spec p.1 hr with h1 | ⟨v, h1⟩
  · rw [h1] at hm
    cases hm
  · rw [h1, List.mem_singleton] at hm
    have : v = p.2 := by rw [hm]
    simp [look, h1, this]
theorem mem_look {l : List Pr} {k v : Tx} (h : look l k = some v) : (k, v) ∈ l := by
  unfold look at h
  cases hm : mid l k with
  | nil => rw [hm] at h; cases h
  | cons p m =>
    rw [hm] at h
    have hp : p ∈ mid l k := by rw [hm]; simp
    unfold mid at hp
    rw [List.mem_filter, decide_eq_true_eq] at hp
    simp at h
    have : p = (k, v) := by rw [← hp.2, ← h]
    rw [← this]
    exact hp.1

theorem rises_ext : ∀ {l m : List Pr}, Rises l → Rises m → (∀ p, p ∈ l ↔ p ∈ m) → l = m
  | [], [], _, _, _ => rfl
  | [], q :: m, _, _, h => by have := (h q).2 (by simp); cases this
  | p :: l, [], _, _, h => by have := (h p).1 (by simp); cases this
  | p :: l, q :: m, hl, hm, h => by
    have h1 := List.pairwise_cons.1 hl
    have h2 := List.pairwise_cons.1 hm
    have hpq : p = q := by
      have a1 := (h p).1 (by simp)
      have a2 := (h q).2 (by simp)
      rw [List.mem_cons] at a1 a2
      rcases a1 with a1 | a1
      · exact a1
      · rcases a2 with a2 | a2
        · exact a2.symm
        · have b1 := h2.1 p a1
          have b2 := h1.1 q a2
          rw [kl_asymm b1] at b2
          cases b2
    subst hpq
    congr 1
    refine rises_ext h1.2 h2.2 fun r => ⟨fun hr => ?_, fun hr => ?_⟩
    · have := (h r).1 (by simp [hr])
      rw [List.mem_cons] at this
      rcases this with rfl | this
      · have := h1.1 r hr
        rw [kl_irrefl] at this
        cases this
      · exact this
    · have := (h r).2 (by simp [hr])
      rw [List.mem_cons] at this
      rcases this with rfl | this
      · have := h2.1 r hr
        rw [kl_irrefl] at this
        cases this
      · exact this
theorem look_ext {l m : List Pr} (hl : Rises l) (hm : Rises m) (h : ∀ k, look l k = look m k) : l = m :=
  rises_ext hl hm fun p => ⟨fun hp => by
    have := look_mem hl hp
    rw [h] at this
    exact mem_look this, fun hp => by
    have := look_mem hm hp
    rw [← h] at this
    exact mem_look this⟩

theorem len_put {l : List Pr} (hr : Rises l) (k v : Tx) : (putL l k v).length = (if look l k = none then l.length + 1 else l.length) := by
  have e := congrArg List.length (split3 k hr)
  simp only [List.length_append] at e
  unfold putL
  rw [List.length_append, List.length_cons]
  rcases mid_spec k hr with h1 | ⟨u, h1⟩
  · have : look l k = none := by simp [look, h1]
    rw [if_pos this]
    rw [h1] at e
    simp at e
    omega
  · have : look l k ≠ none := by simp [look, h1]
    rw [if_neg this]
    rw [h1] at e
    simp at e
    omega
theorem len_del (l : List Pr) (hr : Rises l) (k : Tx) : (delL l k).length ≤ l.length := by
  have e := congrArg List.length (split3 k hr)
  simp only [List.length_append] at e
  unfold delL
  rw [List.length_append]
  omega

theorem ok_put {l : List Pr} (h : ∀ p ∈ l, keyOk p.1 = true ∧ valOk p.2 = true) {k v : Tx} (hk : keyOk k = true) (hv : valOk v = true) : ∀ p ∈ putL l k v, keyOk p.1 = true ∧ valOk p.2 = true := by
  intro p hp
  unfold putL at hp
  rw [List.mem_append, List.mem_cons] at hp
  rcases hp with hp | rfl | hp
  · exact h p (mem_lo hp).1
  · exact ⟨hk, hv⟩
  · exact h p (mem_hi hp).1
theorem ok_del {l : List Pr} (h : ∀ p ∈ l, keyOk p.1 = true ∧ valOk p.2 = true) (k : Tx) : ∀ p ∈ delL l k, keyOk p.1 = true ∧ valOk p.2 = true := by
  intro p hp
  unfold delL at hp
  rw [List.mem_append] at hp
  rcases hp with hp | hp
  · exact h p (mem_lo hp).1
  · exact h p (mem_hi hp).1

theorem may_put {l : List Pr} (h : mayS l = true) {k v : Tx} (hk : keyOk k = true) (hv : valOk v = true) (hn : ¬(look l k = none ∧ l.length = 8)) : mayS (putL l k v) = true := by
  obtain ⟨h8, hr, ho⟩ := may_spec h
  refine may_mk ?_ (rises_put hr k v) (ok_put ho hk hv)
  rw [len_put hr]
  split
  · rename_i h1
    have : l.length ≠ 8 := fun e => hn ⟨h1, e⟩
    omega
  · exact h8
theorem may_del {l : List Pr} (h : mayS l = true) (k : Tx) : mayS (delL l k) = true := by
  obtain ⟨h8, hr, ho⟩ := may_spec h
  exact may_mk (Nat.le_trans (len_del l hr k) h8) (rises_del hr k) (ok_del ho k)

theorem mayO_spec {o : Opn} (h : mayO o = true) : keyOk o.key = true ∧ valOk o.old = true ∧ valOk o.val = true ∧ (o.kind = 1 ∨ o.kind = 2 ∨ o.kind = 3 ∨ o.kind = 4) := by
  unfold mayO at h
  simp only [Bool.and_eq_true] at h
  obtain ⟨⟨⟨h1, h2⟩, h3⟩, h4⟩ := h
  refine ⟨h1, h2, h3, ?_⟩
  split at h4
  · rename_i h5; rcases h5 with h5 | h5 <;> simp [h5]
  · split at h4
    · rename_i h5; simp [h5]
    · simp at h4; simp [h4]

/-- One operation that may be, on a state that may be. -/
theorem doP_ok {l : List Pr} {o : Opn} (h : mayS l = true) (ho : mayO o = true) :
    doP l o = if o.kind = 1 then (l, wasR l o.key)
      else if o.kind = 2 then (if look l o.key = none ∧ l.length = 8 then (l, ⟨211, false, ⟨#[]⟩⟩) else (putL l o.key o.val, wasR l o.key))
      else if o.kind = 3 then (delL l o.key, wasR l o.key)
      else if look l o.key = some o.old then (putL l o.key o.val, wasR l o.key) else (l, { wasR l o.key with found := false }) := by
  unfold doP
  rw [if_neg (by simp [h]), if_neg (by simp [ho])]
theorem doP_bad {l : List Pr} {o : Opn} (h : mayS l = true) (ho : mayO o = false) : doP l o = (l, ⟨210, false, ⟨#[]⟩⟩) := by
  unfold doP
  rw [if_neg (by simp [h]), if_pos ho]

theorem doP_may {l : List Pr} (o : Opn) (h : mayS l = true) : mayS (doP l o).1 = true := by
  cases ho : mayO o with
  | false => rw [doP_bad h ho]; exact h
  | true =>
    obtain ⟨h1, h2, h3, h4⟩ := mayO_spec ho
    rw [doP_ok h ho]
    split
    · exact h
    · split
      · split
        · exact h
        · rename_i hn; exact may_put h h1 h3 hn
      · split
        · exact may_del h _
        · split
          · rename_i hl; exact may_put h h1 h3 (by rw [hl]; simp)
          · exact h
end Go.Proofs.Ytmnjmjbmnhppfaa

namespace Go.Proofs.Ytmnjmjbmnhppfaa

def rpOf (x : Option Tx) : Rp := match x with | none => ⟨0, false, ⟨#[]⟩⟩ | some v => ⟨0, true, v⟩
theorem wasR_eq (l : List Pr) (k : Tx) : wasR l k = rpOf (look l k) := rfl
theorem rpOf_err (x : Option Tx) : (rpOf x).err = 0 := by cases x <;> rfl
/-- What an operation does to what its key has; and its reply. -/
def stepK (o : Opn) (x : Option Tx) : Option Tx × Rp :=
  if o.kind = 1 then (x, rpOf x)
  else if o.kind = 2 then (some o.val, rpOf x)
  else if o.kind = 3 then (none, rpOf x)
  else if x = some o.old then (some o.val, rpOf x) else (x, { rpOf x with found := false })

theorem doP_err {l : List Pr} {o : Opn} (h : mayS l = true) : (doP l o).2.err = 0 ∨ (doP l o).2.err = 210 ∨ (doP l o).2.err = 211 := by
  cases ho : mayO o with
  | false => rw [doP_bad h ho]; exact .inr (.inl rfl)
  | true =>
    rw [doP_ok h ho]
    split
    · exact .inl (rpOf_err _)
    · split
      · split
        · exact .inr (.inr rfl)
        · exact .inl (rpOf_err _)
      · split
        · exact .inl (rpOf_err _)
        · split
          · exact .inl (rpOf_err _)
          · exact .inl (rpOf_err _)

theorem doP_same {l : List Pr} {o : Opn} (h : mayS l = true) (he : (doP l o).2.err ≠ 0) : (doP l o).1 = l := by
  cases ho : mayO o with
  | false => rw [doP_bad h ho]
  | true =>
    rw [doP_ok h ho] at he ⊢
    split
    · rfl
    · rename_i h1
      rw [if_neg h1] at he
      split
      · rename_i h2
        rw [if_pos h2] at he
        split
        · rfl
        · rename_i h3
          rw [if_neg h3] at he
          exact absurd (rpOf_err _) he
      · rename_i h2
        rw [if_neg h2] at he
        split
        · rename_i h3
          rw [if_pos h3] at he
          exact absurd (rpOf_err _) he
        · rename_i h3
          rw [if_neg h3] at he
          split
          · rename_i h4
            rw [if_pos h4] at he
            exact absurd (rpOf_err _) he
          · rfl

theorem doP_210 {l : List Pr} {o : Opn} (h : mayS l = true) : decide ((doP l o).2.err = 210) = !mayO o := by
  cases ho : mayO o with
  | false => rw [doP_bad h ho]; rfl
  | true =>
    have : (doP l o).2.err ≠ 210 := by
      rw [doP_ok h ho]
      split
      · show (rpOf _).err ≠ 210; rw [rpOf_err]; decide
      · split
        · split
          · show (211 : Int) ≠ 210; decide
          · show (rpOf _).err ≠ 210; rw [rpOf_err]; decide
        · split
          · show (rpOf _).err ≠ 210; rw [rpOf_err]; decide
          · split
            · show (rpOf _).err ≠ 210; rw [rpOf_err]; decide
            · show (rpOf _).err ≠ 210; rw [rpOf_err]; decide
    simp [this]

theorem doP_reads {l : List Pr} {o : Opn} (h : mayS l = true) (hk : o.kind = 1) : (doP l o).1 = l := by
  cases ho : mayO o with
  | false => rw [doP_bad h ho]
  | true => rw [doP_ok h ho, if_pos hk]

theorem doP_mayO {l : List Pr} {o : Opn} (h : mayS l = true) (he : (doP l o).2.err = 0) : mayO o = true := by
  cases ho : mayO o with
  | true => rfl
  | false => rw [doP_bad h ho] at he; cases he

theorem doP_step {l : List Pr} {o : Opn} (h : mayS l = true) (he : (doP l o).2.err = 0) :
    (doP l o).2 = (stepK o (look l o.key)).2 ∧ look (doP l o).1 o.key = (stepK o (look l o.key)).1 := by
  have ho := doP_mayO h he
  rw [doP_ok h ho] at he ⊢
  unfold stepK
  split
  · exact ⟨rfl, rfl⟩
  · rename_i h1
    rw [if_neg h1] at he
    split
    · rename_i h2
      rw [if_pos h2] at he
      split
      · rename_i h3
        rw [if_pos h3] at he
        cases he
      · exact ⟨rfl, look_put _ _ _⟩
    · split
      · exact ⟨rfl, look_del _ _⟩
      · split
        · exact ⟨rfl, look_put _ _ _⟩
        · exact ⟨rfl, rfl⟩

theorem doP_other {l : List Pr} {o : Opn} (h : mayS l = true) {k : Tx} (hk : k ≠ o.key) : look (doP l o).1 k = look l k := by
  obtain ⟨_, hr, _⟩ := may_spec h
  cases ho : mayO o with
  | false => rw [doP_bad h ho]
  | true =>
    rw [doP_ok h ho]
    split
    · rfl
    · split
      · split
        · rfl
        · exact look_put_ne hr hk _
      · split
        · exact look_del_ne hr hk
        · split
          · exact look_put_ne hr hk _
          · rfl

theorem may_rises {l : List Pr} (h : mayS l = true) : Rises l := (may_spec h).2.1

theorem apart_same {l : List Pr} {a b : Opn} (h : mayS l = true) (hk : a.key ≠ b.key) (e1 : (doP l a).2.err = 0) (e2 : (doP (doP l a).1 b).2.err = 0) (e3 : (doP l b).2.err = 0) (e4 : (doP (doP l b).1 a).2.err = 0) :
    (doP (doP l a).1 b).1 = (doP (doP l b).1 a).1 ∧ (doP l a).2 = (doP (doP l b).1 a).2 ∧ (doP (doP l a).1 b).2 = (doP l b).2 := by
  have ha := doP_may a h
  have hb := doP_may b h
  obtain ⟨f1, g1⟩ := doP_step h e1
  obtain ⟨f2, g2⟩ := doP_step ha e2
  obtain ⟨f3, g3⟩ := doP_step h e3
  obtain ⟨f4, g4⟩ := doP_step hb e4
  rw [doP_other h hk.symm] at f2 g2
  rw [doP_other h hk] at f4 g4
  refine ⟨look_ext (may_rises (doP_may b ha)) (may_rises (doP_may a hb)) fun k => ?_, f1.trans f4.symm, f2.trans f3.symm⟩
  by_cases ka : k = a.key
  · subst ka
    rw [doP_other ha hk, g1, g4]
  · by_cases kb : k = b.key
    · subst kb
      rw [g2, doP_other hb ka, g3]
    · rw [doP_other ha kb, doP_other h ka, doP_other hb ka, doP_other h kb]

theorem over_same {l : List Pr} {a b : Opn} (h : mayS l = true) (hk : a.key = b.key) (hb : b.kind = 2 ∨ b.kind = 3) (_ : (doP l a).2.err = 0) (e2 : (doP (doP l a).1 b).2.err = 0) (e3 : (doP l b).2.err = 0) :
    (doP (doP l a).1 b).1 = (doP l b).1 := by
  have ha := doP_may a h
  obtain ⟨_, g2⟩ := doP_step ha e2
  obtain ⟨_, g3⟩ := doP_step h e3
  refine look_ext (may_rises (doP_may b ha)) (may_rises (doP_may b h)) fun k => ?_
  by_cases kb : k = b.key
  · subst kb
    rw [g2, g3]
    unfold stepK
    rcases hb with hb | hb <;> simp [hb]
  · rw [doP_other ha kb, doP_other h (by rw [hk]; exact kb), doP_other h kb]

def getO (k : Tx) : Opn := ⟨1, k, ⟨#[]⟩, ⟨#[]⟩⟩
def valueP (l : List Pr) (k : Tx) : Tx × Bool := let r := (doP l (getO k)).2; (r.val, r.found && decide (r.err = 0))
theorem mayO_get (k : Tx) : mayO (getO k) = keyOk k := by
  have h1 : valOk ⟨#[]⟩ = true := by decide
  have h2 : (⟨#[]⟩ : Tx).size = 0 := rfl
  unfold mayO getO
  simp only [h1, h2]
  simp
theorem value_ok {l : List Pr} {k : Tx} (h : mayS l = true) (hk : keyOk k = true) : valueP l k = ((rpOf (look l k)).val, (look l k).isSome) := by
  have ho : mayO (getO k) = true := by rw [mayO_get]; exact hk
  unfold valueP
  rw [doP_ok h ho]
  simp only [getO, if_true, wasR_eq]
  cases look l k <;> rfl
end Go.Proofs.Ytmnjmjbmnhppfaa

namespace Go.Proofs.Ytmnjmjbmnhppfaa
open Go.RowKit
variable {P : Program}

/-- An operation whose run is known, as one step of the walk. -/
theorem wpList_run {w w' : World} {v : Value} {ops : Array Oper} {rest : List Oper} {o : Oper} {a : Act} {Q : Exit → Act → World → Prop} (hgd : o.guard = none)
    (hr : (execOp a.eval o).run P w = .ok (.value v) w') (h : wpList P ops Q rest (a.put o.dst v) w') : wpList P ops Q (o :: rest) a w :=
  wpList_plain hgd fun K hK => by
    unfold Oper.wp
    rw [hr]
    exact hK _ _ h

theorem step_run {ops : Array Oper} {o : Oper} {a : Act} {w w' : World} {v : Value} {K : Act → World → Prop} {Q : Exit → Act → World → Prop} {E : Prop}
    (hg : o.guard = none) (hr : (execOp a.eval o).run P w = .ok (.value v) w') (hK : K (a.put o.dst v) w') :
    if Region.wanted o (yielded ops a.tmps) = true then Oper.wp P o a w K Q else E := by
  have hw : Region.wanted o (yielded ops a.tmps) = true := by simp [Region.wanted, hg]
  rw [if_pos hw]
  unfold Oper.wp
  rw [hr]
  exact hK

theorem exec_copy {w w' : World} {o : Oper} {a : Act} {v' : Value} (d s : Operand) (dT sT : TypeId) (ho : o.op = .call { callee := .builtin .copy, args := #[d, s], argTypes := #[dT, sT] })
    (vd vs : Value) (hd : a.eval d = vd) (hs : a.eval s = vs) (hr : (Builtin.copy_ #[dT, sT] o.type #[vd, vs]).run P w = .ok v' w') : (execOp a.eval o).run P w = .ok (.value v') w' := by
  simp [execOp, ho, resolve, invoke, builtin, hd, hs, hr, Result.andThen]

theorem exec_append {w w' : World} {o : Oper} {a : Act} {v' : Value} (d s : Operand) (dT sT : TypeId) (ho : o.op = .call { callee := .builtin .append, args := #[d, s], argTypes := #[dT, sT] })
    (vd vs : Value) (hd : a.eval d = vd) (hs : a.eval s = vs) (hr : (Builtin.append_ #[dT, sT] o.type #[vd, vs]).run P w = .ok v' w') : (execOp a.eval o).run P w = .ok (.value v') w' := by
  simp [execOp, ho, resolve, invoke, builtin, hd, hs, hr, Result.andThen]

/-- 'copy' into a plain row, elements of 'size' cells. -/
theorem run_copyK (w : World) (dT sT ty elem : TypeId) (size : Nat) (hu : P.underlying dT = some (.slice elem)) (hsz : (P.info? elem).map (·.size) = some size)
    (g o dLen dCap : Nat) (a : Addr) (sLen sCap : Nat) (cur : List Value) (t : TypeId) (cs : List Value)
    (hg : w.heap[g]? = some (.cells cur.toArray t (0, 0))) (hn : cs.length = Nat.min sLen dLen * size)
    (hsrc : ∀ j v, cs[j]? = some v → w.cell? (a.add j) = some v) (hfit : o + cs.length ≤ cur.length) (h1 : ∀ v ∈ cs, v.oneCell' = true) :
    (Builtin.copy_ #[dT, sT] ty #[.slice (some ⟨g, o, none⟩) dLen dCap, .slice (some a) sLen sCap]).run P w =
      .ok (goInt (Nat.min sLen dLen)) (w.setRow g (splice cur o cs).toArray) := by
  have hl := run_firstCells_some (P := P) w size (Nat.min sLen dLen) a sLen sCap cs hn hsrc
  have hst := run_storeCells_at P g o t cs 0 cur.toArray w hg (by simpa using hfit) h1
  cases hq : P.info? elem with
  | none => simp [hq] at hsz
  | some i =>
    have hi : i.size = size := by simpa [hq] using hsz
    simp only [Nat.add_zero, List.append_assoc] at hst
    simp [Builtin.copy_, run_underlying hu, Builtin.lenOf, sizeOf, typeInfo, hq, hi, hl, hst, splice]

/-- 'append(s, make([]T, m)...)' where there is no room. -/
theorem run_append_zeros (w : World) (t tn ty e : TypeId) (i : TypeInfo) (z : Value) (kn : IntKind) (ht : P.underlying t = some (.slice e)) (htn : P.underlying tn = some (.int kn)) (hi : P.info? e = some i) (hz : i.zero = some z)
    (b : Addr) (n cap : Nat) (xs : List Value) (hx : xs.length = n * i.size) (holds : ∀ j u, xs[j]? = some u → w.cell? (b.add j) = some u)
    (m : Nat) (h0 : 0 < m) (hcap : cap < n + m) (hs : 0 < i.size) (h63 : n + m ≤ 4294967296) (hby : i.bytes ≤ 4096) :
    (Builtin.append_ #[t, tn] ty #[.slice (some b) n cap, .int .i64 m]).run P w =
      .ok (.slice (some ⟨w.heap.size, 0, none⟩) (n + m) (grownCap w (n + m) cap e))
        (w.drew.alloc (.cells (xs.toArray ++ Builtin.zeroCells z.cells m ++ Builtin.zeroCells z.cells (grownCap w (n + m) cap e - (n + m))) e)) := by
  have hm : m ≠ 0 := by omega
  have hn : ¬ (n + m ≤ cap) := by omega
  have hw : IntKind.i64.wrap (m : Int) = m := by rw [IntKind.wrap_i64]; omega
  have h63' : ¬ (9223372036854775807 < ((n : Int) + (m : Int))) := by omega
  have hb1 : (n + m) * i.bytes ≤ 4294967296 * 4096 := Nat.mul_le_mul h63 hby
  have hfit := growslice_fits (need := n + m) (old := cap) (bytes := i.bytes) (by omega) (by omega)
  have h48' : ¬ (281474976710656 < Builtin.nextslicecap (n + m) cap * i.bytes) := by omega
  have hb2 : m * i.bytes ≤ (n + m) * i.bytes := Nat.mul_le_mul_right _ (by omega)
  have h48i : ¬ (281474976710656 < (m : Int) * (i.bytes : Int)) := by
    rw [← Int.natCast_mul]
    omega
  have hneg : ¬ ((m : Int) < 0) := by omega
  have hns : ¬ (m * i.size = 0) := Nat.mul_ne_zero hm (by omega)
  have hfo := run_firstCells_some (P := P) w.drew i.size n b n cap xs hx (by simpa using holds)
  simp [Builtin.append_, run_underlying ht, run_underlying htn, sizeOf, typeInfo, zeroValue, hi, hz, asInt, asIntOf, hw, hn, hneg, hns, h63', h48', h48i, Question.forced, hfo, newRow, grownCap]

/-- What a function hands back that made a row of its own. -/
def OwnRes (base : Nat) (e : TypeId) (size n : Nat) (xs : List Value) (en : Ending) (w' : World) : Prop := ∃ v, en = .returned v ∧ w'.ownsRow base e size v n xs

theorem exec_append_own {w : World} {o : Oper} {a : Act} (s x : Operand) (t e : TypeId) {size bytes : Nat} (hT : ElemT P t e size bytes) (ho : o.op = .call { callee := .builtin .append, args := #[s, x], argTypes := #[t, t] })
    (base : Nat) (v : Value) (n : Nat) (xs : List Value) (hs : a.eval s = v) (hown : w.ownsRow base e size v n xs)
    (ad : Addr) (m c : Nat) (news : List Value) (hx : a.eval x = .slice (some ad) m c) (hl : news.length = m * size) (hnews : ∀ j u, news[j]? = some u → w.cell? (ad.add j) = some u) (h1 : ∀ u ∈ news, u.oneCell' = true)
    (hn : n + m ≤ 4294967296) (hby : bytes ≤ 4096) (hbase : base ≤ w.heap.size) :
    ∃ v' w', (execOp a.eval o).run P w = .ok (.value v') w' ∧ w'.ownsRow base e size v' (n + m) (xs ++ news) ∧ Below base w w' ∧ (0 < m → v' ≠ .slice none 0 0) := by
  obtain ⟨i, z, ht, hi, hz, hsize, hbytes, hzs, hsz⟩ := hT.ex
  have hb1 : (n + m) * bytes ≤ 4294967296 * 4096 := Nat.mul_le_mul hn hby
  obtain ⟨v', w', hr, h2, h3, h4⟩ := run_append_own (P := P) (w := w) base t o.type e i z size bytes ht hi hz hsize hbytes hzs hsz v n xs hown ad m c news hl hnews h1 (by unfold maxLen; omega) (by omega) hbase
  refine ⟨v', w', exec_append s x t t ho _ _ hs hx hr, h2, ?_, fun hm hv => ?_⟩
  · exact (Below.refl _ _).grown h3 hbase (fun k hk => (hown.lt k hk).1)
  · have := (h4.1 hv).2
    omega
/-- 'append(s, x...)' onto a row of one's own. -/
theorem wpList_appendN {w : World} {ops : Array Oper} {rest : List Oper} {o : Oper} {a : Act} {Q : Exit → Act → World → Prop} (hgd : o.guard = none) (s x : Operand) (t e : TypeId) {size bytes : Nat} (hT : ElemT P t e size bytes)
    (ho : o.op = .call { callee := .builtin .append, args := #[s, x], argTypes := #[t, t] })
    (base : Nat) (v : Value) (n : Nat) (xs : List Value) (hs : a.eval s = v) (hown : w.ownsRow base e size v n xs)
    (ad : Addr) (m c : Nat) (news : List Value) (hx : a.eval x = .slice (some ad) m c) (hl : news.length = m * size) (hnews : ∀ j u, news[j]? = some u → w.cell? (ad.add j) = some u) (h1 : ∀ u ∈ news, u.oneCell' = true)
    (hn : n + m ≤ 4294967296) (hby : bytes ≤ 4096) (hbase : base ≤ w.heap.size)
    (h : ∀ v' w', w'.ownsRow base e size v' (n + m) (xs ++ news) → Below base w w' → wpList P ops Q rest (a.put o.dst v') w') : wpList P ops Q (o :: rest) a w := by
  obtain ⟨v', w', hr, h2, h3, _⟩ := exec_append_own (P := P) s x t e hT ho base v n xs hs hown ad m c news hx hl hnews h1 hn hby hbase
  exact wpList_run hgd hr (h v' w' h2 h3)

theorem grownBy_setRow (w : World) (g : Nat) (cs : Array Value) : w.grownBy (w.setRow g cs) (some g) :=
  ⟨rfl, rfl, rfl, by simp [World.setRow], fun k _ hk => setRow_other w g k cs (fun e => hk (by simp [e]))⟩

theorem exec_copyK (w : World) {o : Oper} {a : Act} (d s : Operand) (dT sT elem : TypeId) (size : Nat) (hu : P.underlying dT = some (.slice elem)) (hsz : (P.info? elem).map (·.size) = some size)
    (ho : o.op = .call { callee := .builtin .copy, args := #[d, s], argTypes := #[dT, sT] })
    (g off dLen dCap : Nat) (ad : Addr) (sLen sCap : Nat) (hd : a.eval d = .slice (some ⟨g, off, none⟩) dLen dCap) (hs : a.eval s = .slice (some ad) sLen sCap)
    (cur : List Value) (t : TypeId) (cs : List Value)
    (hg : w.heap[g]? = some (.cells cur.toArray t (0, 0))) (hn : cs.length = Nat.min sLen dLen * size)
    (hsrc : ∀ j v, cs[j]? = some v → w.cell? (ad.add j) = some v) (hfit : off + cs.length ≤ cur.length) (h1 : ∀ v ∈ cs, v.oneCell' = true) :
    ∃ w', (execOp a.eval o).run P w = .ok (.value (goInt (Nat.min sLen dLen))) w' ∧ w'.heap[g]? = some (.cells (splice cur off cs).toArray t (0, 0)) ∧ w.grownBy w' (some g) :=
  ⟨_, exec_copy d s dT sT ho _ _ hd hs (run_copyK (P := P) w dT sT o.type elem size hu hsz g off dLen dCap ad sLen sCap cur t cs hg hn hsrc hfit h1),
    setRow_heap w g _ _ t _ hg, grownBy_setRow w g _⟩

theorem wpList_copyK {w : World} {ops : Array Oper} {rest : List Oper} {o : Oper} {a : Act} {Q : Exit → Act → World → Prop} (hgd : o.guard = none) (d s : Operand) (dT sT elem : TypeId) (size : Nat) (hu : P.underlying dT = some (.slice elem)) (hsz : (P.info? elem).map (·.size) = some size)
    (ho : o.op = .call { callee := .builtin .copy, args := #[d, s], argTypes := #[dT, sT] })
    (g off dLen dCap : Nat) (ad : Addr) (sLen sCap : Nat) (hd : a.eval d = .slice (some ⟨g, off, none⟩) dLen dCap) (hs : a.eval s = .slice (some ad) sLen sCap)
    (cur : List Value) (t : TypeId) (cs : List Value)
    (hg : w.heap[g]? = some (.cells cur.toArray t (0, 0))) (hn : cs.length = Nat.min sLen dLen * size)
    (hsrc : ∀ j v, cs[j]? = some v → w.cell? (ad.add j) = some v) (hfit : off + cs.length ≤ cur.length) (h1 : ∀ v ∈ cs, v.oneCell' = true)
    (h : ∀ w', Hid (w'.heap[g]? = some (.cells (splice cur off cs).toArray t (0, 0))) → w.grownBy w' (some g) → wpList P ops Q rest (a.put o.dst (goInt (Nat.min sLen dLen))) w') : wpList P ops Q (o :: rest) a w := by
  obtain ⟨w', hr, h2, h3⟩ := exec_copyK (P := P) w d s dT sT elem size hu hsz ho g off dLen dCap ad sLen sCap hd hs cur t cs hg hn hsrc hfit h1
  exact wpList_run hgd hr (h w' h2 h3)

theorem step_copyK {w : World} {ops : Array Oper} {o : Oper} {a : Act} {K : Act → World → Prop} {Q : Exit → Act → World → Prop} {E : Prop} (hgd : o.guard = none) (d s : Operand) (dT sT elem : TypeId) (size : Nat) (hu : P.underlying dT = some (.slice elem)) (hsz : (P.info? elem).map (·.size) = some size)
    (ho : o.op = .call { callee := .builtin .copy, args := #[d, s], argTypes := #[dT, sT] })
    (g off dLen dCap : Nat) (ad : Addr) (sLen sCap : Nat) (hd : a.eval d = .slice (some ⟨g, off, none⟩) dLen dCap) (hs : a.eval s = .slice (some ad) sLen sCap)
    (cur : List Value) (t : TypeId) (cs : List Value)
    (hg : w.heap[g]? = some (.cells cur.toArray t (0, 0))) (hn : cs.length = Nat.min sLen dLen * size)
    (hsrc : ∀ j v, cs[j]? = some v → w.cell? (ad.add j) = some v) (hfit : off + cs.length ≤ cur.length) (h1 : ∀ v ∈ cs, v.oneCell' = true)
    (h : ∀ w', Hid (w'.heap[g]? = some (.cells (splice cur off cs).toArray t (0, 0))) → w.grownBy w' (some g) → K (a.put o.dst (goInt (Nat.min sLen dLen))) w') :
    if Region.wanted o (yielded ops a.tmps) = true then Oper.wp P o a w K Q else E := by
  obtain ⟨w', hr, h2, h3⟩ := exec_copyK (P := P) w d s dT sT elem size hu hsz ho g off dLen dCap ad sLen sCap hd hs cur t cs hg hn hsrc hfit h1
  exact step_run hgd hr (h w' h2 h3)

/-- 'append(s, make([]T, m)...)' where there is no room: a new row. -/
theorem wpList_append_zeros {w : World} {ops : Array Oper} {rest : List Oper} {o : Oper} {a : Act} {Q : Exit → Act → World → Prop} (hgd : o.guard = none) (d s : Operand) (t tn e : TypeId) {size bytes : Nat} (hT : ElemT P t e size bytes) (kn : IntKind) (htn : P.underlying tn = some (.int kn))
    (ho : o.op = .call { callee := .builtin .append, args := #[d, s], argTypes := #[t, tn] })
    (b : Addr) (n cap : Nat) (xs : List Value) (hx : xs.length = n * size) (holds : ∀ j u, xs[j]? = some u → w.cell? (b.add j) = some u)
    (m : Nat) (h0 : 0 < m) (hcap : cap < n + m) (h63 : n + m ≤ 4294967296) (hby : bytes ≤ 4096) (hd : a.eval d = .slice (some b) n cap) (hs : a.eval s = .int .i64 m)
    (h : ∀ w' C zs, n + m ≤ C → C ≤ maxLen → xs.length + zs.length = C * size → Hid (w'.heap[w.heap.size]? = some (.cells (xs ++ zs).toArray e (0, 0))) → w.grownBy w' none → wpList P ops Q rest (a.put o.dst (.slice (some ⟨w.heap.size, 0, none⟩) (n + m) C)) w') :
    wpList P ops Q (o :: rest) a w := by
  obtain ⟨i, z, ht, hi, hz, hsize, hbytes, hzs, hsz⟩ := hT.ex
  subst hsize hbytes
  have hr := run_append_zeros (P := P) w t tn o.type e i z kn ht htn hi hz b n cap xs hx holds m h0 hcap hsz h63 hby
  have hge := grownCap_ge w (n + m) cap e
  have hcm : grownCap w (n + m) cap e ≤ maxLen := grownCap_le_maxLen w (n + m) cap e (by unfold maxLen; omega)
  have e1 : xs.toArray ++ Builtin.zeroCells z.cells m ++ Builtin.zeroCells z.cells (grownCap w (n + m) cap e - (n + m)) = (xs ++ ((Builtin.zeroCells z.cells m).toList ++ (Builtin.zeroCells z.cells (grownCap w (n + m) cap e - (n + m))).toList)).toArray := by
    apply Array.ext'
    simp
  rw [e1] at hr
  refine wpList_run hgd (exec_append d s t tn ho _ _ hd hs hr) (h _ _ _ hge hcm ?_ (heap_alloc_new w.drew _) ⟨rfl, rfl, rfl, by simp, fun k hk _ => heap_alloc_old w.drew _ hk⟩)
  simp only [hx, List.length_append, Array.length_toList, size_zeroCells, hzs, ← Nat.add_mul]
  congr 1
  omega

theorem grown_same {w w' : World} {row : Option Nat} (h : w.grownBy w' row) {k : Nat} {ob : Obj} (hk : w.heap[k]? = some ob) (hne : some k ≠ row) : w'.heap[k]? = some ob :=
  (h.block k (Array.getElem?_eq_some_iff.1 hk).1 hne).trans hk

theorem grown_below {w w' : World} {row : Option Nat} (h : w.grownBy w' row) {B : Nat} (hB : B ≤ w.heap.size) (hr : ∀ k, row = some k → B ≤ k) : Below B w w' := (Below.refl _ _).grown h hB hr

theorem owns_of_cur {w : World} {base g n cap size : Nat} {e : TypeId} {cur ys : List Value} (hc : w.heap[g]? = some (.cells cur.toArray e (0, 0))) (hb : base ≤ g) (hn : n ≤ cap) (hm : cap ≤ maxLen) (hl : cur.length = cap * size)
    (hy : cur.take (n * size) = ys) : w.ownsRow base e size (.slice (some ⟨g, 0, none⟩) n cap) n ys := by
  refine ⟨?_, .inr ⟨g, cap, cur.toArray, rfl, hb, hc, hn, hm, by simpa using hl, by simpa using hy⟩⟩
  rw [← hy, List.length_take, hl]
  exact Nat.min_eq_left (Nat.mul_le_mul_right _ hn)

theorem splice_at {A Z B : List Value} {k : Nat} (hk : k = A.length) : splice (A ++ Z) k B = A ++ B ++ Z.drop B.length := by
  subst hk
  simp [splice, List.drop_append]

theorem take_len {A Z : List Value} {k : Nat} (hk : k = A.length) : (A ++ Z).take k = A := by subst hk; simp

theorem splice_shift {A D Z X : List Value} (h : X.length ≤ Z.length) : splice (splice (A ++ D ++ Z) (A.length + X.length) D) A.length X = A ++ X ++ D ++ Z.drop X.length := by
  have e1 : splice (A ++ D ++ Z) (A.length + X.length) D = A ++ ((D ++ Z).take X.length ++ D ++ Z.drop X.length) := by
    unfold splice
    have f1 : (A ++ D ++ Z).take (A.length + X.length) = A ++ (D ++ Z).take X.length := by rw [List.append_assoc, List.take_append, List.take_of_length_le (by omega), Nat.add_sub_cancel_left]
    have f2 : (A ++ D ++ Z).drop (A.length + X.length + D.length) = Z.drop X.length := by
      rw [List.drop_append, List.drop_of_length_le (by simp)]
      simp only [List.length_append, List.nil_append]
      congr 1
      omega
    rw [f1, f2]
    simp
  rw [e1, splice_at rfl]
  have f3 : ((D ++ Z).take X.length ++ D ++ Z.drop X.length).drop X.length = D ++ Z.drop X.length := by
    rw [List.append_assoc, List.drop_append, List.drop_of_length_le (by rw [List.length_take]; omega), List.length_take, List.length_append]
    rw [show X.length - min X.length (D.length + Z.length) = 0 by omega]
    simp
  rw [f3]
  simp

theorem cells_row {w : World} {g off : Nat} {A B C : List Value} {e : TypeId} {fr : Nat × Nat} (hc : w.heap[g]? = some (.cells (A ++ B ++ C).toArray e fr)) (ho : off = A.length) : ∀ j u, B[j]? = some u → w.cell? ((⟨g, off, none⟩ : Addr).add j) = some u := by
  intro j u hj
  have hj2 := (List.getElem?_eq_some_iff.1 hj).1
  subst ho
  rw [addr_add]
  simp only [World.cell?, hc]
  simp only [List.getElem?_toArray]
  rw [List.append_assoc, List.getElem?_append_right (by omega), List.getElem?_append_left (by omega)]
  simpa using hj

/-- 'append(s, x...)' where there is room: onto the row itself. -/
theorem wpList_append_room {w : World} {ops : Array Oper} {rest : List Oper} {o : Oper} {a : Act} {Q : Exit → Act → World → Prop} (hgd : o.guard = none) (s x : Operand) (t e : TypeId) {size bytes : Nat} (hT : ElemT P t e size bytes)
    (ho : o.op = .call { callee := .builtin .append, args := #[s, x], argTypes := #[t, t] })
    (g n cap : Nat) (hs : a.eval s = .slice (some ⟨g, 0, none⟩) n cap) (cur : List Value) (hg : w.heap[g]? = some (.cells cur.toArray e (0, 0)))
    (ad : Addr) (m c : Nat) (news : List Value) (hx : a.eval x = .slice (some ad) m c) (hl : news.length = m * size) (hnews : ∀ j u, news[j]? = some u → w.cell? (ad.add j) = some u) (h1 : ∀ u ∈ news, u.oneCell' = true)
    (hroom : n + m ≤ cap) (hfit : n * size + news.length ≤ cur.length)
    (h : ∀ w', Hid (w'.heap[g]? = some (.cells (splice cur (n * size) news).toArray e (0, 0))) → w.grownBy w' (some g) → wpList P ops Q rest (a.put o.dst (.slice (some ⟨g, 0, none⟩) (n + m) cap)) w') : wpList P ops Q (o :: rest) a w := by
  obtain ⟨i, z, ht, hi, hz, hsize, hbytes, hzs, hsz⟩ := hT.ex
  subst hsize
  have hr := run_append_room (P := P) w t o.type e i ht hi g n cap cur.toArray hg ad m c news hl hnews h1 hroom (by simpa using hfit)
  refine wpList_run hgd (exec_append s x t t ho _ _ hs hx hr) (h _ ?_ (grownBy_setRow w g _))
  refine (setRow_heap w g _ _ e _ hg).trans ?_
  simp [splice]

theorem run_clearK (w : World) (t e ty : TypeId) {size bytes : Nat} (hT : ElemT P t e size bytes) (g off n c : Nat) (hn : 0 < n) (cur : List Value) (hg : w.heap[g]? = some (.cells cur.toArray e (0, 0))) (hfit : off + n * size ≤ cur.length)
    (hv : ∃ z : Value, (∀ w, (zeroValue e).run P w = .ok z w) ∧ z.cells.size = size ∧ ∀ u ∈ (Builtin.zeroCells z.cells n).toList, u.oneCell' = true) :
    ∃ zs : List Value, zs.length = n * size ∧ (Builtin.clear_ #[t] ty #[.slice (some ⟨g, off, none⟩) n c]).run P w = .ok (.tuple #[]) (w.setRow g (splice cur off zs).toArray) := by
  obtain ⟨i, z0, ht, hi, hz, hsize, hbytes, hzs, hsz⟩ := hT.ex
  obtain ⟨z, hzv, hz2, h1⟩ := hv
  refine ⟨(Builtin.zeroCells z.cells n).toList, by rw [Array.length_toList, size_zeroCells, hz2], ?_⟩
  have hlen : (Builtin.zeroCells z.cells n).toList.length = n * size := by rw [Array.length_toList, size_zeroCells, hz2]
  have hst := run_storeCells_at P g off e (Builtin.zeroCells z.cells n).toList 0 cur.toArray w hg (by rw [hlen]; simpa using hfit) h1
  cases n with
  | zero => omega
  | succ n =>
    simp only [Nat.add_zero, List.append_assoc] at hst
    simp [Builtin.clear_, run_underlying ht, hzv, hst, splice]

theorem exec_clear {w w' : World} {o : Oper} {a : Act} {v' : Value} (d : Operand) (dT : TypeId) (ho : o.op = .call { callee := .builtin .clear, args := #[d], argTypes := #[dT] })
    (vd : Value) (hd : a.eval d = vd) (hr : (Builtin.clear_ #[dT] o.type #[vd]).run P w = .ok v' w') : (execOp a.eval o).run P w = .ok (.value v') w' := by
  simp [execOp, ho, resolve, invoke, builtin, hd, hr, Result.andThen]

theorem wpList_clearK {w : World} {ops : Array Oper} {rest : List Oper} {o : Oper} {a : Act} {Q : Exit → Act → World → Prop} (hgd : o.guard = none) (s : Operand) (t e : TypeId) {size bytes : Nat} (hT : ElemT P t e size bytes)
    (ho : o.op = .call { callee := .builtin .clear, args := #[s], argTypes := #[t] })
    (g off n c : Nat) (hs : a.eval s = .slice (some ⟨g, off, none⟩) n c) (hn : 0 < n) (cur : List Value) (hg : w.heap[g]? = some (.cells cur.toArray e (0, 0))) (hfit : off + n * size ≤ cur.length)
    (hv : ∃ z : Value, (∀ w, (zeroValue e).run P w = .ok z w) ∧ z.cells.size = size ∧ ∀ u ∈ (Builtin.zeroCells z.cells n).toList, u.oneCell' = true)
    (h : ∀ w' zs, zs.length = n * size → Hid (w'.heap[g]? = some (.cells (splice cur off zs).toArray e (0, 0))) → w.grownBy w' (some g) → wpList P ops Q rest (a.put o.dst (.tuple #[])) w') : wpList P ops Q (o :: rest) a w := by
  obtain ⟨zs, hl, hr⟩ := run_clearK (P := P) w t e o.type hT g off n c hn cur hg hfit hv
  exact wpList_run hgd (exec_clear s t ho _ hs hr) (h _ zs hl (setRow_heap w g _ _ e _ hg) (grownBy_setRow w g _))

theorem zeroCells_mem {z : Value} {n : Nat} (h : ∀ u ∈ z.cells.toList, u.oneCell' = true) : ∀ u ∈ (Builtin.zeroCells z.cells n).toList, u.oneCell' = true := by
  intro u hu
  simp only [Builtin.zeroCells, Array.toList_map, List.mem_map] at hu
  obtain ⟨i, hi, rfl⟩ := hu
  have hi2 : i < n * z.cells.size := by simpa using hi
  have hp : 0 < z.cells.size := by
    rcases Nat.eq_zero_or_pos z.cells.size with e | e
    · rw [e] at hi2; simp at hi2
    · exact e
  have hlt := Nat.mod_lt i hp
  rw [getElem!_pos z.cells _ hlt]
  exact h _ (by simp)

theorem run_append_nothing (w : World) (t ty e : TypeId) {size bytes : Nat} (hT : ElemT P t e size bytes) (ba : Option Addr) (n cap : Nat) (hn : n ≤ cap) (ad : Option Addr) (c : Nat) :
    (Builtin.append_ #[t, t] ty #[.slice ba n cap, .slice ad 0 c]).run P w = .ok (.slice ba n cap) w := by
  obtain ⟨i, z, ht, hi, hz, hsize, hbytes, hzs, hsz⟩ := hT.ex
  cases ba <;> cases ad <;> simp [Builtin.append_, run_underlying ht, sizeOf, typeInfo, hi, Builtin.lenOf, Builtin.firstCells, loadCells, loadCellsFrom, hn, storeCells]

/-- 'append(s, x...)' onto a row of one's own, x a row that is read, nil and empty too. -/
theorem wpList_append_row {w : World} {ops : Array Oper} {rest : List Oper} {o : Oper} {a : Act} {Q : Exit → Act → World → Prop} (hgd : o.guard = none) (s x : Operand) (t e : TypeId) {size bytes : Nat} (hT : ElemT P t e size bytes)
    (ho : o.op = .call { callee := .builtin .append, args := #[s, x], argTypes := #[t, t] })
    (base : Nat) (v : Value) (n : Nat) (xs : List Value) (hs : a.eval s = v) (hown : w.ownsRow base e size v n xs)
    (ad : Option Addr) (m c : Nat) (news : List Value) (hx : a.eval x = .slice ad m c) (hl : news.length = m * size) (hrow : Row w ad news) (h1 : ∀ u ∈ news, u.oneCell' = true)
    (hn : n + m ≤ 4294967296) (hby : bytes ≤ 4096) (hbase : base ≤ w.heap.size)
    (h : ∀ v' w', w'.ownsRow base e size v' (n + m) (xs ++ news) → Below base w w' → wpList P ops Q rest (a.put o.dst v') w') : wpList P ops Q (o :: rest) a w := by
  by_cases hm : m = 0
  · subst hm
    have hnil : news = [] := List.eq_nil_of_length_eq_zero (by simpa using hl)
    subst hnil
    obtain ⟨ba, cap, hv, _, hnc, _⟩ := Row.of_owns hown
    subst hv
    refine wpList_run hgd (exec_append s x t t ho _ _ hs hx (run_append_nothing (P := P) w t o.type e hT ba n cap hnc ad c)) (h _ _ ?_ (Below.refl _ _))
    simpa using hown
  · obtain ⟨i, z, ht, hi, hz, hsize, hbytes, hzs, hsz⟩ := hT.ex
    have hpos : 0 < news.length := by rw [hl]; exact Nat.mul_pos (by omega) hsz
    obtain ⟨b, off, rfl, hc⟩ := hrow.at hpos
    refine wpList_appendN hgd s x t e hT ho base v n xs hs hown ⟨b, off, none⟩ m c news hx hl (fun j u hj => ?_) h1 hn hby hbase h
    rw [addr_add]
    exact hc j u hj

theorem owns_some {w : World} {base n size : Nat} {e : TypeId} {v : Value} {xs : List Value} (h : w.ownsRow base e size v n xs) (hn : 0 < n) : ∃ g cap, v = .slice (some ⟨g, 0, none⟩) n cap ∧ base ≤ g := by
  obtain ⟨_, ⟨_, h⟩ | ⟨g, cap, cur, hv, hg, _⟩⟩ := h
  · omega
  · exact ⟨g, cap, hv, hg⟩

/-- '[]T{}': an empty row of one's own. -/
theorem owns_empty (w : World) (e : TypeId) (size : Nat) : (w.alloc (.cells #[] e)).ownsRow w.heap.size e size (.slice (some ⟨w.heap.size, 0, none⟩) 0 0) 0 [] :=
  owns_of_cur (cur := []) (heap_alloc_new w _) (Nat.le_refl _) (Nat.le_refl _) (by simp) (by simp) (by simp)

end Go.Proofs.Ytmnjmjbmnhppfaa

namespace Go.Proofs.Ytmnjmjbmnhppfaa
open Go.RowKit

theorem owns_after {w w' : World} {base n size : Nat} {e : TypeId} {v : Value} {xs : List Value} (h : w.ownsRow base e size v n xs) (hb : Below w.heap.size w w') : w'.ownsRow base e size v n xs := by
  obtain ⟨hl, h | ⟨g, cap, cur, hv, hg, hc, r⟩⟩ := h
  · exact ⟨hl, .inl h⟩
  · exact ⟨hl, .inr ⟨g, cap, cur, hv, hg, (hb.block g (Array.getElem?_eq_some_iff.1 hc).1).trans hc, r⟩⟩

end Go.Proofs.Ytmnjmjbmnhppfaa

namespace Go.Proofs.Ytmnjmjbmnhppfaa
open Go.RowKit

open Classical in
/-- x, if it is as w below w's size; else w. -/
noncomputable def Under (w x : World) : World := if Below w.heap.size w x then x else w

theorem under_below (w x : World) : Below w.heap.size w (Under w x) := by
  unfold Under
  split
  · assumption
  · exact Below.refl _ _
theorem under_of {w y : World} (h : Below w.heap.size w y) : y = Under w y := by
  unfold Under
  rw [if_pos h]
theorem under_cell {w : World} {p : Addr} {v : Value} (h : w.cell? p = some v) : ∀ x, (Under w x).cell? p = some v := fun x => by
  have h2 := World.block_lt_of_cell? _ _ h
  rw [(under_below w x).cell h2]
  exact h
theorem under_row {w : World} {a : Option Addr} {xs : List Value} (h : Row w a xs) : ∀ x, Row (Under w x) a xs := fun x => h.below0 (under_below w x)
theorem under_call {P : Program} {f : FuncId} {args : Array Value} {w x : World} {v : Value}
    (h : Calls P f args (Under w x) fun e w' => e = .returned v ∧ Below (Under w x).heap.size (Under w x) w') : Calls P f args (Under w x) fun e w'' => e = .returned v ∧ ∃ y, w'' = Under w y :=
  h.mono fun _ w' ⟨he, hb⟩ => ⟨he, w', under_of ((under_below w x).trans (hb.mono (under_below w x).size))⟩
theorem under_same {P : Program} {f : FuncId} {args : Array Value} {w x : World} {v : Value}
    (h : Calls P f args (Under w x) fun e w' => e = .returned v ∧ Under w x = w') : Calls P f args (Under w x) fun e w'' => e = .returned v ∧ ∃ y, w'' = Under w y :=
  h.mono fun _ _ ⟨he, hm⟩ => ⟨he, x, hm.symm⟩
theorem under_drew {P : Program} {f : FuncId} {args : Array Value} {w x : World} {v : Value}
    (h : Calls P f args (Under w x) fun e w' => e = .returned v ∧ ∃ n, w' = (Under w x).drewN n) : Calls P f args (Under w x) fun e w'' => e = .returned v ∧ ∃ y, w'' = Under w y :=
  under_call (h.mono fun _ _ ⟨he, n, hm⟩ => ⟨he, by subst hm; exact below_drewN (Below.refl _ _) n⟩)

theorem wp_region_under {P : Program} {id : Nat} {Q : Exit → Act → World → Prop} {a : Act} {w : World} {l : List Oper} (hm : P.follows .mixedOrders = true) (hB : Region.lexB .any l.toArray = true)
    (h : wpQuiet P l.toArray (fun w' => ∃ x, w' = Under w x) (fun a' => ∀ w', (∃ x, w' = Under w x) → Q .normal a' w') l a) : (Code.region id l.toArray true).wp P Q a w :=
  wp_region_quiet (C := fun w' => ∃ x, w' = Under w x) hm hB ⟨_, under_of ((Below.refl _ _).drew)⟩ (by simpa using h)
end Go.Proofs.Ytmnjmjbmnhppfaa

namespace Go.Proofs.Ytmnjmjbmnhppfaa
open Go.RowKit

def prs (l : List Pr) : List Value := l.flatMap fun p => [.string p.1, .string p.2]
theorem prs_len : ∀ (l : List Pr), (prs l).length = 2 * l.length
  | [] => rfl
  | p :: l => by
    have := prs_len l
    simp only [prs, List.flatMap_cons, List.length_append, List.length_cons, List.length_nil] at this ⊢
    omega
theorem prs_app (l m : List Pr) : prs (l ++ m) = prs l ++ prs m := by simp [prs]
theorem prs_one {l : List Pr} : ∀ u ∈ prs l, u.oneCell' = true := by
  intro u hu
  simp only [prs, List.mem_flatMap] at hu
  obtain ⟨p, _, hp⟩ := hu
  simp at hp
  rcases hp with rfl | rfl <;> rfl
theorem prs_at : ∀ {l : List Pr} {i : Nat} {p : Pr}, l[i]? = some p → (prs l)[i * 2]? = some (.string p.1) ∧ (prs l)[i * 2 + 1]? = some (.string p.2)
  | [], i, p, h => by simp at h
  | q :: l, 0, p, h => by
    simp at h
    subst h
    exact ⟨rfl, rfl⟩
  | q :: l, i + 1, p, h => by
    simp only [List.getElem?_cons_succ] at h
    have := prs_at h
    have e1 : (i + 1) * 2 = i * 2 + 1 + 1 := by omega
    rw [e1]
    simp only [prs, List.flatMap_cons, List.cons_append, List.nil_append, List.getElem?_cons_succ] at this ⊢
    exact this
theorem Row.pair {w : World} {a : Option Addr} {l : List Pr} (h : Row w a (prs l)) {i : Nat} {p : Pr} (hp : l[i]? = some p) :
    ∃ b off, a = some ⟨b, off, none⟩ ∧ b < w.heap.size ∧ (∀ j q, l[j]? = some q → w.cell? ⟨b, off + j * 2, none⟩ = some (.string q.1) ∧ w.cell? ⟨b, off + j * 2 + 1, none⟩ = some (.string q.2)) := by
  have hi := (List.getElem?_eq_some_iff.1 hp).1
  obtain ⟨b, off, ha, hc⟩ := h.at (k := i) (by rw [prs_len]; omega)
  refine ⟨b, off, ha, World.block_lt_of_cell? _ _ (hc _ _ (prs_at hp).1), fun j q hq => ?_⟩
  obtain ⟨h1, h2⟩ := prs_at hq
  exact ⟨hc _ _ h1, by rw [Nat.add_assoc]; exact hc _ _ h2⟩

theorem key_any (s : Tx) (w : World) : Calls Try.prog 74 #[.string s] w fun e w' => e = .returned (.bool (keyOk s)) ∧ w = w' := by
  unfold keyOk
  by_cases h1 : 1 ≤ s.size
  all_goals by_cases h2 : s.size ≤ 8
  all_goals
    go_enter Try.func74, Try.ntmps74
    go_wp2
    all_goals go_ret
    all_goals exact ⟨ret_bool (by first | (simp [h1, h2]; done) | (simp [h1, h2]; omega)), rfl⟩
theorem value_any (s : Tx) (w : World) : Calls Try.prog 75 #[.string s] w fun e w' => e = .returned (.bool (valOk s)) ∧ w = w' := by
  unfold valOk
  by_cases h2 : s.size ≤ 16
  all_goals
    go_enter Try.func75, Try.ntmps75
    go_wp2
    all_goals go_ret
    all_goals exact ⟨ret_bool (by first | (simp [h2]; done) | (simp [h2]; omega)), rfl⟩
end Go.Proofs.Ytmnjmjbmnhppfaa

namespace Go.Proofs.Ytmnjmjbmnhppfaa
open Go.RowKit

theorem elPair : ElemT Try.prog 41 74 2 32 := ElemT.of (.agg #[.string ⟨#[]⟩, .string ⟨#[]⟩]) Try.underlying41 (by kernel_rfl) rfl (by decide)

structure SlP (w : World) (a : Option Addr) (cap : Nat) (l : List Pr) : Prop where
  row : Row w a (prs l)
  le : l.length ≤ cap
  max : cap ≤ maxLen
  nil : a = none → cap = 0
theorem SlP.below {w w' : World} {a : Option Addr} {cap : Nat} {l : List Pr} (h : SlP w a cap l) (hb : Below w.heap.size w w') : SlP w' a cap l := ⟨h.row.below0 hb, h.le, h.max, h.nil⟩
theorem SlP.of_owns {w : World} {base : Nat} {e : TypeId} {v : Value} {l : List Pr} (h : w.ownsRow base e 2 v l.length (prs l)) : ∃ a cap, v = .slice a l.length cap ∧ SlP w a cap l := by
  have h0 := h
  obtain ⟨a, cap, hv, hr, hn, hm⟩ := Row.of_owns h
  refine ⟨a, cap, hv, hr, hn, hm, fun ha => ?_⟩
  subst ha
  obtain ⟨_, ⟨h1, _⟩ | ⟨g, cap', cur, h1, _⟩⟩ := h0
  · rw [hv] at h1
    injection h1
  · rw [hv] at h1
    injection h1 with h1
    cases h1

def OwnPrs (base : Nat) (l : List Pr) (e : Ending) (w' : World) : Prop := ∃ v, e = .returned v ∧ w'.ownsRow base 74 2 v l.length (prs l)

set_option maxRecDepth 100000 in
set_option maxHeartbeats 400000 in
theorem clone_any (a : Option Addr) (cap : Nat) (l : List Pr) (w : World) (hs : SlP w a cap l) (hl : l.length ≤ 1000) :
    Calls Try.prog 76 #[.slice a l.length cap] w fun e w' => OwnPrs w.heap.size l e w' ∧ Below w.heap.size w w' := by
  have hmx := hs.max
  have hle := hs.le
  unfold maxLen at hmx
  cases a with
  | none =>
    have h0 := hs.nil rfl
    have hl0 : l = [] := List.eq_nil_of_length_eq_zero (by omega)
    subst hl0 h0
    have hnil : ∀ w : World, (binOp .eql 41 (.slice none 0 0) (.slice none 0 0)).run Try.prog w = .ok (.bool true) w := fun w => Lib.run_eql_slice_nil (P := Try.prog) w 41 74 none 0 0 0 0 Try.underlying41
    go_enter Try.func76, Try.ntmps76
    go_wp2
    go_ret
    exact ⟨⟨_, rfl, World.ownsRow_nil _ _ _ _⟩, Below.refl _ _⟩
  | some ad =>
    have hb0 : Below w.heap.size w (w.alloc (Obj.cells #[] 74)) := (Below.refl _ _).alloc (Nat.le_refl _) _
    have hr0 := hs.row.below0 hb0
    have hnil : ∀ w : World, (binOp .eql 41 (.slice (some ad) l.length cap) (.slice none 0 0)).run Try.prog w = .ok (.bool false) w := fun w => Lib.run_eql_slice_nil (P := Try.prog) w 41 74 (some ad) l.length cap 0 0 Try.underlying41
    go_enter Try.func76, Try.ntmps76
    go_wp2_with (at_builtin; refine wpList_append_row rfl _ _ 41 74 elPair rfl w.heap.size _ _ _ rfl (owns_empty _ _ _) _ _ _ _ rfl (by rw [prs_len]; omega) hr0 prs_one (by omega) (by omega) (by simp) ?_; intro v5 w5 hown5 hb5)
    go_ret
    exact ⟨⟨_, rfl, by simpa using hown5⟩, hb0.trans hb5⟩

theorem isnanS (s : Tx) (w : World) : Calls Try.prog 118 #[.string s] w fun e w' => e = .returned (.bool false) ∧ w = w' := by
  go_enter Try.func118, Try.ntmps118
  go_wp2
  go_ret
  exact ⟨by simp, rfl⟩

def cmpI (a b : Tx) : Int := if kl a b then -1 else if a = b then 0 else 1
theorem cmp_any (a b : Tx) (w : World) : Calls Try.prog 115 #[.string a, .string b] w fun e w' => e = .returned (.int .i64 (cmpI a b)) ∧ w = w' := by
  cases h1 : kl a b with
  | true =>
    have e1 : cmpI a b = -1 := by simp [cmpI, h1]
    rw [e1]
    unfold kl at h1
    go_enter Try.func115, Try.ntmps115
    go_wp2_with (go_at_call 118; refine (isnanS _ _).mono ?_; rintro e w' ⟨rfl, rfl⟩)
    go_ret
    exact ⟨rfl, rfl⟩
  | false =>
    by_cases h2 : a = b
    · have e1 : cmpI a b = 0 := by subst h2; simp [cmpI, kl_irrefl]
      rw [e1]
      unfold kl at h1
      have h3 : (a.toList == b.toList) = true := by rw [tx_eq]; exact decide_eq_true h2
      clear e1 h2
      go_enter Try.func115, Try.ntmps115
      go_wp2_with (go_at_call 118; refine (isnanS _ _).mono ?_; rintro e w' ⟨rfl, rfl⟩)
      go_ret
      exact ⟨rfl, rfl⟩
    · have e1 : cmpI a b = 1 := by simp [cmpI, h1, h2]
      rw [e1]
      unfold kl at h1
      have h3 : (a.toList == b.toList) = false := by rw [tx_eq]; exact decide_eq_false h2
      clear e1 h2
      go_enter Try.func115, Try.ntmps115
      go_wp2_with (go_at_call 118; refine (isnanS _ _).mono ?_; rintro e w' ⟨rfl, rfl⟩)
      go_ret
      exact ⟨rfl, rfl⟩

theorem cmpI_lt {a b : Tx} (h : kl a b = true) : cmpI a b = -1 := by simp [cmpI, h]
theorem cmpI_eq (a : Tx) : cmpI a a = 0 := by simp [cmpI, kl_irrefl]
theorem cmpI_gt {a b : Tx} (h : kl a b = false) (hn : a ≠ b) : cmpI a b = 1 := by simp [cmpI, h, hn]

theorem find1_any (a v b : Tx) (w : World) : Calls Try.prog 114 #[.agg #[.string a, .string v], .string b] w fun e w' => e = .returned (.int .i64 (cmpI a b)) ∧ Below w.heap.size w w' := by
  go_enter Try.func114, Try.ntmps114
  go_wp2_with (go_at_call 115; refine (cmp_any _ _ _).mono ?_; rintro e w' ⟨rfl, rfl⟩)
  go_ret
  exact ⟨rfl, (Below.refl _ _).alloc (Nat.le_refl _) _⟩

def hasK (l : List Pr) (k : Tx) : Bool := (look l k).isSome
def BsK (l : List Pr) (k : Tx) (a b : Nat) : Prop := (∀ j q, l[j]? = some q → j < a → kl q.1 k = true) ∧ (∀ j q, l[j]? = some q → b ≤ j → kl q.1 k = false)
theorem bsK_lo {l : List Pr} {k : Tx} {y : Pr} {a b m : Nat} (h : Rises l) (hi : BsK l k a b) (hy : l[m]? = some y) (hyx : kl y.1 k = true) : BsK l k (m + 1) b := by
  refine ⟨fun j q hq hj => ?_, hi.2⟩
  obtain ⟨hm, rfl⟩ := List.getElem?_eq_some_iff.1 hy
  obtain ⟨hj2, rfl⟩ := List.getElem?_eq_some_iff.1 hq
  by_cases e : j = m
  · subst e; exact hyx
  · exact kl_trans (List.pairwise_iff_getElem.1 h j m hj2 hm (by omega)) hyx
theorem bsK_hi {l : List Pr} {k : Tx} {y : Pr} {a b m : Nat} (h : Rises l) (hi : BsK l k a b) (hy : l[m]? = some y) (hyx : kl y.1 k = false) : BsK l k a m := by
  refine ⟨hi.1, fun j q hq hj => ?_⟩
  obtain ⟨hm, rfl⟩ := List.getElem?_eq_some_iff.1 hy
  obtain ⟨hj2, rfl⟩ := List.getElem?_eq_some_iff.1 hq
  by_cases e : m = j
  · subst e; exact hyx
  · have h1 := List.pairwise_iff_getElem.1 h m j hm hj2 (by omega)
    cases h2 : kl l[j].1 k with
    | false => rfl
    | true => rw [kl_trans h1 h2] at hyx; cases hyx

end Go.Proofs.Ytmnjmjbmnhppfaa

namespace Go.Proofs.Ytmnjmjbmnhppfaa
open Go.RowKit

theorem bl_nil (x : List UInt8) : Op.bytesLess x [] = false := by cases x <;> rfl
theorem bl_drop : ∀ (i : Nat) (x y : List UInt8), i ≤ x.length → i ≤ y.length → x.take i = y.take i → Op.bytesLess x y = Op.bytesLess (x.drop i) (y.drop i)
  | 0, x, y, _, _, _ => rfl
  | i + 1, [], y, h, _, _ => by simp at h
  | i + 1, x :: xs, [], _, h, _ => by simp at h
  | i + 1, x :: xs, y :: ys, h1, h2, h => by
    simp only [List.take_succ_cons, List.cons.injEq] at h
    obtain ⟨rfl, h⟩ := h
    simp only [List.drop_succ_cons]
    rw [← bl_drop i xs ys (by simpa using h1) (by simpa using h2) h]
    simp [Op.bytesLess]

theorem tx_len (a : Tx) : a.toList.length = a.size := by rw [ByteArray.toList_eq]; rfl
theorem tx_get (a : Tx) (i : Nat) (h : i < a.size) : a.toList[i]? = some a[i] := by
  rw [ByteArray.toList_eq]
  simp [ByteArray.getElem_eq_getElem_data]

/-- The first i bytes agree. -/
def Agree (a b : Tx) (i : Nat) : Prop := a.toList.take i = b.toList.take i
theorem agree_zero (a b : Tx) : Agree a b 0 := by simp [Agree]
theorem agree_succ {a b : Tx} {i : Nat} (ha : i < a.size) (hb : i < b.size) (h : Agree a b i) (he : a[i] = b[i]) : Agree a b (i + 1) := by
  unfold Agree at *
  rw [List.take_add_one, List.take_add_one, h, tx_get a i ha, tx_get b i hb, he]
theorem kl_at {a b : Tx} {i : Nat} (ha : i < a.size) (hb : i < b.size) (h : Agree a b i) (he : ¬ a[i] = b[i]) : kl a b = decide (a[i] < b[i]) := by
  unfold kl
  rw [bl_drop i _ _ (by rw [tx_len]; omega) (by rw [tx_len]; omega) h]
  have h1 := tx_get a i ha
  have h2 := tx_get b i hb
  rw [List.drop_eq_getElem_cons (l := a.toList) (by rw [tx_len]; exact ha), List.drop_eq_getElem_cons (l := b.toList) (by rw [tx_len]; exact hb)]
  rw [List.getElem?_eq_getElem (by rw [tx_len]; exact ha)] at h1
  rw [List.getElem?_eq_getElem (by rw [tx_len]; exact hb)] at h2
  rw [Option.some.inj h1, Option.some.inj h2]
  simp only [Op.bytesLess]
  have : (a[i] == b[i]) = false := by simpa using he
  rw [this]
  simp
theorem kl_end {a b : Tx} {i : Nat} (ha : i ≤ a.size) (hb : i ≤ b.size) (h : Agree a b i) (he : i = a.size ∨ i = b.size) : kl a b = decide (a.size < b.size) := by
  unfold kl
  rw [bl_drop i _ _ (by rw [tx_len]; omega) (by rw [tx_len]; omega) h]
  by_cases hlt : a.size < b.size
  · have e1 : i = a.size := by omega
    rw [decide_eq_true (by omega), List.drop_of_length_le (by rw [tx_len]; omega), List.drop_eq_getElem_cons (by rw [tx_len]; omega)]
    rfl
  · have e1 : i = b.size := by omega
    rw [decide_eq_false (by omega), List.drop_of_length_le (l := b.toList) (by rw [tx_len]; omega), bl_nil]

set_option maxHeartbeats 1000000 in
theorem rless_any (a b : Tx) (w : World) (ha : a.size ≤ 100000) (hb : b.size ≤ 100000) : Calls Try.prog 81 #[.string a, .string b] w fun e w' => e = .returned (.bool (kl a b)) ∧ ∃ m, w' = w.drewN m := by
  go_enter Try.func81, Try.ntmps81
  refine wp_seq_k (fun K hK => ?_)
  have HK := Lib.hid hK
  clear hK
  go_wp2
  refine HK.out _ _ ?_
  clear HK
  go_wp2_with fail
  go_loopw [5] (fun i wr => ∃ k m : Nat, k ≤ a.size ∧ k ≤ b.size ∧ i = .int .i64 k ∧ Agree a b k ∧ wr = w.drewN m) (fun i _ => a.size - (intOf i).toNat)
  case atStart => exact ⟨0, 0, by omega, by omega, rfl, agree_zero _ _, rfl⟩
  case round =>
    obtain ⟨k, m, h1, h2, rfl, hag, rfl⟩ := hrel
    by_cases hlt : k < a.size ∧ k < b.size
    · obtain ⟨hl1, hl2⟩ := hlt
      have hb1 := a[k].toNat_lt
      have hb2 := b[k].toNat_lt
      by_cases he : a[k] = b[k]
      · have hs := agree_succ hl1 hl2 hag he
        have hn : ((a[k].toNat : Int) != (b[k].toNat : Int)) = false := by rw [he]; simp
        have HE := Lib.hid he
        clear he
        go_wp2_with fail
        go_quiet (fail)
        go_wp2
        go_roundw
        case rel => exact ⟨k + 1, m + nq, by omega, by omega, by go_num, hs, rfl⟩
        case measure => simp [intOf]; omega
      · have hs := kl_at hl1 hl2 hag he
        have hn : ((a[k].toNat : Int) != (b[k].toNat : Int)) = true := by
          rw [bne_iff_ne]; intro e; exact he (UInt8.toNat_inj.1 (by omega))
        have hdd : decide (a[k] < b[k]) = decide (a[k].toNat < b[k].toNat) := by
          simp [UInt8.lt_iff_toNat_lt]
        have HD := Lib.hid (hs.trans hdd)
        clear he hs hdd
        go_wp2_with fail
        go_quiet (fail)
        go_wp2_with fail
        go_quiet (fail)
        go_wp2
        go_ret
        refine And.intro (ret_bool HD.out.symm) ?_
        apply Exists.intro
        rw [World.drewN_drewN, World.drewN_drewN]
    · have hs := kl_end h1 h2 hag (by omega)
      have HD := Lib.hid hs
      clear hs
      by_cases hl1 : k < a.size
      · have hl2 : ¬ k < b.size := fun h => hlt ⟨hl1, h⟩
        clear hlt
        go_wp2
        go_ret
        exact ⟨ret_bool HD.out.symm, _, rfl⟩
      · clear hlt
        go_wp2
        go_ret
        exact ⟨ret_bool HD.out.symm, _, rfl⟩
end Go.Proofs.Ytmnjmjbmnhppfaa

namespace Go.Proofs.Ytmnjmjbmnhppfaa
open Go.RowKit

theorem good_zero {l : List Pr} {y : Pr} (h : l[0]? = some y) : goodAt l 0 = (keyOk y.1 && valOk y.2) := by simp [goodAt, h]
theorem good_succ {l : List Pr} {j : Nat} {x y : Pr} (hx : l[j]? = some x) (hy : l[j + 1]? = some y) : goodAt l (j + 1) = (keyOk y.1 && valOk y.2 && kl x.1 y.1) := by simp [goodAt, hx, hy]
theorem mayS_bad {l : List Pr} {k : Nat} (hk : k < l.length) (h : goodAt l k = false) : mayS l = false := by
  unfold mayS
  rw [goods_false hk h, Bool.and_false]
theorem mayS_len {l : List Pr} (h : goods l l.length = true) : mayS l = decide (l.length ≤ 8) := by
  unfold mayS
  rw [h, Bool.and_true]

set_option maxHeartbeats 4000000 in
theorem may_any (a : Option Addr) (cap : Nat) (l : List Pr) (w : World) (hr : Row w a (prs l)) (hl : l.length ≤ 1000) :
    Calls Try.prog 33 #[.slice a l.length cap] w fun e w' => e = .returned (.bool (mayS l)) ∧ Below w.heap.size w w' := by
  go_enter Try.func33, Try.ntmps33
  refine wp_seq_k (fun K hK => ?_)
  have HK := Lib.hid hK
  clear hK
  go_wp2
  refine HK.out _ _ ?_
  clear HK
  refine wp_seq_k (fun K hK => ?_)
  go_cut [] (fun wx => goods l l.length = true ∧ Below w.heap.size w wx)
  case first =>
    go_wp2_with fail
    go_loopw [7] (fun i wr => ∃ k : Nat, k ≤ l.length ∧ i = .int .i64 k ∧ goods l k = true ∧ Below w.heap.size w wr) (fun i _ => l.length - (intOf i).toNat)
    case atStart => exact ⟨0, by omega, rfl, goods_zero l, Below.refl _ _⟩
    case round =>
      obtain ⟨k, hk, rfl, hg, hbr⟩ := hrel
      by_cases hlt : k < l.length
      · obtain ⟨bb, off, rfl, hblt, hcs⟩ := (hr.below0 hbr).pair (List.getElem?_eq_getElem hlt)
        obtain ⟨c0, c1⟩ := hcs _ _ (List.getElem?_eq_getElem hlt)
        have hgs := goods_succ l k
        have hbad := Lib.hid (mayS_bad hlt)
        have hal : Below w.heap.size w (wr.alloc (Obj.cells #[.string l[k].1, .string l[k].2] 74)) := hbr.alloc hbr.size _
        have hne : bb ≠ wr.heap.size := by omega
        cases k with
        | zero =>
          simp only [Nat.zero_mul, Nat.add_zero] at c0 c1
          have hgo := good_zero (List.getElem?_eq_getElem hlt)
          clear hcs
          generalize l[0] = y at *
          obtain ⟨y1, y2⟩ := y
          cases h1 : keyOk y1 <;> cases h2 : valOk y2
          all_goals
            rw [h1, h2] at hgo
            simp only [Bool.and_true, Bool.and_false, Bool.and_self] at hgo
            rw [hgo] at hgs
            have HG := Lib.hid hgo
            simp only [Bool.and_true, Bool.and_false, hg] at hgs
            clear hgo
            go_wp2_with fail
            go_quiet ((first | (go_at_call 74; exact quiet_same (key_any _ _)) | (go_at_call 75; exact quiet_same (value_any _ _))))
            go_wp2
            first
              | (go_ret; exact ⟨ret_bool (hbad.out HG.out).symm, below_drewN hal _⟩)
              | skip
          go_roundw
          case rel => exact ⟨1, by omega, rfl, hgs, below_drewN hal _⟩
          case measure => simp [intOf]; omega
        | succ j =>
          have hjl : j < l.length := by omega
          have hgo := good_succ (List.getElem?_eq_getElem hjl) (List.getElem?_eq_getElem hlt)
          obtain ⟨d0, d1⟩ := hcs _ _ (List.getElem?_eq_getElem hjl)
          clear hcs
          generalize l[j + 1] = y at *
          generalize l[j] = x at *
          obtain ⟨y1, y2⟩ := y
          obtain ⟨x1, x2⟩ := x
          have hkl : kl x1 y1 = Op.bytesLess x1.toList y1.toList := rfl
          simp only [hkl] at hgo
          clear hkl
          cases h1 : keyOk y1 <;> cases h2 : valOk y2 <;> cases h3 : Op.bytesLess x1.toList y1.toList
          all_goals
            rw [h1, h2, h3] at hgo
            simp only [Bool.and_true, Bool.and_false, Bool.and_self] at hgo
            rw [hgo] at hgs
            have HG := Lib.hid hgo
            simp only [Bool.and_true, Bool.and_false, hg] at hgs
            clear hgo
            go_wp2_with fail
            go_quiet ((first | (go_at_call 74; exact quiet_same (key_any _ _)) | (go_at_call 75; exact quiet_same (value_any _ _))))
            go_wp2
            first
              | (go_ret; exact ⟨ret_bool (hbad.out HG.out).symm, below_drewN hal _⟩)
              | skip
          go_roundw
          case rel => exact ⟨j + 1 + 1, by omega, by go_num, hgs, below_drewN hal _⟩
          case measure => simp [intOf]; omega
      · go_wp2
        go_meet
        exact ⟨by rw [show l.length = k by omega]; exact hg, hbr⟩
  obtain ⟨hg, hbx⟩ := hcut
  have HG := Lib.hid (mayS_len hg)
  clear hg
  refine hK _ _ ?_; clear hK
  go_wp2
  go_returns
  exact ⟨ret_bool (by rw [HG.out]; first | (simp; done) | (simp; omega)), hbx⟩
end Go.Proofs.Ytmnjmjbmnhppfaa

namespace Go.Proofs.Ytmnjmjbmnhppfaa
open Go.RowKit

theorem quiet_add {P : Program} {f : FuncId} {args : Array Value} {w : World} {a n : Nat} {v : Value}
    (h : Calls P f args (w.drewN (a + n)) fun e w' => e = .returned v ∧ ∃ m, w' = (w.drewN (a + n)).drewN m) :
    Calls P f args (w.drewN (a + n)) fun e w'' => e = .returned v ∧ ∃ m, w'' = w.drewN (a + m) :=
  h.mono fun _ _ ⟨he, m, hm⟩ => ⟨he, n + m, by rw [hm, World.drewN_drewN, Nat.add_assoc]⟩
theorem pr_small {l : List Pr} (h : ∀ p ∈ l, p.1.size ≤ 100000) {i : Nat} {y : Pr} (hy : l[i]? = some y) : y.1.size ≤ 100000 := h y (List.mem_of_getElem? hy)

theorem mayS_long {l : List Pr} (h : ¬ l.length ≤ 8) : mayS l = false := by simp [mayS, h]
theorem good_key0 {l : List Pr} {k : Nat} {y : Pr} (hy : l[k]? = some y) (h : y.1.size = 0) : goodAt l k = false := by
  unfold goodAt
  rw [hy]
  simp [keyOk, h]
theorem good_key9 {l : List Pr} {k : Nat} {y : Pr} (hy : l[k]? = some y) (h : ¬ y.1.size ≤ 8) : goodAt l k = false := by
  unfold goodAt
  rw [hy]
  simp [keyOk, h]
theorem good_val {l : List Pr} {k : Nat} {y : Pr} (hy : l[k]? = some y) (h : ¬ y.2.size ≤ 16) : goodAt l k = false := by
  unfold goodAt
  rw [hy]
  simp [valOk, h]

set_option maxHeartbeats 4000000 in
theorem rmay_any (a : Option Addr) (cap : Nat) (l : List Pr) (w : World) (hr : Row w a (prs l)) (hl : l.length ≤ 1000) (hsm : ∀ p ∈ l, p.1.size ≤ 100000) :
    Calls Try.prog 41 #[.slice a l.length cap] w fun e w' => e = .returned (.bool (mayS l)) ∧ ∃ m, w' = w.drewN m := by
  by_cases h8 : l.length ≤ 8
  · go_enter Try.func41, Try.ntmps41
    refine wp_seq_k (fun K hK => ?_)
    have HK := Lib.hid hK
    clear hK
    go_wp2
    refine HK.out _ _ ?_
    clear HK
    refine wp_seq_k (fun K hK => ?_)
    have HK := Lib.hid hK
    clear hK
    go_wp2
    refine HK.out _ _ ?_
    clear HK
    refine wp_seq_k (fun K hK => ?_)
    go_cut [] (fun wx => goods l l.length = true ∧ ∃ m, wx = w.drewN m)
    case first =>
      go_wp2_with fail
      go_loopw [3] (fun i wr => ∃ k m : Nat, k ≤ l.length ∧ i = .int .i64 k ∧ goods l k = true ∧ wr = w.drewN m) (fun i _ => l.length - (intOf i).toNat)
      case atStart => exact ⟨0, 0, by omega, rfl, goods_zero l, rfl⟩
      case round =>
        obtain ⟨k, m, hk, rfl, hg, rfl⟩ := hrel
        by_cases hlt : k < l.length
        · obtain ⟨bb, off, rfl, hblt, hcs⟩ := hr.pair (List.getElem?_eq_getElem hlt)
          obtain ⟨c0, c1⟩ := hcs _ _ (List.getElem?_eq_getElem hlt)
          have hgs := goods_succ l k
          have hbad := Lib.hid (mayS_bad hlt)
          have g1 := Lib.hid (good_key0 (List.getElem?_eq_getElem hlt))
          have g2 := Lib.hid (good_key9 (List.getElem?_eq_getElem hlt))
          have g3 := Lib.hid (good_val (List.getElem?_eq_getElem hlt))
          have hys := pr_small hsm (List.getElem?_eq_getElem hlt)
          cases k with
          | zero =>
            have hgo := good_zero (List.getElem?_eq_getElem hlt)
            clear hcs
            generalize l[0] = y at *
            obtain ⟨y1, y2⟩ := y
            simp only [Nat.zero_mul, Nat.add_zero] at c0 c1
            simp only [keyOk, valOk] at hgo
            by_cases q1 : y1.size = 0
            · have q1' : ((y1.size : Int) == 0) = true := by simp [q1]
              have HB := Lib.hid (hbad.out (g1.out q1))
              clear q1 hgo hgs
              go_wp2
              go_ret
              exact ⟨ret_bool HB.out.symm, _, rfl⟩
            · have q1' : ((y1.size : Int) == 0) = false := by rw [beq_eq_false_iff_ne]; omega
              by_cases q2 : y1.size ≤ 8
              · by_cases q3 : y2.size ≤ 16
                · rw [decide_eq_true (show 1 ≤ y1.size by omega), decide_eq_true q2, decide_eq_true q3] at hgo
                  rw [hgo, hg] at hgs
                  clear hgo q1
                  go_wp2_with fail
                  go_quiet (fail)
                  go_wp2
                  go_roundw
                  case rel => exact ⟨1, _, by omega, rfl, hgs, rfl⟩
                  case measure => simp [intOf]; omega
                · have HB := Lib.hid (hbad.out (g3.out q3))
                  clear q1 hgo hgs
                  go_wp2
                  go_ret
                  exact ⟨ret_bool HB.out.symm, _, rfl⟩
              · have HB := Lib.hid (hbad.out (g2.out q2))
                clear q1 hgo hgs
                go_wp2
                go_ret
                exact ⟨ret_bool HB.out.symm, _, rfl⟩
          | succ j =>
            have hjl : j < l.length := by omega
            have hgo := good_succ (List.getElem?_eq_getElem hjl) (List.getElem?_eq_getElem hlt)
            have hxs := pr_small hsm (List.getElem?_eq_getElem hjl)
            obtain ⟨d0, d1⟩ := hcs _ _ (List.getElem?_eq_getElem hjl)
            clear hcs
            generalize l[j + 1] = y at *
            generalize l[j] = x at *
            obtain ⟨y1, y2⟩ := y
            obtain ⟨x1, x2⟩ := x
            simp only [keyOk, valOk] at hgo
            by_cases q1 : y1.size = 0
            · have q1' : ((y1.size : Int) == 0) = true := by simp [q1]
              have HB := Lib.hid (hbad.out (g1.out q1))
              clear q1 hgo hgs
              go_wp2
              go_ret
              exact ⟨ret_bool HB.out.symm, _, rfl⟩
            · have q1' : ((y1.size : Int) == 0) = false := by rw [beq_eq_false_iff_ne]; omega
              by_cases q2 : y1.size ≤ 8
              · by_cases q3 : y2.size ≤ 16
                · have hw1 : (0 : Int) ≤ (j : Int) := by omega
                  have hw2 : (j : Int) < (l.length : Int) := by omega
                  have hw3 : (0 : Int) ≤ (j : Int) + 1 := by omega
                  have hw4 : (j : Int) + 1 < (l.length : Int) := by omega
                  have hw5 : ((j : Int) + 1).toNat = j + 1 := by omega
                  have hw0 : IntKind.i64.wrap (j : Int) = (j : Int) := IntWalk.i64_in _ (by omega)
                  rw [decide_eq_true (show 1 ≤ y1.size by omega), decide_eq_true q2, decide_eq_true q3] at hgo
                  simp only [Bool.and_self, Bool.true_and] at hgo
                  cases h3 : kl x1 y1
                  · have HB := Lib.hid (hbad.out (hgo.trans h3))
                    clear q1 hgo hgs
                    go_wp2_with fail
                    go_quiet ((go_at_call 81; first | exact quiet_add (rless_any _ _ _ hxs hys) | exact Calls.quiet_of (rless_any _ _ _ hxs hys)))
                    go_wp2
                    go_ret
                    exact ⟨ret_bool HB.out.symm, m + nq, by rw [World.drewN_drewN]⟩
                  · rw [hgo, h3, hg] at hgs
                    clear hgo q1
                    go_wp2_with fail
                    go_quiet ((go_at_call 81; first | exact quiet_add (rless_any _ _ _ hxs hys) | exact Calls.quiet_of (rless_any _ _ _ hxs hys)))
                    go_wp2
                    go_roundw
                    case rel => exact ⟨j + 1 + 1, _, by omega, by go_num, hgs, rfl⟩
                    case measure => simp [intOf]; omega
                · have HB := Lib.hid (hbad.out (g3.out q3))
                  clear q1 hgo hgs
                  go_wp2
                  go_ret
                  exact ⟨ret_bool HB.out.symm, _, rfl⟩
              · have HB := Lib.hid (hbad.out (g2.out q2))
                clear q1 hgo hgs
                go_wp2
                go_ret
                exact ⟨ret_bool HB.out.symm, _, rfl⟩
        · go_wp2
          go_meet
          exact ⟨by rw [show l.length = k by omega]; exact hg, _, rfl⟩
    obtain ⟨hg, m, rfl⟩ := hcut
    have HB : Hid (mayS l = true) := Lib.hid (by rw [mayS_len hg]; exact decide_eq_true h8)
    clear hg
    refine hK _ _ ?_; clear hK
    go_wp2
    go_ret
    exact ⟨ret_bool HB.out.symm, _, rfl⟩
  · have HB := Lib.hid (mayS_long h8)
    go_enter Try.func41, Try.ntmps41
    go_wp2
    go_ret
    exact ⟨ret_bool HB.out.symm, 0, rfl⟩

set_option maxRecDepth 100000 in
theorem rcopy_any (a : Option Addr) (cap : Nat) (l : List Pr) (w : World) (hs : SlP w a cap l) (hl : l.length ≤ 1000) :
    Calls Try.prog 38 #[.slice a l.length cap] w fun e w' => OwnPrs w.heap.size l e w' ∧ Below w.heap.size w w' := by
  have hr := hs.row
  have hmx := hs.max
  have hle := hs.le
  unfold maxLen at hmx
  go_enter Try.func38, Try.ntmps38
  go_wp2_with (at_builtin; refine wpList_append_row rfl _ _ 41 74 elPair rfl w.heap.size _ _ _ rfl (World.ownsRow_nil _ _ _ _) _ _ _ _ rfl (by rw [prs_len]; omega) hr prs_one (by omega) (by omega) (by omega) ?_; intro v5 w5 hown5 hb5)
  go_ret
  exact ⟨⟨_, rfl, by simpa using hown5⟩, hb5⟩
end Go.Proofs.Ytmnjmjbmnhppfaa

namespace Go.Proofs.Ytmnjmjbmnhppfaa

structure Rw where
  seq : Int
  rep : Rp
structure Tb where
  r0 : Rw
  r1 : Rw
  r2 : Rw
  r3 : Rw
structure En where
  kind : Int
  cli : Int
  seq : Int
  op : Opn
/-- An image but for its state's place in memory. -/
structure Im where
  idx : Int
  st : List Pr
  tb : Tb

def big40 : Int := 1099511627776
def zeroR : Rp := ⟨0, false, ⟨#[]⟩⟩
def zeroB (r : Rp) : Bool := r.err == 0 && r.found == false && r.val.toList == []
def badR (r : Rp) : Bool := decide (r.err < 0) || decide (999 < r.err) || decide (16 < r.val.size)
def oddR (r : Rw) : Bool := if r.seq = 0 then !zeroB r.rep else decide (r.seq < 0) || decide (big40 < r.seq) || badR r.rep
def mayT (t : Tb) : Bool := !oddR t.r0 && !oddR t.r1 && !oddR t.r2 && !oddR t.r3
def Tb.at (t : Tb) (c : Int) : Rw := if c = 0 then t.r0 else if c = 1 then t.r1 else if c = 2 then t.r2 else t.r3
def Tb.put (t : Tb) (c : Int) (r : Rw) : Tb := if c = 0 then { t with r0 := r } else if c = 1 then { t with r1 := r } else if c = 2 then { t with r2 := r } else { t with r3 := r }
def nilO (o : Opn) : Bool := o.kind == 0 && o.key.toList == [] && o.old.toList == [] && o.val.toList == []
def mayE (e : En) : Bool :=
  if e.kind = 1 then e.cli == 0 && e.seq == 0 && nilO e.op
  else e.kind == 2 && decide (0 ≤ e.cli) && decide (e.cli < 4) && decide (1 ≤ e.seq) && decide (e.seq ≤ big40) && mayO e.op && e.op.kind != 1
def mayI (m : Im) : Bool := decide (0 ≤ m.idx) && decide (m.idx ≤ big40) && mayS m.st && mayT m.tb
def zeroT : Tb := ⟨⟨0, zeroR⟩, ⟨0, zeroR⟩, ⟨0, zeroR⟩, ⟨0, zeroR⟩⟩
def zeroI : Im := ⟨0, [], zeroT⟩

/-- An entry, applied: the image, the reply, the error. -/
def applyP (m : Im) (index : Int) (e : En) : Im × Rp × Int :=
  if mayI m = false ∨ mayE e = false ∨ m.idx = big40 ∨ index ≠ m.idx + 1 then (zeroI, zeroR, 2)
  else if e.kind = 1 then ({ m with idx := index }, zeroR, 0)
  else
    let last := m.tb.at e.cli
    if e.seq < last.seq then ({ m with idx := index }, ⟨220, false, ⟨#[]⟩⟩, 0)
    else if e.seq = last.seq then ({ m with idx := index }, last.rep, 0)
    else
      let d := doP m.st e.op
      (⟨index, d.1, m.tb.put e.cli ⟨e.seq, d.2⟩⟩, d.2, 0)

theorem zeroB_bad {r : Rp} (h : zeroB r = true) : badR r = false := by
  obtain ⟨er, fo, va⟩ := r
  unfold zeroB at h
  simp only [Bool.and_eq_true, beq_iff_eq] at h
  obtain ⟨⟨h1, h2⟩, h3⟩ := h
  subst h1 h2
  unfold badR
  have hz : va.size = 0 := by
    have := tx_len va
    rw [h3] at this
    simpa using this.symm
  simp [hz]
/-- The reference's way of asking a row. -/
def oddRef (r : Rw) : Bool := decide (r.seq < 0) || decide (big40 < r.seq) || badR r.rep || (r.seq == 0 && !zeroB r.rep)
theorem odd_eq (r : Rw) : oddRef r = oddR r := by
  unfold oddRef oddR
  by_cases h : r.seq = 0
  · rw [if_pos h]
    have h1 : decide (r.seq < 0) = false := decide_eq_false (by omega)
    have h2 : decide (big40 < r.seq) = false := decide_eq_false (by rw [h]; decide)
    have h3 : (r.seq == 0) = true := by simpa using h
    rw [h1, h2, h3]
    cases hz : zeroB r.rep with
    | true => rw [zeroB_bad hz]; rfl
    | false => simp
  · rw [if_neg h]
    have h3 : (r.seq == 0) = false := by simpa using h
    rw [h3]
    simp

theorem was_val {l : List Pr} (h : mayS l = true) (k : Tx) : (wasR l k).val.size ≤ 16 := by
  rw [wasR_eq]
  cases hl : look l k with
  | none => exact Nat.zero_le _
  | some v =>
    unfold look at hl
    obtain ⟨p, hp, rfl⟩ := Option.map_eq_some_iff.1 hl
    have hm := List.mem_of_mem_head? hp
    unfold mid at hm
    have hv := ((may_spec h).2.2 p (List.mem_filter.1 hm).1).2
    unfold valOk at hv
    simpa [rpOf] using hv
theorem doP_val {l : List Pr} {o : Opn} (h : mayS l = true) : (doP l o).2.val.size ≤ 16 := by
  have hw := was_val h o.key
  cases ho : mayO o with
  | false => rw [doP_bad h ho]; exact Nat.zero_le _
  | true =>
    rw [doP_ok h ho]
    split
    · exact hw
    · split
      · split
        · exact Nat.zero_le _
        · exact hw
      · split
        · exact hw
        · split
          · exact hw
          · exact hw
/-- A reply that an operation may come to can be kept. -/
theorem doP_bad_no {l : List Pr} {o : Opn} (h : mayS l = true) : badR (doP l o).2 = false := by
  have hv := doP_val (o := o) h
  have he := doP_err (o := o) h
  unfold badR
  rw [Bool.or_eq_false_iff, Bool.or_eq_false_iff, decide_eq_false_iff_not, decide_eq_false_iff_not, decide_eq_false_iff_not]
  rcases he with he | he | he <;> rw [he] <;> exact ⟨⟨by decide, by decide⟩, by omega⟩
end Go.Proofs.Ytmnjmjbmnhppfaa

namespace Go.Proofs.Ytmnjmjbmnhppfaa
open Go.RowKit

set_option maxRecDepth 100000 in
theorem bad_any (er : Int) (fo : Bool) (va : Tx) (w : World) : Calls Try.prog 104 #[.agg #[.int .i64 er, .bool fo, .string va]] w fun e w' => e = .returned (.bool (badR ⟨er, fo, va⟩)) ∧ Below w.heap.size w w' := by
  have hb : badR ⟨er, fo, va⟩ = (decide (er < 0) || decide (999 < er) || decide (16 < va.size)) := rfl
  rw [hb]
  clear hb
  by_cases h1 : er < 0
  · rw [decide_eq_true h1]
    go_enter Try.func104, Try.ntmps104
    go_wp2
    go_ret
    exact ⟨rfl, by (repeat' (first | (with_reducible exact Below.refl _ _) | (with_reducible assumption) | (with_reducible refine Below.alloc ?_ ?_ _) | (with_reducible refine Below.drew ?_) | (with_reducible refine below_drewN ?_ _) | (with_reducible refine Below.setCell ?_ ?_ _) | (with_reducible refine Below.trans ?_ (by assumption)) | go_size))⟩
  · rw [decide_eq_false h1]
    by_cases h2 : 999 < er
    · rw [decide_eq_true h2]
      go_enter Try.func104, Try.ntmps104
      go_wp2
      go_ret
      exact ⟨rfl, by (repeat' (first | (with_reducible exact Below.refl _ _) | (with_reducible assumption) | (with_reducible refine Below.alloc ?_ ?_ _) | (with_reducible refine Below.drew ?_) | (with_reducible refine below_drewN ?_ _) | (with_reducible refine Below.setCell ?_ ?_ _) | (with_reducible refine Below.trans ?_ (by assumption)) | go_size))⟩
    · rw [decide_eq_false h2]
      by_cases h3 : 16 < va.size
      · have h3b : decide ((16 : Int) < (va.size : Int)) = true := decide_eq_true (by omega)
        rw [decide_eq_true h3]
        clear h3
        go_enter Try.func104, Try.ntmps104
        go_wp2
        go_ret
        exact ⟨rfl, by (repeat' (first | (with_reducible exact Below.refl _ _) | (with_reducible assumption) | (with_reducible refine Below.alloc ?_ ?_ _) | (with_reducible refine Below.drew ?_) | (with_reducible refine below_drewN ?_ _) | (with_reducible refine Below.setCell ?_ ?_ _) | (with_reducible refine Below.trans ?_ (by assumption)) | go_size))⟩
      · have h3b : decide ((16 : Int) < (va.size : Int)) = false := decide_eq_false (by omega)
        rw [decide_eq_false h3]
        clear h3
        go_enter Try.func104, Try.ntmps104
        go_wp2
        go_ret
        exact ⟨rfl, by (repeat' (first | (with_reducible exact Below.refl _ _) | (with_reducible assumption) | (with_reducible refine Below.alloc ?_ ?_ _) | (with_reducible refine Below.drew ?_) | (with_reducible refine below_drewN ?_ _) | (with_reducible refine Below.setCell ?_ ?_ _) | (with_reducible refine Below.trans ?_ (by assumption)) | go_size))⟩
set_option maxRecDepth 100000 in
theorem mayReply_any (er : Int) (fo : Bool) (va : Tx) (w : World) : Calls Try.prog 107 #[.agg #[.int .i64 er, .bool fo, .string va]] w fun e w' => e = .returned (.bool (!badR ⟨er, fo, va⟩)) ∧ Below w.heap.size w w' := by
  have hb : badR ⟨er, fo, va⟩ = (decide (er < 0) || decide (999 < er) || decide (16 < va.size)) := rfl
  rw [hb]
  clear hb
  by_cases h1 : er < 0
  · rw [decide_eq_true h1]
    go_enter Try.func107, Try.ntmps107
    go_wp2
    go_ret
    exact ⟨rfl, by (repeat' (first | (with_reducible exact Below.refl _ _) | (with_reducible assumption) | (with_reducible refine Below.alloc ?_ ?_ _) | (with_reducible refine Below.drew ?_) | (with_reducible refine below_drewN ?_ _) | (with_reducible refine Below.setCell ?_ ?_ _) | (with_reducible refine Below.trans ?_ (by assumption)) | go_size))⟩
  · rw [decide_eq_false h1]
    by_cases h2 : 999 < er
    · rw [decide_eq_true h2]
      go_enter Try.func107, Try.ntmps107
      go_wp2
      go_ret
      exact ⟨rfl, by (repeat' (first | (with_reducible exact Below.refl _ _) | (with_reducible assumption) | (with_reducible refine Below.alloc ?_ ?_ _) | (with_reducible refine Below.drew ?_) | (with_reducible refine below_drewN ?_ _) | (with_reducible refine Below.setCell ?_ ?_ _) | (with_reducible refine Below.trans ?_ (by assumption)) | go_size))⟩
    · rw [decide_eq_false h2]
      by_cases h3 : 16 < va.size
      · have h3b : decide ((va.size : Int) ≤ 16) = false := decide_eq_false (by omega)
        rw [decide_eq_true h3]
        clear h3
        go_enter Try.func107, Try.ntmps107
        go_wp2
        go_ret
        exact ⟨rfl, by (repeat' (first | (with_reducible exact Below.refl _ _) | (with_reducible assumption) | (with_reducible refine Below.alloc ?_ ?_ _) | (with_reducible refine Below.drew ?_) | (with_reducible refine below_drewN ?_ _) | (with_reducible refine Below.setCell ?_ ?_ _) | (with_reducible refine Below.trans ?_ (by assumption)) | go_size))⟩
      · have h3b : decide ((va.size : Int) ≤ 16) = true := decide_eq_true (by omega)
        rw [decide_eq_false h3]
        clear h3
        go_enter Try.func107, Try.ntmps107
        go_wp2
        go_ret
        exact ⟨rfl, by (repeat' (first | (with_reducible exact Below.refl _ _) | (with_reducible assumption) | (with_reducible refine Below.alloc ?_ ?_ _) | (with_reducible refine Below.drew ?_) | (with_reducible refine below_drewN ?_ _) | (with_reducible refine Below.setCell ?_ ?_ _) | (with_reducible refine Below.trans ?_ (by assumption)) | go_size))⟩
end Go.Proofs.Ytmnjmjbmnhppfaa

namespace Go.Proofs.Ytmnjmjbmnhppfaa
open Go.RowKit

theorem hasK_at {l : List Pr} {k : Tx} (hr : Rises l) {y : Pr} (hy : l[(lo l k).length]? = some y) : hasK l k = decide (y.1 = k) := by
  unfold hasK
  cases h : look l k with
  | some v =>
    rw [at_yes hr h] at hy
    injection hy with hy
    subst hy
    simp
  | none =>
    have := at_no hr h hy
    simp [this]
theorem hasK_end {l : List Pr} {k : Tx} (hr : Rises l) (hy : l.length ≤ (lo l k).length) : hasK l k = false := by
  unfold hasK
  cases h : look l k with
  | none => rfl
  | some v =>
    have := at_yes hr h
    rw [List.getElem?_eq_none hy] at this
    cases this
theorem lo_le (l : List Pr) (k : Tx) : (lo l k).length ≤ l.length := List.length_filter_le _ _

set_option maxHeartbeats 2000000 in
theorem bsf_any (a : Option Addr) (cap : Nat) (l : List Pr) (k : Tx) (w : World) (hr : Row w a (prs l)) (hl : l.length ≤ 1000000) (hso : Rises l) :
    Calls Try.prog 113 #[.slice a l.length cap, .string k, .func (.func 114) #[] #[]] w fun e w' => e = .returned (.tuple #[.int .i64 (lo l k).length, .bool (hasK l k)]) ∧ Below w.heap.size w w' := by
  go_enter Try.func113, Try.ntmps113
  refine wp_seq_k (fun K hK => ?_)
  have HK := Lib.hid hK
  clear hK
  go_wp2
  refine HK.out _ _ ?_
  clear HK
  refine wp_seq_k (fun K hK => ?_)
  have HK := Lib.hid hK
  clear hK
  go_wp2
  refine HK.out _ _ ?_
  clear HK
  refine wp_seq_k (fun K hK => ?_)
  have HK := Lib.hid hK
  clear hK
  go_wp2
  refine HK.out _ _ ?_
  clear HK
  refine wp_seq_k (fun K hK => ?_)
  go_cut [9] (fun i wx => i = .int .i64 (lo l k).length ∧ Below w.heap.size w wx)
  case first =>
    go_wp2_with fail
    go_loopw [9, 10] (fun i j wr => ∃ a b : Nat, a ≤ b ∧ b ≤ l.length ∧ i = .int .i64 a ∧ j = .int .i64 b ∧ BsK l k a b ∧ Below w.heap.size w wr)
      (fun i j _ => (intOf j).toNat - (intOf i).toNat)
    case atStart => exact ⟨0, l.length, by omega, by omega, rfl, rfl, ⟨fun _ _ _ h => by omega, fun k y h hk => by rw [List.getElem?_eq_none hk] at h; cases h⟩, Below.refl _ _⟩
    case round =>
      obtain ⟨a, b, hab, hb, rfl, rfl, hinv, hbr⟩ := hrel
      by_cases hlt : a < b
      · have hm : (a + b) / 2 < l.length := by omega
        obtain ⟨bb, off, rfl, hblt, hcs⟩ := (hr.below0 hbr).pair (List.getElem?_eq_getElem hm)
        obtain ⟨c0, c1⟩ := hcs ((a + b) / 2) _ (List.getElem?_eq_getElem hm)
        clear hcs
        have hlo := bsK_lo (k := k) hso hinv (List.getElem?_eq_getElem hm)
        have hhi := bsK_hi (k := k) hso hinv (List.getElem?_eq_getElem hm)
        generalize l[(a + b) / 2] = y at *
        obtain ⟨y1, y2⟩ := y
        cases hyx : kl y1 k
        · have hh := hhi hyx
          have hc : ¬ cmpI y1 k < 0 := by
            unfold cmpI
            rw [hyx]
            split
            · rename_i h; cases h
            · split <;> omega
          clear hlo hhi hyx
          go_wp2_with (go_at_call 114; refine (find1_any _ _ _ _).mono ?_; rintro e w1 ⟨rfl, hb1⟩)
          go_roundw
          case rel => exact ⟨a, (a + b) / 2, by omega, by omega, rfl, by go_num, hh, hbr.trans (hb1.mono hbr.size)⟩
          case measure => simp [intOf]; omega
        · have hh := hlo hyx
          have hc : cmpI y1 k < 0 := by rw [cmpI_lt hyx]; decide
          clear hlo hhi hyx
          go_wp2_with (go_at_call 114; refine (find1_any _ _ _ _).mono ?_; rintro e w1 ⟨rfl, hb1⟩)
          go_roundw
          case rel => exact ⟨(a + b) / 2 + 1, b, by omega, hb, by go_num, rfl, hh, hbr.trans (hb1.mono hbr.size)⟩
          case measure => simp [intOf]; omega
      · go_wp2
        go_meet
        have := pos_lo (l := l) (k := k) (i := a) ⟨by omega, hinv.1, by rw [show a = b by omega]; exact hinv.2⟩
        exact ⟨by rw [← this], hbr⟩
  obtain ⟨rfl, hbx⟩ := hcut
  refine hK _ _ ?_; clear hK
  have hle := lo_le l k
  by_cases hlt : (lo l k).length < l.length
  · obtain ⟨bb, off, rfl, hblt, hcs⟩ := (hr.below0 hbx).pair (List.getElem?_eq_getElem hlt)
    obtain ⟨c0, c1⟩ := hcs _ _ (List.getElem?_eq_getElem hlt)
    clear hcs
    have hmem := hasK_at (k := k) hso (List.getElem?_eq_getElem hlt)
    rw [hmem]
    clear hmem
    generalize l[(lo l k).length] = y at *
    obtain ⟨y1, y2⟩ := y
    generalize (lo l k).length = p at *
    have hc : (cmpI y1 k == 0) = decide (y1 = k) := by
      unfold cmpI
      by_cases e : y1 = k
      · subst e; simp [kl_irrefl]
      · simp only [if_neg e, decide_eq_false e]
        split <;> rfl
    rw [← hc]
    clear hc
    go_wp2_with (go_at_call 114; refine (find1_any _ _ _ _).mono ?_; rintro e w1 ⟨rfl, hb1⟩)
    go_returns
    exact ⟨rfl, hbx.trans (hb1.mono hbx.size)⟩
  · have hmem := hasK_end (k := k) hso (by omega)
    rw [hmem]
    clear hmem
    generalize (lo l k).length = p at *
    go_wp2
    go_returns
    exact ⟨rfl, hbx⟩

theorem find_any (a : Option Addr) (cap : Nat) (l : List Pr) (k : Tx) (w : World) (hr : Row w a (prs l)) (hl : l.length ≤ 1000000) (hso : Rises l) :
    Calls Try.prog 109 #[.slice a l.length cap, .string k] w fun e w' => e = .returned (.tuple #[.int .i64 (lo l k).length, .bool (hasK l k)]) ∧ Below w.heap.size w w' := by
  go_enter Try.func109, Try.ntmps109
  go_wp2_with (go_at_call 113; refine (bsf_any _ _ _ _ _ hr hl hso).mono ?_; rintro e w1 ⟨rfl, hb1⟩)
  go_returns
  exact ⟨rfl, hb1⟩

def rpV (r : Rp) : Value := .agg #[.int .i64 r.err, .bool r.found, .string r.val]
end Go.Proofs.Ytmnjmjbmnhppfaa

namespace Go.Proofs.Ytmnjmjbmnhppfaa
open Go.RowKit

@[go_sem] theorem eqPair (a b c d : Tx) (w : World) : (Op.equalIn 10000 74 (.agg #[.string a, .string b]) (.agg #[.string c, .string d])).run Try.prog w = .ok (a.toList == c.toList && b.toList == d.toList) w := by
  have u3 := Try.underlying9
  have a3 := Try.isAgg9
  have z3 := Try.sizeOf9
  have hS : Try.prog.underlying 74 = some (.struct (Try.prog.fieldsOf 74)) := by kernel_rfl
  rw [show (10000 : Nat) = 9999 + 1 from rfl, run_equalIn_agg w 9999 74 _ _ hS (by kernel_rfl)]
  simp only [Program.fieldsOf, Try.underlying74]
  go_simp
  cases h1 : (a.toList == c.toList) <;> cases h2 : (b.toList == d.toList) <;> simp_all
@[go_sem] theorem eqReply (e e' : Int) (f f' : Bool) (v v' : Tx) (w : World) : (Op.equalIn 10000 43 (.agg #[.int .i64 e, .bool f, .string v]) (.agg #[.int .i64 e', .bool f', .string v'])).run Try.prog w = .ok (e == e' && f == f' && v.toList == v'.toList) w := by
  have u3 := Try.underlying9
  have a3 := Try.isAgg9
  have z3 := Try.sizeOf9
  have u4 := Try.underlying4
  have a4 := Try.isAgg4
  have z4 := Try.sizeOf4
  have u5 := Try.underlying28
  have a5 := Try.isAgg28
  have z5 := Try.sizeOf28
  have hS : Try.prog.underlying 43 = some (.struct (Try.prog.fieldsOf 43)) := by kernel_rfl
  rw [show (10000 : Nat) = 9999 + 1 from rfl, run_equalIn_agg w 9999 43 _ _ hS (by kernel_rfl)]
  simp only [Program.fieldsOf, Try.underlying43]
  go_simp
  cases h1 : (e == e') <;> cases h2 : (f == f') <;> cases h3 : (v.toList == v'.toList) <;> simp_all
@[go_sem] theorem eqOp (k k' : Int) (a b c a' b' c' : Tx) (w : World) : (Op.equalIn 10000 61 (.agg #[.int .u8 k, .string a, .string b, .string c]) (.agg #[.int .u8 k', .string a', .string b', .string c'])).run Try.prog w = .ok (k == k' && a.toList == a'.toList && b.toList == b'.toList && c.toList == c'.toList) w := by
  have u3 := Try.underlying9
  have a3 := Try.isAgg9
  have z3 := Try.sizeOf9
  have u5 := Try.underlying5
  have a5 := Try.isAgg5
  have z5 := Try.sizeOf5
  have hS : Try.prog.underlying 61 = some (.struct (Try.prog.fieldsOf 61)) := by kernel_rfl
  rw [show (10000 : Nat) = 9999 + 1 from rfl, run_equalIn_agg w 9999 61 _ _ hS (by kernel_rfl)]
  simp only [Program.fieldsOf, Try.underlying61]
  go_simp
  cases h1 : (k == k') <;> cases h2 : (a.toList == a'.toList) <;> cases h3 : (b.toList == b'.toList) <;> cases h4 : (c.toList == c'.toList) <;> simp_all

def sameUp (l m : List Pr) (k : Nat) : Prop := ∀ i x y, i < k → l[i]? = some x → m[i]? = some y → x = y
theorem sameUp_zero (l m : List Pr) : sameUp l m 0 := fun i _ _ h => by omega
theorem sameUp_succ {l m : List Pr} {k : Nat} {x : Pr} (h : sameUp l m k) (hx : l[k]? = some x) (hy : m[k]? = some x) : sameUp l m (k + 1) := by
  intro i a b hi ha hb
  by_cases e : i = k
  · subst e
    rw [hx] at ha
    rw [hy] at hb
    exact (Option.some.inj ha).symm.trans (Option.some.inj hb)
  · exact h i a b (by omega) ha hb
theorem sameUp_all {l m : List Pr} (hl : l.length = m.length) (h : sameUp l m l.length) : l = m := by
  refine List.ext_getElem hl fun i h1 h2 => ?_
  exact h i _ _ h1 (List.getElem?_eq_getElem h1) (List.getElem?_eq_getElem h2)

theorem pair_ne {a b c d : Tx} (h : ¬ (a, b) = (c, d)) : (a.toList == c.toList) = false ∨ (a = c ∧ (b.toList == d.toList) = false) := by
  rw [tx_eq, tx_eq, decide_eq_false_iff_not, decide_eq_false_iff_not]
  by_cases e : a = c
  · exact .inr ⟨e, fun e2 => h (by rw [e, e2])⟩
  · exact .inl e

set_option maxHeartbeats 2000000 in
theorem rsame_any (a b : Option Addr) (c d : Nat) (l m : List Pr) (w : World) (ha : Row w a (prs l)) (hb : Row w b (prs m)) (hl : l.length ≤ 1000) (hm : m.length ≤ 1000) (r : Bool) (hr : decide (l = m) = r) :
    Calls Try.prog 40 #[.slice a l.length c, .slice b m.length d] w fun e w' => e = .returned (.bool r) ∧ ∃ q, w' = w.drewN q := by
  have HR := Lib.hid hr
  clear hr
  by_cases hlen : l.length = m.length
  · go_enter Try.func40, Try.ntmps40
    rw [← hlen]
    have hml : m.length = l.length := hlen.symm
    have HL := Lib.hid hlen
    have HML := Lib.hid hml
    clear hlen hml
    refine wp_seq_k (fun K hK => ?_)
    have HK := Lib.hid hK
    clear hK
    go_wp2
    refine HK.out _ _ ?_
    clear HK
    refine wp_seq_k (fun K hK => ?_)
    have HK := Lib.hid hK
    clear hK
    go_wp2
    refine HK.out _ _ ?_
    clear HK
    go_wp2_with fail
    go_loopw [5] (fun i wr => ∃ k q : Nat, k ≤ l.length ∧ i = .int .i64 k ∧ sameUp l m k ∧ wr = w.drewN q) (fun i _ => l.length - (intOf i).toNat)
    case atStart => exact ⟨0, 0, by omega, rfl, sameUp_zero _ _, rfl⟩
    case round =>
      obtain ⟨k, q, hk, rfl, hs, rfl⟩ := hrel
      by_cases hlt : k < l.length
      · have hlt2 : k < m.length := by rw [HML.out]; exact hlt
        obtain ⟨b1, o1, rfl, hbl1, hc1⟩ := ha.pair (List.getElem?_eq_getElem hlt)
        obtain ⟨c0, c1⟩ := hc1 _ _ (List.getElem?_eq_getElem hlt)
        obtain ⟨b2, o2, rfl, hbl2, hc2⟩ := hb.pair (List.getElem?_eq_getElem hlt2)
        obtain ⟨d0, d1⟩ := hc2 _ _ (List.getElem?_eq_getElem hlt2)
        have hsx : l[k] = m[k] → sameUp l m (k + 1) := fun e => sameUp_succ hs (List.getElem?_eq_getElem hlt) (by rw [List.getElem?_eq_getElem hlt2, e])
        have hne : l[k] ≠ m[k] → r = false := fun e => by rw [← HR.out]; exact decide_eq_false fun e2 => e (by subst e2; rfl)
        clear hc1 hc2
        generalize l[k] = x at *
        generalize m[k] = y at *
        obtain ⟨x1, x2⟩ := x
        obtain ⟨y1, y2⟩ := y
        by_cases he : (x1, x2) = (y1, y2)
        · have hs2 := hsx he
          injection he with e1 e2
          subst e1 e2
          clear hsx hne
          go_wp2_with fail
          go_quiet (fail)
          go_wp2
          go_roundw
          case rel => exact ⟨k + 1, _, by omega, by go_num, hs2, rfl⟩
          case measure => simp [intOf]; omega
        · have hr2 := hne he
          have hpn := pair_ne he
          clear hsx hne he
          subst hr2
          rcases hpn with hpn | ⟨rfl, hpn⟩
          all_goals
            go_wp2_with fail
            go_quiet (fail)
            go_wp2
            go_ret
            exact ⟨rfl, q + nq, by rw [World.drewN_drewN]⟩
      · have hall := sameUp_all HL.out (by rw [show l.length = k by omega]; exact hs)
        have hr2 : r = true := by rw [← HR.out]; exact decide_eq_true hall
        subst hr2
        clear hall
        go_wp2
        go_ret
        exact ⟨rfl, _, rfl⟩
  · have hr2 : r = false := by rw [← HR.out]; exact decide_eq_false fun e => hlen (by rw [e])
    subst hr2
    have h1 : ((l.length : Int) != (m.length : Int)) = true := by rw [bne_iff_ne]; omega
    go_enter Try.func40, Try.ntmps40
    go_wp2
    go_ret
    exact ⟨rfl, 0, rfl⟩
set_option maxHeartbeats 2000000 in
theorem equal_any (a b : Option Addr) (c d : Nat) (l m : List Pr) (w : World) (ha : Row w a (prs l)) (hb : Row w b (prs m)) (hl : l.length ≤ 1000) (hm : m.length ≤ 1000) (r : Bool) (hr : decide (l = m) = r) :
    Calls Try.prog 78 #[.slice a l.length c, .slice b m.length d] w fun e w' => e = .returned (.bool r) ∧ ∃ q, w' = w.drewN q := by
  have HR := Lib.hid hr
  clear hr
  by_cases hlen : l.length = m.length
  · go_enter Try.func78, Try.ntmps78
    rw [← hlen]
    have hml : m.length = l.length := hlen.symm
    have HL := Lib.hid hlen
    have HML := Lib.hid hml
    clear hlen hml
    refine wp_seq_k (fun K hK => ?_)
    have HK := Lib.hid hK
    clear hK
    go_wp2
    refine HK.out _ _ ?_
    clear HK
    refine wp_seq_k (fun K hK => ?_)
    have HK := Lib.hid hK
    clear hK
    go_wp2
    refine HK.out _ _ ?_
    clear HK
    go_wp2_with fail
    go_loopw [13] (fun i wr => ∃ k q : Nat, k ≤ l.length ∧ i = .int .i64 k ∧ sameUp l m k ∧ wr = w.drewN q) (fun i _ => l.length - (intOf i).toNat)
    case atStart => exact ⟨0, 0, by omega, rfl, sameUp_zero _ _, rfl⟩
    case round =>
      obtain ⟨k, q, hk, rfl, hs, rfl⟩ := hrel
      by_cases hlt : k < l.length
      · have hlt2 : k < m.length := by rw [HML.out]; exact hlt
        obtain ⟨b1, o1, rfl, hbl1, hc1⟩ := ha.pair (List.getElem?_eq_getElem hlt)
        obtain ⟨c0, c1⟩ := hc1 _ _ (List.getElem?_eq_getElem hlt)
        obtain ⟨b2, o2, rfl, hbl2, hc2⟩ := hb.pair (List.getElem?_eq_getElem hlt2)
        obtain ⟨d0, d1⟩ := hc2 _ _ (List.getElem?_eq_getElem hlt2)
        have hsx : l[k] = m[k] → sameUp l m (k + 1) := fun e => sameUp_succ hs (List.getElem?_eq_getElem hlt) (by rw [List.getElem?_eq_getElem hlt2, e])
        have hne : l[k] ≠ m[k] → r = false := fun e => by rw [← HR.out]; exact decide_eq_false fun e2 => e (by subst e2; rfl)
        clear hc1 hc2
        generalize l[k] = x at *
        generalize m[k] = y at *
        obtain ⟨x1, x2⟩ := x
        obtain ⟨y1, y2⟩ := y
        by_cases he : (x1, x2) = (y1, y2)
        · have hs2 := hsx he
          injection he with e1 e2
          subst e1 e2
          clear hsx hne
          go_wp2_with fail
          go_quiet (fail)
          go_wp2
          go_roundw
          case rel => exact ⟨k + 1, _, by omega, by go_num, hs2, rfl⟩
          case measure => simp [intOf]; omega
        · have hr2 := hne he
          have hpn := pair_ne he
          clear hsx hne he
          subst hr2
          rcases hpn with hpn | ⟨rfl, hpn⟩
          all_goals
            go_wp2_with fail
            go_quiet (fail)
            go_wp2
            go_ret
            exact ⟨rfl, q + nq, by rw [World.drewN_drewN]⟩
      · have hall := sameUp_all HL.out (by rw [show l.length = k by omega]; exact hs)
        have hr2 : r = true := by rw [← HR.out]; exact decide_eq_true hall
        subst hr2
        clear hall
        go_wp2
        go_ret
        exact ⟨rfl, _, rfl⟩
  · have hr2 : r = false := by rw [← HR.out]; exact decide_eq_false fun e => hlen (by rw [e])
    subst hr2
    have h1 : ((l.length : Int) != (m.length : Int)) = true := by rw [bne_iff_ne]; omega
    go_enter Try.func78, Try.ntmps78
    go_wp2
    go_ret
    exact ⟨rfl, 0, rfl⟩
theorem psame_any (a b : Option Addr) (c d : Nat) (l m : List Pr) (w : World) (ha : Row w a (prs l)) (hb : Row w b (prs m)) (hl : l.length ≤ 1000) (hm : m.length ≤ 1000) (r : Bool) (hr : decide (l = m) = r) :
    Calls Try.prog 37 #[.slice a l.length c, .slice b m.length d] w fun e w' => e = .returned (.bool r) ∧ ∃ q, w' = w.drewN q := by
  go_enter Try.func37, Try.ntmps37
  go_wp2_with (go_at_call 78; refine (equal_any a b c d l m _ ha hb hl hm r hr).mono ?_; rintro e w1 ⟨rfl, q, rfl⟩)
  go_ret
  exact ⟨rfl, _, rfl⟩
end Go.Proofs.Ytmnjmjbmnhppfaa

namespace Go.Proofs.Ytmnjmjbmnhppfaa
open Go.RowKit

@[go_sem] theorem eqReply9 (e e' : Int) (f f' : Bool) (v v' : Tx) (w : World) : (Op.equalIn 9999 43 (.agg #[.int .i64 e, .bool f, .string v]) (.agg #[.int .i64 e', .bool f', .string v'])).run Try.prog w = .ok (e == e' && f == f' && v.toList == v'.toList) w := by
  have u3 := Try.underlying9
  have a3 := Try.isAgg9
  have z3 := Try.sizeOf9
  have u4 := Try.underlying4
  have a4 := Try.isAgg4
  have z4 := Try.sizeOf4
  have u5 := Try.underlying28
  have a5 := Try.isAgg28
  have z5 := Try.sizeOf28
  have hS : Try.prog.underlying 43 = some (.struct (Try.prog.fieldsOf 43)) := by kernel_rfl
  rw [show (9999 : Nat) = 9998 + 1 from rfl, run_equalIn_agg w 9998 43 _ _ hS (by kernel_rfl)]
  simp only [Program.fieldsOf, Try.underlying43]
  go_simp
  cases h1 : (e == e') <;> cases h2 : (f == f') <;> cases h3 : (v.toList == v'.toList) <;> simp_all

@[go_sem] theorem eqRow (s e s' e' : Int) (f f' : Bool) (v v' : Tx) (w : World) : (Op.equalIn 10000 45 (.agg #[.int .i64 s, .int .i64 e, .bool f, .string v]) (.agg #[.int .i64 s', .int .i64 e', .bool f', .string v'])).run Try.prog w = .ok (s == s' && (e == e' && f == f' && v.toList == v'.toList)) w := by
  have u3 := Try.underlying3
  have a3 := Try.isAgg3
  have z3 := Try.sizeOf3
  have a4 := Try.isAgg43
  have z4 := Try.sizeOf43
  have hS : Try.prog.underlying 45 = some (.struct (Try.prog.fieldsOf 45)) := by kernel_rfl
  rw [show (10000 : Nat) = 9999 + 1 from rfl, run_equalIn_agg w 9999 45 _ _ hS (by kernel_rfl)]
  simp only [Program.fieldsOf, Try.underlying45]
  go_simp
  cases h1 : (s == s') <;> cases h2 : (e == e') <;> cases h3 : (f == f') <;> cases h4 : (v.toList == v'.toList) <;> simp_all

set_option maxRecDepth 100000 in
set_option maxHeartbeats 1000000 in
theorem odd_any (s er : Int) (fo : Bool) (va : Tx) (w : World) : Calls Try.prog 106 #[.agg #[.int .i64 s, .int .i64 er, .bool fo, .string va]] w fun e w' => e = .returned (.bool (oddR ⟨s, ⟨er, fo, va⟩⟩)) ∧ Below w.heap.size w w' := by
  have hbx : Below w.heap.size w (w.alloc (Obj.cells #[.int .i64 s, .int .i64 er, .bool fo, .string va] 45)) := (Below.refl _ _).alloc (Nat.le_refl _) _
  by_cases h0 : s = 0
  · subst h0
    have hz : oddR ⟨0, ⟨er, fo, va⟩⟩ = !(er == 0 && fo == false && va.toList == []) := rfl
    rw [hz]
    clear hz
    cases h1 : (er == 0) <;> cases fo <;> cases h2 : (va.toList == [])
    all_goals
      go_enter Try.func106, Try.ntmps106
      go_wp2
      go_ret
      exact ⟨rfl, hbx⟩
  · have hz : oddR ⟨s, ⟨er, fo, va⟩⟩ = (decide (s < 0) || decide (big40 < s) || badR ⟨er, fo, va⟩) := by unfold oddR; rw [if_neg h0]
    rw [hz]
    have h0b : (s == 0) = false := beq_eq_false_iff_ne.2 h0
    clear hz h0
    unfold big40
    by_cases h1 : s < 0
    · rw [decide_eq_true h1]
      go_enter Try.func106, Try.ntmps106
      go_wp2
      go_ret
      exact ⟨rfl, hbx⟩
    · rw [decide_eq_false h1]
      by_cases h2 : 1099511627776 < s
      · rw [decide_eq_true h2]
        go_enter Try.func106, Try.ntmps106
        go_wp2
        go_ret
        exact ⟨rfl, hbx⟩
      · rw [decide_eq_false h2]
        go_enter Try.func106, Try.ntmps106
        go_wp2_with (go_at_call 104; refine (bad_any _ _ _ _).mono ?_; rintro e w1 ⟨rfl, hb1⟩)
        go_ret
        exact ⟨rfl, hbx.trans (hb1.mono hbx.size)⟩
end Go.Proofs.Ytmnjmjbmnhppfaa

namespace Go.Proofs.Ytmnjmjbmnhppfaa
open Go.RowKit

theorem flat_len {α : Type} {f : α → List Value} {n : Nat} (hf : ∀ x, (f x).length = n) : ∀ (l : List α), (l.flatMap f).length = n * l.length
  | [] => by simp
  | x :: l => by
    have := flat_len hf l
    rw [List.flatMap_cons, List.length_append, this, hf, List.length_cons, Nat.mul_succ]
    omega
theorem flat_at {α : Type} {f : α → List Value} {n : Nat} (hf : ∀ x, (f x).length = n) : ∀ {l : List α} {i : Nat} {c : α}, l[i]? = some c → ∀ j u, (f c)[j]? = some u → (l.flatMap f)[i * n + j]? = some u
  | [], i, c, h => by simp at h
  | q :: l, 0, c, h => by
    simp at h
    subst h
    intro j u hj
    have hlt := (List.getElem?_eq_some_iff.1 hj).1
    simp only [List.flatMap_cons, Nat.zero_mul, Nat.zero_add]
    rw [List.getElem?_append_left hlt]
    exact hj
  | q :: l, i + 1, c, h => by
    simp only [List.getElem?_cons_succ] at h
    intro j u hj
    have := flat_at hf h j u hj
    simp only [List.flatMap_cons]
    rw [List.getElem?_append_right (by rw [hf, Nat.succ_mul]; omega), hf]
    rw [show (i + 1) * n + j - n = i * n + j by rw [Nat.succ_mul]; omega]
    exact this
theorem Row.flat {α : Type} {f : α → List Value} {n : Nat} (hf : ∀ x, (f x).length = n) (hn : 0 < n) {w : World} {a : Option Addr} {l : List α} (h : Row w a (l.flatMap f)) {i : Nat} {c : α} (hp : l[i]? = some c) :
    ∃ b off, a = some ⟨b, off, none⟩ ∧ b < w.heap.size ∧ ∀ j u, (f c)[j]? = some u → w.cell? ⟨b, off + i * n + j, none⟩ = some u := by
  have hi := (List.getElem?_eq_some_iff.1 hp).1
  have hpos : 0 < (l.flatMap f).length := by rw [flat_len hf]; exact Nat.mul_pos hn (by omega)
  obtain ⟨b, off, ha, hc⟩ := h.at hpos
  have hat := flat_at hf hp
  have H : ∀ j u, (f c)[j]? = some u → w.cell? ⟨b, off + i * n + j, none⟩ = some u := fun j u hj => by
    rw [Nat.add_assoc]
    exact hc _ _ (hat j u hj)
  refine ⟨b, off, ha, ?_, H⟩
  have h0 : (f c)[0]? = some ((f c)[0]'(by rw [hf]; exact hn)) := List.getElem?_eq_getElem _
  exact World.block_lt_of_cell? _ _ (H 0 _ h0)
/-- The same with the first cell's address bare. -/
theorem Row.flat0 {α : Type} {f : α → List Value} {n : Nat} (hf : ∀ x, (f x).length = n) (hn : 0 < n) {w : World} {a : Option Addr} {l : List α} (h : Row w a (l.flatMap f)) {i : Nat} {c : α} (hp : l[i]? = some c) :
    ∃ b off, a = some ⟨b, off, none⟩ ∧ b < w.heap.size ∧ (∀ u, (f c)[0]? = some u → w.cell? ⟨b, off + i * n, none⟩ = some u) ∧ ∀ j u, (f c)[j]? = some u → w.cell? ⟨b, off + i * n + j, none⟩ = some u := by
  obtain ⟨b, off, ha, hb, hc⟩ := h.flat hf hn hp
  exact ⟨b, off, ha, hb, fun u hu => hc 0 u hu, hc⟩
/-- A block's cells as a row. -/
theorem Row.of_block {w : World} {g : Nat} {cs : List Value} {T : TypeId} {xs : List Value} (h : w.heap[g]? = some (.cells cs.toArray T (0, 0))) (off : Nat) (hx : ∀ i u, xs[i]? = some u → cs[off + i]? = some u) : Row w (some ⟨g, off, none⟩) xs := by
  refine .inr ⟨g, off, rfl, fun i u hu => ?_⟩
  simp only [World.cell?, h]
  simpa using hx i u hu
theorem blk_cell {w : World} {g : Nat} {cs : Array Value} {T : TypeId} (h : w.heap[g]? = some (.cells cs T (0, 0))) (j : Nat) (v : Value) (hj : cs[j]? = some v) : w.cell? ⟨g, j, none⟩ = some v := by
  simp only [World.cell?, h]
  simpa using hj
theorem blk_frozen {w : World} {g : Nat} {cs : Array Value} {T : TypeId} (h : w.heap[g]? = some (.cells cs T (0, 0))) (j : Nat) : w.frozen? ⟨g, j, none⟩ = false := by
  simp [World.frozen?, h]
theorem blw (w : World) (o : Obj) : Below w.heap.size w (w.alloc o) := (Below.refl _ _).alloc (Nat.le_refl _) o
end Go.Proofs.Ytmnjmjbmnhppfaa

