/- Texts that the claim leans on, part 1: Kit, K0, K6, K7, H0, L1, Mem, Own. -/
import Derived.WalkKit
import Derived.WalkSpells
import Derived.WalkLawsBesides
import Derived.Handy
import Derived.Lib.Hide
import Derived.ProofKit
import Derived.Deep.QuietTactic
import Derived.OpenShut
import Derived.Laws.Strings
import Derived.Laws.CopyOwn
import Derived.Laws.CopyRow
import Derived.Laws.NewBlocks
import Derived.Deep.RegionLaw
import Derived.Test.YtaojblejnpemkaaDoorRows
import Derived.BigQuiet
import Derived.Deep.DeepCutAuto
import Derived.RegionTactic
import Derived.ChangeAlike
namespace Go.Proofs.YtaojblejnpemkaaDoor
open Go.ChangeShapes Go.WideShapes Go.ChangeAt Go.RowKit
theorem ret_int {k : IntKind} {a b : Int} (h : a = b) : Ending.returned (.int k a) = .returned (.int k b) := by rw [h]
theorem bool_eq {a b : Bool} (h : a = b) : Value.bool a = .bool b := by rw [h]
theorem int_eq {k : IntKind} {a b : Int} (h : a = b) : Value.int k a = .int k b := by rw [h]
theorem ret_bool {a b : Bool} (h : a = b) : Ending.returned (.bool a) = .returned (.bool b) := by rw [h]
theorem quiet_same {P : Program} {f : FuncId} {args : Array Value} {w : World} {n : Nat} {v : Value}
    (h : Calls P f args (w.drewN n) fun e w' => e = .returned v ∧ w.drewN n = w') : Calls P f args (w.drewN n) fun e w'' => e = .returned v ∧ ∃ m, w'' = w.drewN m :=
  h.mono fun _ _ ⟨he, hm⟩ => ⟨he, n, hm.symm⟩
section
variable {H : Type} {enc : TypeId × Value → H} {P : Program}
theorem trodAll_below (hl : laidOutB P = true) {W W' : World} (hb : Below W.heap.size W W') {sp : Nat → Bool} :
    ∀ (ts : List TypeId) (vs : List Value) (ds : List (DataW H)) (ps : List MemPlace),
      (ts.all fun t => P.readableRec t && decide (t < P.types.size)) = true →
      DataW.TrodAll enc P W 0 (fun _ => true) true ts vs ds ps → (∀ x ∈ ps, x.block < W.heap.size) → (∀ x ∈ ps, sp x.block = true) → DataW.TrodAll enc P W' 0 sp true ts vs ds ps
  | [], vs, ds, ps, _, h, _, _ => by
    cases vs <;> cases ds <;> simp [DataW.TrodAll] at h ⊢
    exact h
  | t :: ts, vs, ds, ps, hr, h, hlt, hs => by
    obtain ⟨v, vs', d, ds', p, q, rfl, rfl, rfl, h1, h2⟩ := trodAll_cons h
    simp only [List.all_cons, Bool.and_eq_true, decide_eq_true_eq] at hr
    refine trodAll_cons_mk ?_ (trodAll_below hl hb ts vs' ds' q hr.2 h2 (fun x hx => hlt x (by simp [hx])) (fun x hx => hs x (by simp [hx])))
    exact WideElems.Trod_stays hl hr.1.1 hr.1.2 h1 (fun x hx => hb.same (hlt x (by simp [hx]))) (fun x hx => hs x (by simp [hx]))
theorem law_post {f : Func} {s : ChangeSpec} {W W' : World} {args : Array Value} {tb : TypeId} {ds gs : List (DataW H)} {before : List MemPlace}
    (hl : laidOutB P = true) (hp : (f.params.toList.all fun t => P.readableRec t && decide (t < P.types.size)) = true)
    (hr : f.resultTypes = #[tb]) (hub : P.underlying tb = some .bool) (hvars : s.vars = [])
    (hspec : (s.fn H (ds ++ [])).results = [.lit (.bool true)] ∧ (s.fn H (ds ++ [])).args = ds ∧ (s.fn H (ds ++ [])).vars = [])
    (hW : DataW.Whole enc P f.params.toList s.vars false W args.toList ds gs before) (hb : Below W.heap.size W W') :
    s.post enc P f false true false false W args (.bool true) W' := by
  have hW0 := hW
  have hlt := hW.lt
  obtain ⟨p, q, hA, hV, rfl, hfz, hnd⟩ := hW
  rw [hvars] at hV
  obtain ⟨rfl, rfl⟩ := trodVars_none hV
  obtain ⟨e1, e2, e3⟩ := hspec
  have hold : ∀ x ∈ p ++ [], (fun b => decide (b < W.heap.size)) x.block = true := fun x hx => by simpa using hlt x hx
  refine ⟨ds, [], p ++ [], [], p, [], hW0, ?_, ?_, ?_, hb.frame _, fun h => by cases h⟩
  · rw [e1, hr]
    exact trodAll_mk1 (shut_bool hub _)
  · rw [e2]
    exact trodAll_below hl hb _ _ _ _ hp hA (fun x hx => hlt x (by simp [hx])) (fun x hx => hold x (by simp [hx]))
  · rw [e3, hvars]
    rfl
end
/-! ### Rows of cells that are read -/
def Row (w : World) (a : Option Addr) (xs : List Value) : Prop :=
  xs = [] ∨ ∃ b off, a = some ⟨b, off, none⟩ ∧ ∀ i u, xs[i]? = some u → w.cell? ⟨b, off + i, none⟩ = some u
theorem Row.below {w w' : World} {a : Option Addr} {xs : List Value} (h : Row w a xs) {B : Nat} (hB : w.heap.size ≤ B) (hb : Below B w w') : Row w' a xs := by
  rcases h with h | ⟨b, off, ha, h⟩
  · exact .inl h
  · refine .inr ⟨b, off, ha, fun i u hu => ?_⟩
    have h1 := h i u hu
    have h2 := World.block_lt_of_cell? _ _ h1
    rw [hb.cell (p := ⟨b, off + i, none⟩) (by simp only at h2 ⊢; omega)]
    exact h1
theorem Row.below0 {w w' : World} {a : Option Addr} {xs : List Value} (h : Row w a xs) (hb : Below w.heap.size w w') : Row w' a xs := h.below (Nat.le_refl _) hb
theorem Row.at {w : World} {a : Option Addr} {xs : List Value} (h : Row w a xs) {k : Nat} (hk : k < xs.length) : ∃ b off, a = some ⟨b, off, none⟩ ∧ ∀ i u, xs[i]? = some u → w.cell? ⟨b, off + i, none⟩ = some u := by
  rcases h with h | h
  · subst h; simp at hk
  · exact h
theorem Row.int {w : World} {a : Option Addr} {k : IntKind} {l : List Int} (h : Row w a (l.map (Value.int k))) {i : Nat} (hi : i < l.length) :
    ∃ b off x, a = some ⟨b, off, none⟩ ∧ l[i]? = some x ∧ w.cell? ⟨b, off + i, none⟩ = some (.int k x) := by
  obtain ⟨b, off, ha, hc⟩ := h.at (k := i) (by simpa using hi)
  exact ⟨b, off, l[i], ha, by simp [hi], hc i _ (by simp [hi])⟩
theorem Row.intAt {w : World} {b off : Nat} {k : IntKind} {l : List Int} {i : Nat} {x : Int} (h : Row w (some ⟨b, off, none⟩) (l.map (Value.int k))) (hx : l[i]? = some x) : w.cell? ⟨b, off + i, none⟩ = some (.int k x) := by
  rcases h with h | ⟨b', off', e, h⟩
  · simp at h; subst h; simp at hx
  · cases e
    exact h i _ (by simp [hx])
theorem addr_add (b o j : Nat) : (⟨b, o, none⟩ : Addr).add j = ⟨b, o + j, none⟩ := by
  unfold Addr.add
  by_cases h : j = 0 <;> simp [h]
theorem cell_new (w : World) (cs : Array Value) (e : TypeId) (j : Nat) : (w.alloc (.cells cs e)).cell? ⟨w.heap.size, j, none⟩ = cs[j]? := by simp [go_sem]
theorem Row.of_owns {w : World} {base n size : Nat} {e : TypeId} {v : Value} {xs : List Value} (h : w.ownsRow base e size v n xs) : ∃ a cap, v = .slice a n cap ∧ Row w a xs ∧ n ≤ cap ∧ cap ≤ maxLen := by
  have h0 := h
  obtain ⟨hl, ⟨rfl, rfl⟩ | ⟨g, cap, cur, rfl, hg, hc, hn, hm, hs, ht⟩⟩ := h
  · refine ⟨none, 0, rfl, .inl ?_, Nat.le_refl _, by simp⟩
    simpa using hl
  · refine ⟨some ⟨g, 0, none⟩, cap, rfl, .inr ⟨g, 0, rfl, fun i u hu => ?_⟩, hn, hm⟩
    have := h0.cells (g := g) rfl i u hu
    rw [addr_add] at this
    exact this
theorem owns_mono {w : World} {base base' n size : Nat} {e : TypeId} {v : Value} {xs : List Value} (h : w.ownsRow base e size v n xs) (hb : base' ≤ base) : w.ownsRow base' e size v n xs := by
  obtain ⟨hl, h | ⟨g, cap, cur, hv, hg, r⟩⟩ := h
  · exact ⟨hl, .inl h⟩
  · exact ⟨hl, .inr ⟨g, cap, cur, hv, Nat.le_trans hb hg, r⟩⟩
structure ElemT (P : Program) (t e : TypeId) (size bytes : Nat) : Prop where
  ex : ∃ i z, P.underlying t = some (.slice e) ∧ P.info? e = some i ∧ i.zero = some z ∧ i.size = size ∧ i.bytes = bytes ∧ z.cells.size = size ∧ 0 < size
theorem ElemT.of {P : Program} {t e : TypeId} {size bytes : Nat} (z : Value) (ht : P.underlying t = some (.slice e)) (hi : (P.info? e).map (fun i => (i.zero, i.size, i.bytes)) = some (some z, size, bytes)) (hz : z.cells.size = size) (hp : 0 < size) : ElemT P t e size bytes := by
  obtain ⟨i, h1, h2, h3, h4⟩ := info_parts hi
  exact ⟨⟨i, z, ht, h1, h2, h3, h4, hz, hp⟩⟩
theorem wpList_append1 {P : Program} {w : World} {ops : Array Oper} {rest : List Oper} {o : Oper} {a : Act} {Q : Exit → Act → World → Prop} (hgd : o.guard = none) (s x : Operand) (t e : TypeId) {size bytes : Nat} (hT : ElemT P t e size bytes)
    (ho : o.op = .call { callee := .builtin .append, args := #[s, x], argTypes := #[t, t] })
    (base : Nat) (v : Value) (n : Nat) (xs : List Value) (hs : a.eval s = v) (hown : w.ownsRow base e size v n xs)
    (cs : Array Value) (hcs : cs.size = size) (h1 : ∀ u ∈ cs.toList, u.oneCell' = true) (e' : TypeId) (hx : a.eval x = .slice (some ⟨w.heap.size, 0, none⟩) 1 1)
    (hn : n < 4294967296) (hby : bytes ≤ 4096) (hbase : base ≤ w.heap.size)
    (h : ∀ v' w', w'.ownsRow base e size v' (n + 1) (xs ++ cs.toList) → Below base w w' → (v' = .slice none 0 0 → False) → wpList P ops Q rest (a.put o.dst v') w') :
    wpList P ops Q (o :: rest) a (w.alloc (.cells cs e')) := by
  obtain ⟨i, z, ht, hi, hz, hsize, hbytes, hzs, hsz⟩ := hT.ex
  refine wpList_append_own _ hgd s x t ho base e i z size bytes ht hi hz hsize hbytes hzs hsz v n xs hs (hown.alloc _) ⟨w.heap.size, 0, none⟩ 1 1 cs.toList hx (by simp [hcs]) ?_ h1 (by unfold maxLen; omega) ?_ ?_ ?_
  · intro j u hj
    rw [addr_add, Nat.zero_add, cell_new]
    simpa using hj
  · have : (n + 1) * bytes ≤ 4294967296 * 4096 := Nat.mul_le_mul (by omega) hby
    omega
  · have : (w.alloc (.cells cs e')).heap.size = w.heap.size + 1 := by simp
    omega
  · intro v' w' h2 h3 h4
    refine h v' w' h2 ?_ (fun hv => ?_)
    · have hb : Below base w (w.alloc (.cells cs e')) := (Below.refl _ _).alloc hbase _
      refine hb.grown h3 (by simp; omega) (fun k hk => ?_)
      exact (hown.lt k hk).1
    · have := (h4.1 hv).2
      omega
def isums (l : List Int) : List Value := l.map (Value.int .i64)
end Go.Proofs.YtaojblejnpemkaaDoor
namespace Go.Proofs.YtaojblejnpemkaaDoor
abbrev Tx := ByteArray
abbrev Pr := Tx × Tx
def kl (a b : Tx) : Bool := Op.bytesLess a.toList b.toList
theorem bless_lex : ∀ (x y : List UInt8), Op.bytesLess x y = decide (x < y)
  | [], [] => by simp [Op.bytesLess]
  | _ :: _, [] => by simp [Op.bytesLess]
  | [], _ :: _ => by simp [Op.bytesLess]
  | a :: x, b :: y => by
    rw [Op.bytesLess, bless_lex x y]
    simp only [List.cons_lt_cons_iff]
    by_cases h1 : a < b <;> by_cases h2 : a = b <;> by_cases h3 : x < y <;> simp [h1, h2, h3]
theorem kl_lt (a b : Tx) : kl a b = decide (a.toList < b.toList) := bless_lex _ _
theorem tx_ext {a b : Tx} (h : a.toList = b.toList) : a = b := by
  rw [ByteArray.toList_eq, ByteArray.toList_eq] at h
  exact ByteArray.ext (Array.toList_inj.mp h)
theorem tx_eq (a b : Tx) : (a.toList == b.toList) = decide (a = b) := by
  by_cases h : a = b
  · subst h; simp
  · rw [decide_eq_false h, beq_eq_false_iff_ne]
    exact fun e => h (tx_ext e)
theorem kl_irrefl (a : Tx) : kl a a = false := by
  rw [kl_lt, decide_eq_false_iff_not]
  exact List.lt_irrefl _
theorem kl_trans {a b c : Tx} (h1 : kl a b = true) (h2 : kl b c = true) : kl a c = true := by
  rw [kl_lt, decide_eq_true_eq] at *
  exact List.lt_trans h1 h2
theorem kl_tri {a b : Tx} (h1 : kl a b = false) (h2 : kl b a = false) : a = b := by
  rw [kl_lt, decide_eq_false_iff_not] at *
  exact tx_ext (List.le_antisymm (List.not_lt.1 h2) (List.not_lt.1 h1))
theorem kl_asymm {a b : Tx} (h : kl a b = true) : kl b a = false := by
  cases h2 : kl b a with
  | false => rfl
  | true => exact absurd (kl_trans h h2) (by rw [kl_irrefl]; simp)
theorem kl_ne {a b : Tx} (h : kl a b = true) : a ≠ b := by
  rintro rfl
  rw [kl_irrefl] at h
  cases h
def keyOk (k : Tx) : Bool := decide (1 ≤ k.size) && decide (k.size ≤ 8)
def valOk (v : Tx) : Bool := decide (v.size ≤ 16)
def goodAt (l : List Pr) (i : Nat) : Bool :=
  match l[i]? with
  | none => true
  | some p => keyOk p.1 && valOk p.2 && (decide (i = 0) || match l[i - 1]? with | none => true | some q => kl q.1 p.1)
def goods (l : List Pr) (k : Nat) : Bool := (List.range k).all (goodAt l)
def mayS (l : List Pr) : Bool := decide (l.length ≤ 8) && goods l l.length
theorem goods_zero (l : List Pr) : goods l 0 = true := by simp [goods]
theorem goods_succ (l : List Pr) (k : Nat) : goods l (k + 1) = (goods l k && goodAt l k) := by simp [goods, List.range_succ]
theorem goods_false {l : List Pr} {k : Nat} (hk : k < l.length) (h : goodAt l k = false) : goods l l.length = false := by
  unfold goods
  rw [List.all_eq_false]
  exact ⟨k, by simpa using hk, by simp [h]⟩
def Rises (l : List Pr) : Prop := l.Pairwise (fun p q => kl p.1 q.1 = true)
theorem goodAt_adj {l : List Pr} {i : Nat} {p q : Pr} (hg : goodAt l (i + 1) = true) (hp : l[i]? = some p) (hq : l[i + 1]? = some q) : kl p.1 q.1 = true := by
  unfold goodAt at hg
  rw [hq] at hg
  simp only [Nat.add_sub_cancel, hp, Nat.add_one_ne_zero, decide_false, Bool.false_or, Bool.and_eq_true] at hg
  exact hg.2
theorem may_spec {l : List Pr} (h : mayS l = true) : l.length ≤ 8 ∧ Rises l ∧ ∀ p ∈ l, keyOk p.1 = true ∧ valOk p.2 = true := by
  unfold mayS goods at h
  simp only [Bool.and_eq_true, decide_eq_true_eq, List.all_eq_true, List.mem_range] at h
  obtain ⟨h8, hg⟩ := h
  refine ⟨h8, ?_, ?_⟩
  · unfold Rises
    rw [List.pairwise_iff_getElem]
    intro i j hi hj hij
    induction j with
    | zero => omega
    | succ j ih =>
      have hadj := goodAt_adj (hg (j + 1) hj) (List.getElem?_eq_getElem (show j < l.length by omega)) (List.getElem?_eq_getElem hj)
      by_cases he : i = j
      · subst he; exact hadj
      · exact kl_trans (ih (by omega) (by omega)) hadj
  · intro p hp
    obtain ⟨i, hi, rfl⟩ := List.getElem_of_mem hp
    have := hg i hi
    unfold goodAt at this
    rw [List.getElem?_eq_getElem hi] at this
    simp only [Bool.and_eq_true] at this
    exact this.1
theorem may_mk {l : List Pr} (h8 : l.length ≤ 8) (hr : Rises l) (ha : ∀ p ∈ l, keyOk p.1 = true ∧ valOk p.2 = true) : mayS l = true := by
  unfold mayS goods
  simp only [Bool.and_eq_true, decide_eq_true_eq, List.all_eq_true, List.mem_range]
  refine ⟨h8, fun i hi => ?_⟩
  unfold goodAt
  rw [List.getElem?_eq_getElem hi]
  have h1 := ha l[i] (List.getElem_mem hi)
  simp only [h1.1, h1.2, Bool.true_and, Bool.or_eq_true, decide_eq_true_eq]
  by_cases h0 : i = 0
  · exact .inl h0
  · right
    rw [List.getElem?_eq_getElem (show i - 1 < l.length by omega)]
    exact (List.pairwise_iff_getElem.1 hr) (i - 1) i (by omega) hi (by omega)
/-! ### Ahead of a key, at it, behind it -/
def lo (l : List Pr) (k : Tx) : List Pr := l.filter (fun p => kl p.1 k)
def mid (l : List Pr) (k : Tx) : List Pr := l.filter (fun p => decide (p.1 = k))
def hi (l : List Pr) (k : Tx) : List Pr := l.filter (fun p => kl k p.1)
theorem filter_none {α : Type} {l : List α} {p : α → Bool} (h : ∀ y ∈ l, p y = false) : l.filter p = [] := by
  rw [List.filter_eq_nil_iff]
  intro y hy
  simp [h y hy]
theorem split3 (k : Tx) : ∀ {l : List Pr}, Rises l → l = lo l k ++ mid l k ++ hi l k
  | [], _ => rfl
  | p :: l, h => by
    have h2 := List.pairwise_cons.1 h
    have ih := split3 k h2.2
    cases h1 : kl p.1 k with
    | true =>
      have e1 : decide (p.1 = k) = false := decide_eq_false (kl_ne h1)
      have e2 : kl k p.1 = false := kl_asymm h1
      simp only [lo, mid, hi, List.filter_cons, h1, e1, e2, if_true, List.cons_append] at ih ⊢
      simp only [Bool.false_eq_true, if_false]
      rw [← ih]
    | false =>
      have hb : ∀ q ∈ l, kl k q.1 = true := fun q hq => by
        have h3 := h2.1 q hq
        cases h4 : kl k p.1 with
        | true => exact kl_trans h4 h3
        | false => rw [← kl_tri h1 h4]; exact h3
      have e1 : l.filter (fun p => kl p.1 k) = [] := filter_none fun q hq => kl_asymm (hb q hq)
      have e2 : l.filter (fun p => decide (p.1 = k)) = [] := filter_none fun q hq => decide_eq_false (fun e => kl_ne (hb q hq) e.symm)
      have e3 : l.filter (fun p => kl k p.1) = l := List.filter_eq_self.2 hb
      simp only [lo, mid, hi, List.filter_cons, h1, e1, e2, e3, Bool.false_eq_true, if_false, List.nil_append]
      cases h4 : kl k p.1 with
      | true =>
        rw [decide_eq_false (fun e => kl_ne h4 e.symm)]
        simp
      | false =>
        rw [decide_eq_true (kl_tri h1 h4)]
        simp
theorem mid_spec (k : Tx) : ∀ {l : List Pr}, Rises l → mid l k = [] ∨ ∃ v, mid l k = [(k, v)]
  | [], _ => .inl rfl
  | p :: l, h => by
    have h2 := List.pairwise_cons.1 h
    by_cases e : p.1 = k
    · have : mid l k = [] := filter_none fun q hq => decide_eq_false (fun e2 => kl_ne (h2.1 q hq) (e.trans e2.symm))
      right
      refine ⟨p.2, ?_⟩
      simp only [mid, List.filter_cons, decide_eq_true e, if_true] at this ⊢
      rw [this, ← e]
    · have := mid_spec k h2.2
      simpa [mid, List.filter_cons, e] using this
def look (l : List Pr) (k : Tx) : Option Tx := (mid l k).head?.map (·.2)
def putL (l : List Pr) (k v : Tx) : List Pr := lo l k ++ (k, v) :: hi l k
def delL (l : List Pr) (k : Tx) : List Pr := lo l k ++ hi l k
def Pos (l : List Pr) (k : Tx) (i : Nat) : Prop :=
  i ≤ l.length ∧ (∀ j q, l[j]? = some q → j < i → kl q.1 k = true) ∧ (∀ j q, l[j]? = some q → i ≤ j → kl q.1 k = false)
theorem pos_lo {l : List Pr} {k : Tx} {i : Nat} (h : Pos l k i) : i = (lo l k).length := by
  obtain ⟨hl, h1, h2⟩ := h
  have e : l = l.take i ++ l.drop i := by simp
  have e2 : (lo l k) = l.take i := by
    unfold lo
    rw [e, List.filter_append]
    have f1 : (l.take i).filter (fun p => kl p.1 k) = l.take i := List.filter_eq_self.2 fun q hq => by
      obtain ⟨j, hj, rfl⟩ := List.getElem_of_mem hq
      rw [List.length_take] at hj
      rw [List.getElem_take]
      exact h1 j _ (List.getElem?_eq_getElem (by omega)) (by omega)
    have f2 : (l.drop i).filter (fun p => kl p.1 k) = [] := filter_none fun q hq => by
      obtain ⟨j, hj, rfl⟩ := List.getElem_of_mem hq
      rw [List.length_drop] at hj
      rw [List.getElem_drop]
      exact h2 (i + j) _ (List.getElem?_eq_getElem (by omega)) (by omega)
    rw [f1, f2]
    simp
  rw [e2, List.length_take]
  omega
theorem at_lo {l : List Pr} (hr : Rises l) (k : Tx) : l[(lo l k).length]? = (mid l k ++ hi l k).head? := by
  have e := split3 k hr
  have : l[(lo l k).length]? = (lo l k ++ (mid l k ++ hi l k))[(lo l k).length]? := by rw [← List.append_assoc, ← e]
  rw [this, List.getElem?_append_right (Nat.le_refl _), Nat.sub_self, List.head?_eq_getElem?]
theorem at_yes {l : List Pr} (hr : Rises l) {k v : Tx} (h : look l k = some v) : l[(lo l k).length]? = some (k, v) := by
  rw [at_lo hr]
  rcases mid_spec k hr with h1 | ⟨u, h1⟩
  · simp [look, h1] at h
  · simp [look, h1] at h
    subst h
    simp [h1]
theorem at_no {l : List Pr} (hr : Rises l) {k : Tx} (h : look l k = none) {q : Pr} (hq : l[(lo l k).length]? = some q) : q.1 ≠ k := by
  rw [at_lo hr] at hq
  rcases mid_spec k hr with h1 | ⟨u, h1⟩
  · rw [h1, List.nil_append] at hq
    have hm := List.mem_of_mem_head? hq
    unfold hi at hm
    rw [List.mem_filter] at hm
    exact fun e => kl_ne hm.2 e.symm
  · simp [look, h1] at h
theorem put_there {l : List Pr} (hr : Rises l) {k v w : Tx} (h : look l k = some v) : l.set (lo l k).length (k, w) = putL l k w := by
  rcases mid_spec k hr with h1 | ⟨u, h1⟩
  · simp [look, h1] at h
  · have e := split3 k hr
    rw [h1] at e
    have : l.set (lo l k).length (k, w) = (lo l k ++ [(k, u)] ++ hi l k).set (lo l k).length (k, w) := by rw [← e]
    rw [this]
    simp [putL]
theorem put_new {l : List Pr} (hr : Rises l) {k w : Tx} (h : look l k = none) : l.take (lo l k).length ++ (k, w) :: l.drop (lo l k).length = putL l k w := by
  rcases mid_spec k hr with h1 | ⟨u, h1⟩
  · have e := split3 k hr
    rw [h1, List.append_nil] at e
    have e1 : l.take (lo l k).length = lo l k := by
      have : l.take (lo l k).length = (lo l k ++ hi l k).take (lo l k).length := by rw [← e]
      rw [this]; simp
    have e2 : l.drop (lo l k).length = hi l k := by
      have : l.drop (lo l k).length = (lo l k ++ hi l k).drop (lo l k).length := by rw [← e]
      rw [this]; simp
    rw [e1, e2]
    rfl
  · simp [look, h1] at h
theorem del_there {l : List Pr} (hr : Rises l) {k v : Tx} (h : look l k = some v) : l.take (lo l k).length ++ l.drop ((lo l k).length + 1) = delL l k := by
  rcases mid_spec k hr with h1 | ⟨u, h1⟩
  · simp [look, h1] at h
  · have e := split3 k hr
    rw [h1] at e
    have e1 : l.take (lo l k).length = lo l k := by
      have : l.take (lo l k).length = (lo l k ++ [(k, u)] ++ hi l k).take (lo l k).length := by rw [← e]
      rw [this]; simp
    have e2 : l.drop ((lo l k).length + 1) = hi l k := by
      have : l.drop ((lo l k).length + 1) = (lo l k ++ [(k, u)] ++ hi l k).drop ((lo l k).length + 1) := by rw [← e]
      rw [this, List.drop_append]
      simp
    rw [e1, e2]
    rfl
theorem del_none {l : List Pr} (hr : Rises l) {k : Tx} (h : look l k = none) : delL l k = l := by
  rcases mid_spec k hr with h1 | ⟨u, h1⟩
  · have e := split3 k hr
    rw [h1, List.append_nil] at e
    exact e.symm
  · simp [look, h1] at h
/-! ### Operations -/
structure Opn where
  kind : Int
  key : Tx
  old : Tx
  val : Tx
structure Rp where
  err : Int
  found : Bool
  val : Tx
def mayO (o : Opn) : Bool :=
  keyOk o.key && valOk o.old && valOk o.val &&
    (if o.kind = 1 ∨ o.kind = 3 then decide (o.old.size = 0) && decide (o.val.size = 0) else if o.kind = 2 then decide (o.old.size = 0) else decide (o.kind = 4))
def wasR (l : List Pr) (k : Tx) : Rp := match look l k with | none => ⟨0, false, ⟨#[]⟩⟩ | some v => ⟨0, true, v⟩
def doP (l : List Pr) (o : Opn) : List Pr × Rp :=
  if mayS l = false then ([], ⟨2, false, ⟨#[]⟩⟩)
  else if mayO o = false then (l, ⟨210, false, ⟨#[]⟩⟩)
  else if o.kind = 1 then (l, wasR l o.key)
  else if o.kind = 2 then (if look l o.key = none ∧ l.length = 8 then (l, ⟨211, false, ⟨#[]⟩⟩) else (putL l o.key o.val, wasR l o.key))
  else if o.kind = 3 then (delL l o.key, wasR l o.key)
  else if look l o.key = some o.old then (putL l o.key o.val, wasR l o.key) else (l, { wasR l o.key with found := false })
end Go.Proofs.YtaojblejnpemkaaDoor
namespace Go.Proofs.YtaojblejnpemkaaDoor
theorem rises_lo {l : List Pr} (h : Rises l) (k : Tx) : Rises (lo l k) := List.Pairwise.filter _ h
theorem rises_hi {l : List Pr} (h : Rises l) (k : Tx) : Rises (hi l k) := List.Pairwise.filter _ h
theorem mem_lo {l : List Pr} {k : Tx} {p : Pr} (h : p ∈ lo l k) : p ∈ l ∧ kl p.1 k = true := by
  unfold lo at h; rw [List.mem_filter] at h; exact h
theorem mem_hi {l : List Pr} {k : Tx} {p : Pr} (h : p ∈ hi l k) : p ∈ l ∧ kl k p.1 = true := by
  unfold hi at h; rw [List.mem_filter] at h; exact h
theorem rises_put {l : List Pr} (h : Rises l) (k v : Tx) : Rises (putL l k v) := by
  unfold putL Rises
  rw [List.pairwise_append, List.pairwise_cons]
  refine ⟨rises_lo h k, ⟨fun q hq => (mem_hi hq).2, rises_hi h k⟩, fun p hp q hq => ?_⟩
  rw [List.mem_cons] at hq
  rcases hq with rfl | hq
  · exact (mem_lo hp).2
  · exact kl_trans (mem_lo hp).2 (mem_hi hq).2
theorem rises_del {l : List Pr} (h : Rises l) (k : Tx) : Rises (delL l k) := by
  unfold delL Rises
  rw [List.pairwise_append]
  exact ⟨rises_lo h k, rises_hi h k, fun p hp q hq => kl_trans (mem_lo hp).2 (mem_hi hq).2⟩
theorem mid_app (l m : List Pr) (k : Tx) : mid (l ++ m) k = mid l k ++ mid m k := by simp [mid]
theorem mid_lo (l : List Pr) (k : Tx) : mid (lo l k) k = [] := filter_none fun _ hq => decide_eq_false (kl_ne (mem_lo hq).2)
theorem mid_hi (l : List Pr) (k : Tx) : mid (hi l k) k = [] := filter_none fun _ hq => decide_eq_false (fun e => kl_ne (mem_hi hq).2 e.symm)
theorem mid_mid {l : List Pr} {k k' : Tx} (h : k' ≠ k) : mid (mid l k) k' = [] := filter_none fun q hq => by
  unfold mid at hq
  rw [List.mem_filter, decide_eq_true_eq] at hq
  exact decide_eq_false fun e => h (e.symm.trans hq.2)
theorem look_put (l : List Pr) (k v : Tx) : look (putL l k v) k = some v := by
  have : mid (putL l k v) k = [(k, v)] := by
    unfold putL
    rw [mid_app, mid_lo, List.nil_append]
    have e : mid ((k, v) :: hi l k) k = (k, v) :: mid (hi l k) k := by simp [mid]
    rw [e, mid_hi]
  simp [look, this]
theorem look_put_ne {l : List Pr} (hr : Rises l) {k k' : Tx} (h : k' ≠ k) (v : Tx) : look (putL l k v) k' = look l k' := by
  have h1 : mid (putL l k v) k' = mid l k' := by
    conv => rhs; rw [split3 k hr, mid_app, mid_app, mid_mid h, List.append_nil]
    unfold putL
    rw [mid_app]
    have e : mid ((k, v) :: hi l k) k' = mid (hi l k) k' := by simp [mid, Ne.symm h]
    rw [e]
  unfold look
  rw [h1]
theorem look_del (l : List Pr) (k : Tx) : look (delL l k) k = none := by
  have : mid (delL l k) k = [] := by
    unfold delL
    rw [mid_app, mid_lo, mid_hi]
    rfl
  simp [look, this]
theorem look_del_ne {l : List Pr} (hr : Rises l) {k k' : Tx} (h : k' ≠ k) : look (delL l k) k' = look l k' := by
  have h1 : mid (delL l k) k' = mid l k' := by
    conv => rhs; rw [split3 k hr, mid_app, mid_app, mid_mid h, List.append_nil]
    unfold delL
    rw [mid_app]
  unfold look
  rw [h1]
theorem look_mem {l : List Pr} (hr : Rises l) {p : Pr} (h : p ∈ l) : look l p.1 = some p.2 := by
  have hm : p ∈ mid l p.1 := by
    unfold mid
    rw [List.mem_filter]
    exact ⟨h, by simp⟩
  rcases mid_spec p.1 hr with h1 | ⟨v, h1⟩
  · rw [h1] at hm
    cases hm
  · rw [h1, List.mem_singleton] at hm
    have : v = p.2 := by rw [hm]
    simp [look, h1, this]
theorem mem_look {l : List Pr} {k v : Tx} (h : look l k = some v) : (k, v) ∈ l := by
  unfold look at h
  cases hm : mid l k with
  | nil => rw [hm] at h; cases h
  | cons p m =>
    rw [hm] at h
    have hp : p ∈ mid l k := by rw [hm]; simp
    unfold mid at hp
    rw [List.mem_filter, decide_eq_true_eq] at hp
    simp at h
    have : p = (k, v) := by rw [← hp.2, ← h]
    rw [← this]
    exact hp.1
theorem rises_ext : ∀ {l m : List Pr}, Rises l → Rises m → (∀ p, p ∈ l ↔ p ∈ m) → l = m
  | [], [], _, _, _ => rfl
  | [], q :: m, _, _, h => by have := (h q).2 (by simp); cases this
  | p :: l, [], _, _, h => by have := (h p).1 (by simp); cases this
  | p :: l, q :: m, hl, hm, h => by
    have h1 := List.pairwise_cons.1 hl
    have h2 := List.pairwise_cons.1 hm
    have hpq : p = q := by
      have a1 := (h p).1 (by simp)
      have a2 := (h q).2 (by simp)
      rw [List.mem_cons] at a1 a2
      rcases a1 with a1 | a1
      · exact a1
      · rcases a2 with a2 | a2
        · exact a2.symm
        · have b1 := h2.1 p a1
          have b2 := h1.1 q a2
          rw [kl_asymm b1] at b2
          cases b2
    subst hpq
    congr 1
    refine rises_ext h1.2 h2.2 fun r => ⟨fun hr => ?_, fun hr => ?_⟩
    · have := (h r).1 (by simp [hr])
      rw [List.mem_cons] at this
      rcases this with rfl | this
      · have := h1.1 r hr
        rw [kl_irrefl] at this
        cases this
      · exact this
    · have := (h r).2 (by simp [hr])
      rw [List.mem_cons] at this
      rcases this with rfl | this
      · have := h2.1 r hr
        rw [kl_irrefl] at this
        cases this
      · exact this
theorem look_ext {l m : List Pr} (hl : Rises l) (hm : Rises m) (h : ∀ k, look l k = look m k) : l = m :=
  rises_ext hl hm fun p => ⟨fun hp => by
    have := look_mem hl hp
    rw [h] at this
    exact mem_look this, fun hp => by
    have := look_mem hm hp
    rw [← h] at this
    exact mem_look this⟩
theorem len_put {l : List Pr} (hr : Rises l) (k v : Tx) : (putL l k v).length = (if look l k = none then l.length + 1 else l.length) := by
  have e := congrArg List.length (split3 k hr)
  simp only [List.length_append] at e
  unfold putL
  rw [List.length_append, List.length_cons]
  rcases mid_spec k hr with h1 | ⟨u, h1⟩
  · have : look l k = none := by simp [look, h1]
    rw [if_pos this]
    rw [h1] at e
    simp at e
    omega
  · have : look l k ≠ none := by simp [look, h1]
    rw [if_neg this]
    rw [h1] at e
    simp at e
    omega
theorem len_del (l : List Pr) (hr : Rises l) (k : Tx) : (delL l k).length ≤ l.length := by
  have e := congrArg List.length (split3 k hr)
  simp only [List.length_append] at e
  unfold delL
  rw [List.length_append]
  omega
theorem ok_put {l : List Pr} (h : ∀ p ∈ l, keyOk p.1 = true ∧ valOk p.2 = true) {k v : Tx} (hk : keyOk k = true) (hv : valOk v = true) : ∀ p ∈ putL l k v, keyOk p.1 = true ∧ valOk p.2 = true := by
  intro p hp
  unfold putL at hp
  rw [List.mem_append, List.mem_cons] at hp
  rcases hp with hp | rfl | hp
  · exact h p (mem_lo hp).1
  · exact ⟨hk, hv⟩
  · exact h p (mem_hi hp).1
theorem ok_del {l : List Pr} (h : ∀ p ∈ l, keyOk p.1 = true ∧ valOk p.2 = true) (k : Tx) : ∀ p ∈ delL l k, keyOk p.1 = true ∧ valOk p.2 = true := by
  intro p hp
  unfold delL at hp
  rw [List.mem_append] at hp
  rcases hp with hp | hp
  · exact h p (mem_lo hp).1
  · exact h p (mem_hi hp).1
theorem may_put {l : List Pr} (h : mayS l = true) {k v : Tx} (hk : keyOk k = true) (hv : valOk v = true) (hn : ¬(look l k = none ∧ l.length = 8)) : mayS (putL l k v) = true := by
  obtain ⟨h8, hr, ho⟩ := may_spec h
  refine may_mk ?_ (rises_put hr k v) (ok_put ho hk hv)
  rw [len_put hr]
  split
  · rename_i h1
    have : l.length ≠ 8 := fun e => hn ⟨h1, e⟩
    omega
  · exact h8
theorem may_del {l : List Pr} (h : mayS l = true) (k : Tx) : mayS (delL l k) = true := by
  obtain ⟨h8, hr, ho⟩ := may_spec h
  exact may_mk (Nat.le_trans (len_del l hr k) h8) (rises_del hr k) (ok_del ho k)
theorem mayO_spec {o : Opn} (h : mayO o = true) : keyOk o.key = true ∧ valOk o.old = true ∧ valOk o.val = true ∧ (o.kind = 1 ∨ o.kind = 2 ∨ o.kind = 3 ∨ o.kind = 4) := by
  unfold mayO at h
  simp only [Bool.and_eq_true] at h
  obtain ⟨⟨⟨h1, h2⟩, h3⟩, h4⟩ := h
  refine ⟨h1, h2, h3, ?_⟩
  split at h4
  · rename_i h5; rcases h5 with h5 | h5 <;> simp [h5]
  · split at h4
    · rename_i h5; simp [h5]
    · simp at h4; simp [h4]
theorem doP_ok {l : List Pr} {o : Opn} (h : mayS l = true) (ho : mayO o = true) :
    doP l o = if o.kind = 1 then (l, wasR l o.key)
      else if o.kind = 2 then (if look l o.key = none ∧ l.length = 8 then (l, ⟨211, false, ⟨#[]⟩⟩) else (putL l o.key o.val, wasR l o.key))
      else if o.kind = 3 then (delL l o.key, wasR l o.key)
      else if look l o.key = some o.old then (putL l o.key o.val, wasR l o.key) else (l, { wasR l o.key with found := false }) := by
  unfold doP
  rw [if_neg (by simp [h]), if_neg (by simp [ho])]
theorem doP_bad {l : List Pr} {o : Opn} (h : mayS l = true) (ho : mayO o = false) : doP l o = (l, ⟨210, false, ⟨#[]⟩⟩) := by
  unfold doP
  rw [if_neg (by simp [h]), if_pos ho]
theorem doP_may {l : List Pr} (o : Opn) (h : mayS l = true) : mayS (doP l o).1 = true := by
  cases ho : mayO o with
  | false => rw [doP_bad h ho]; exact h
  | true =>
    obtain ⟨h1, h2, h3, h4⟩ := mayO_spec ho
    rw [doP_ok h ho]
    split
    · exact h
    · split
      · split
        · exact h
        · rename_i hn; exact may_put h h1 h3 hn
      · split
        · exact may_del h _
        · split
          · rename_i hl; exact may_put h h1 h3 (by rw [hl]; simp)
          · exact h
end Go.Proofs.YtaojblejnpemkaaDoor
namespace Go.Proofs.YtaojblejnpemkaaDoor
def rpOf (x : Option Tx) : Rp := match x with | none => ⟨0, false, ⟨#[]⟩⟩ | some v => ⟨0, true, v⟩
theorem wasR_eq (l : List Pr) (k : Tx) : wasR l k = rpOf (look l k) := rfl
theorem rpOf_err (x : Option Tx) : (rpOf x).err = 0 := by cases x <;> rfl
def stepK (o : Opn) (x : Option Tx) : Option Tx × Rp :=
  if o.kind = 1 then (x, rpOf x)
  else if o.kind = 2 then (some o.val, rpOf x)
  else if o.kind = 3 then (none, rpOf x)
  else if x = some o.old then (some o.val, rpOf x) else (x, { rpOf x with found := false })
theorem doP_err {l : List Pr} {o : Opn} (h : mayS l = true) : (doP l o).2.err = 0 ∨ (doP l o).2.err = 210 ∨ (doP l o).2.err = 211 := by
  cases ho : mayO o with
  | false => rw [doP_bad h ho]; exact .inr (.inl rfl)
  | true =>
    rw [doP_ok h ho]
    split
    · exact .inl (rpOf_err _)
    · split
      · split
        · exact .inr (.inr rfl)
        · exact .inl (rpOf_err _)
      · split
        · exact .inl (rpOf_err _)
        · split
          · exact .inl (rpOf_err _)
          · exact .inl (rpOf_err _)
theorem doP_same {l : List Pr} {o : Opn} (h : mayS l = true) (he : (doP l o).2.err ≠ 0) : (doP l o).1 = l := by
  cases ho : mayO o with
  | false => rw [doP_bad h ho]
  | true =>
    rw [doP_ok h ho] at he ⊢
    split
    · rfl
    · rename_i h1
      rw [if_neg h1] at he
      split
      · rename_i h2
        rw [if_pos h2] at he
        split
        · rfl
        · rename_i h3
          rw [if_neg h3] at he
          exact absurd (rpOf_err _) he
      · rename_i h2
        rw [if_neg h2] at he
        split
        · rename_i h3
          rw [if_pos h3] at he
          exact absurd (rpOf_err _) he
        · rename_i h3
          rw [if_neg h3] at he
          split
          · rename_i h4
            rw [if_pos h4] at he
            exact absurd (rpOf_err _) he
          · rfl
theorem doP_210 {l : List Pr} {o : Opn} (h : mayS l = true) : decide ((doP l o).2.err = 210) = !mayO o := by
  cases ho : mayO o with
  | false => rw [doP_bad h ho]; rfl
  | true =>
    have : (doP l o).2.err ≠ 210 := by
      rw [doP_ok h ho]
      split
      · show (rpOf _).err ≠ 210; rw [rpOf_err]; decide
      · split
        · split
          · show (211 : Int) ≠ 210; decide
          · show (rpOf _).err ≠ 210; rw [rpOf_err]; decide
        · split
          · show (rpOf _).err ≠ 210; rw [rpOf_err]; decide
          · split
            · show (rpOf _).err ≠ 210; rw [rpOf_err]; decide
            · show (rpOf _).err ≠ 210; rw [rpOf_err]; decide
    simp [this]
theorem doP_reads {l : List Pr} {o : Opn} (h : mayS l = true) (hk : o.kind = 1) : (doP l o).1 = l := by
  cases ho : mayO o with
  | false => rw [doP_bad h ho]
  | true => rw [doP_ok h ho, if_pos hk]
theorem doP_mayO {l : List Pr} {o : Opn} (h : mayS l = true) (he : (doP l o).2.err = 0) : mayO o = true := by
  cases ho : mayO o with
  | true => rfl
  | false => rw [doP_bad h ho] at he; cases he
theorem doP_step {l : List Pr} {o : Opn} (h : mayS l = true) (he : (doP l o).2.err = 0) :
    (doP l o).2 = (stepK o (look l o.key)).2 ∧ look (doP l o).1 o.key = (stepK o (look l o.key)).1 := by
  have ho := doP_mayO h he
  rw [doP_ok h ho] at he ⊢
  unfold stepK
  split
  · exact ⟨rfl, rfl⟩
  · rename_i h1
    rw [if_neg h1] at he
    split
    · rename_i h2
      rw [if_pos h2] at he
      split
      · rename_i h3
        rw [if_pos h3] at he
        cases he
      · exact ⟨rfl, look_put _ _ _⟩
    · split
      · exact ⟨rfl, look_del _ _⟩
      · split
        · exact ⟨rfl, look_put _ _ _⟩
        · exact ⟨rfl, rfl⟩
theorem doP_other {l : List Pr} {o : Opn} (h : mayS l = true) {k : Tx} (hk : k ≠ o.key) : look (doP l o).1 k = look l k := by
  obtain ⟨_, hr, _⟩ := may_spec h
  cases ho : mayO o with
  | false => rw [doP_bad h ho]
  | true =>
    rw [doP_ok h ho]
    split
    · rfl
    · split
      · split
        · rfl
        · exact look_put_ne hr hk _
      · split
        · exact look_del_ne hr hk
        · split
          · exact look_put_ne hr hk _
          · rfl
theorem may_rises {l : List Pr} (h : mayS l = true) : Rises l := (may_spec h).2.1
theorem apart_same {l : List Pr} {a b : Opn} (h : mayS l = true) (hk : a.key ≠ b.key) (e1 : (doP l a).2.err = 0) (e2 : (doP (doP l a).1 b).2.err = 0) (e3 : (doP l b).2.err = 0) (e4 : (doP (doP l b).1 a).2.err = 0) :
    (doP (doP l a).1 b).1 = (doP (doP l b).1 a).1 ∧ (doP l a).2 = (doP (doP l b).1 a).2 ∧ (doP (doP l a).1 b).2 = (doP l b).2 := by
  have ha := doP_may a h
  have hb := doP_may b h
  obtain ⟨f1, g1⟩ := doP_step h e1
  obtain ⟨f2, g2⟩ := doP_step ha e2
  obtain ⟨f3, g3⟩ := doP_step h e3
  obtain ⟨f4, g4⟩ := doP_step hb e4
  rw [doP_other h hk.symm] at f2 g2
  rw [doP_other h hk] at f4 g4
  refine ⟨look_ext (may_rises (doP_may b ha)) (may_rises (doP_may a hb)) fun k => ?_, f1.trans f4.symm, f2.trans f3.symm⟩
  by_cases ka : k = a.key
  · subst ka
    rw [doP_other ha hk, g1, g4]
  · by_cases kb : k = b.key
    · subst kb
      rw [g2, doP_other hb ka, g3]
    · rw [doP_other ha kb, doP_other h ka, doP_other hb ka, doP_other h kb]
theorem over_same {l : List Pr} {a b : Opn} (h : mayS l = true) (hk : a.key = b.key) (hb : b.kind = 2 ∨ b.kind = 3) (_ : (doP l a).2.err = 0) (e2 : (doP (doP l a).1 b).2.err = 0) (e3 : (doP l b).2.err = 0) :
    (doP (doP l a).1 b).1 = (doP l b).1 := by
  have ha := doP_may a h
  obtain ⟨_, g2⟩ := doP_step ha e2
  obtain ⟨_, g3⟩ := doP_step h e3
  refine look_ext (may_rises (doP_may b ha)) (may_rises (doP_may b h)) fun k => ?_
  by_cases kb : k = b.key
  · subst kb
    rw [g2, g3]
    unfold stepK
    rcases hb with hb | hb <;> simp [hb]
  · rw [doP_other ha kb, doP_other h (by rw [hk]; exact kb), doP_other h kb]
def getO (k : Tx) : Opn := ⟨1, k, ⟨#[]⟩, ⟨#[]⟩⟩
def valueP (l : List Pr) (k : Tx) : Tx × Bool := let r := (doP l (getO k)).2; (r.val, r.found && decide (r.err = 0))
theorem mayO_get (k : Tx) : mayO (getO k) = keyOk k := by
  have h1 : valOk ⟨#[]⟩ = true := by decide
  have h2 : (⟨#[]⟩ : Tx).size = 0 := rfl
  unfold mayO getO
  simp only [h1, h2]
  simp
theorem value_ok {l : List Pr} {k : Tx} (h : mayS l = true) (hk : keyOk k = true) : valueP l k = ((rpOf (look l k)).val, (look l k).isSome) := by
  have ho : mayO (getO k) = true := by rw [mayO_get]; exact hk
  unfold valueP
  rw [doP_ok h ho]
  simp only [getO, if_true, wasR_eq]
  cases look l k <;> rfl
end Go.Proofs.YtaojblejnpemkaaDoor
namespace Go.Proofs.YtaojblejnpemkaaDoor
structure Cl where
  cli : Int
  op : Opn
  rep : Rp
  st : Int
  en : Int
def nilR (r : Rp) : Bool := r.err == 0 && r.found == false && r.val.toList == []
def mayC (c : Cl) : Bool := decide (0 ≤ c.cli) && decide (c.cli < 4) && mayO c.op && decide (1 ≤ c.st) && ((c.en == 0 && nilR c.rep) || decide (c.st < c.en))
def onB (t : Int) (c : Cl) : Bool := decide (c.st ≤ t) && (c.en == 0 || decide (t ≤ c.en))
def wideP (l : List Cl) (t : Int) : Nat := l.countP (onB t)
def pendP (l : List Cl) : Nat := l.countP (fun c => c.en == 0)
def mostP (l m : List Cl) : Nat := (m.map fun c => wideP l c.st).foldl max 0
def chk (l : List Cl) : Int := if 40 < l.length ∨ 8 < pendP l ∨ 12 < mostP l l then 4 else if l.all mayC then 0 else 2
theorem foldl_max_snoc (xs : List Nat) (x a : Nat) : (xs ++ [x]).foldl max a = max (xs.foldl max a) x := by simp
theorem mostP_snoc (l m : List Cl) (c : Cl) : mostP l (m ++ [c]) = max (mostP l m) (wideP l c.st) := by
  unfold mostP
  rw [List.map_append, List.map_singleton, foldl_max_snoc]
theorem pendP_snoc (m : List Cl) (c : Cl) : pendP (m ++ [c]) = pendP m + if c.en == 0 then 1 else 0 := by
  unfold pendP
  rw [List.countP_append, List.countP_singleton]
theorem all_snoc (m : List Cl) (c : Cl) : (m ++ [c]).all mayC = (m.all mayC && mayC c) := by simp
theorem wideP_le (l : List Cl) (t : Int) : wideP l t ≤ l.length := List.countP_le_length
theorem pendP_le (l : List Cl) : pendP l ≤ l.length := List.countP_le_length
theorem mostP_le (l : List Cl) : ∀ (m : List Cl), mostP l m ≤ l.length := by
  intro m
  unfold mostP
  have : ∀ (xs : List Cl) (a : Nat), a ≤ l.length → (xs.map fun c => wideP l c.st).foldl max a ≤ l.length := by
    intro xs
    induction xs with
    | nil => intro a ha; simpa using ha
    | cons x xs ih =>
      intro a ha
      simp only [List.map_cons, List.foldl_cons]
      exact ih _ (by have := wideP_le l x.st; omega)
  exact this m 0 (by omega)
theorem take_snoc' {α : Type} {l : List α} {k : Nat} {x : α} (h : l[k]? = some x) : l.take (k + 1) = l.take k ++ [x] := by
  rw [List.take_add_one, h]
  rfl
theorem most_iff (l : List Cl) (n : Nat) : ∀ (m : List Cl) (a : Nat), n < (m.map fun c => wideP l c.st).foldl max a ↔ (n < a ∨ ∃ c ∈ m, n < wideP l c.st)
  | [], a => by simp
  | x :: q, a => by
    rw [List.map_cons, List.foldl_cons, most_iff l n q]
    constructor
    · rintro (h | ⟨j, hj, h⟩)
      · by_cases h1 : n < a
        · exact .inl h1
        · exact .inr ⟨x, by simp, by omega⟩
      · exact .inr ⟨j, by simp [hj], h⟩
    · rintro (h | ⟨j, hj, h⟩)
      · exact .inl (by omega)
      · rw [List.mem_cons] at hj
        rcases hj with rfl | hj
        · exact .inl (by omega)
        · exact .inr ⟨j, hj, h⟩
theorem mostP_gt (l : List Cl) (n : Nat) (m : List Cl) : decide (n < mostP l m) = m.any (fun c => decide (n < wideP l c.st)) := by
  rw [Bool.eq_iff_iff, decide_eq_true_eq, List.any_eq_true]
  unfold mostP
  rw [most_iff]
  constructor
  · rintro (h | ⟨j, hj, h⟩)
    · omega
    · exact ⟨j, hj, decide_eq_true h⟩
  · rintro ⟨j, hj, h⟩
    exact .inr ⟨j, hj, of_decide_eq_true h⟩
instance : Inhabited Cl := ⟨⟨0, ⟨0, ⟨#[]⟩, ⟨#[]⟩, ⟨#[]⟩⟩, ⟨0, false, ⟨#[]⟩⟩, 0, 0⟩⟩
def clA (l : List Cl) (i : Int) : Cl := l.getD i.toNat default
def rpEq (a b : Rp) : Bool := a.err == b.err && a.found == b.found && a.val.toList == b.val.toList
def stA (l : List Cl) (q : List Int) : List Pr := q.foldl (fun s i => (doP s (clA l i).op).1) []
theorem stA_snoc (l : List Cl) (q : List Int) (i : Int) : stA l (q ++ [i]) = (doP (stA l q) (clA l i).op).1 := by simp [stA]
theorem may_nil : mayS [] = true := by decide
theorem stA_may (l : List Cl) (q : List Int) : mayS (stA l q) = true := by
  unfold stA
  have : ∀ (q : List Int) (s : List Pr), mayS s = true → mayS (q.foldl (fun s i => (doP s (clA l i).op).1) s) = true := by
    intro q
    induction q with
    | nil => intro s h; simpa using h
    | cons i q ih => intro s h; rw [List.foldl_cons]; exact ih _ (doP_may _ h)
  exact this q [] may_nil
def latA (l : List Cl) (q : List Int) : Int := q.foldl (fun a i => max a (clA l i).st) 0
theorem latA_snoc (l : List Cl) (q : List Int) (i : Int) : latA l (q ++ [i]) = max (latA l q) (clA l i).st := by simp [latA]
def inR (l : List Cl) (i : Int) : Bool := decide (0 ≤ i) && decide (i < l.length)
def okP (l : List Cl) (q : List Int) (i : Int) : Bool :=
  inR l i && !q.contains i && !(decide (0 < (clA l i).en) && decide ((clA l i).en < latA l q)) && !(decide (0 < (clA l i).en) && !rpEq (doP (stA l q) (clA l i).op).2 (clA l i).rep)
def goesP (l : List Cl) : List Int → List Int → Bool
  | _, [] => true
  | q, i :: r => okP l q i && goesP l (q ++ [i]) r
def fullP (l : List Cl) (q : List Int) : Bool := (List.range l.length).all fun i => !(decide (0 < (clA l i).en) && !q.contains (i : Int))
def holdsP (l : List Cl) (q : List Int) : Bool := chk l == 0 && (goesP l [] q && fullP l q)
theorem goesP_take (l : List Cl) (q : List Int) {k : Nat} {i : Int} (h : q[k]? = some i) : goesP l (q.take k) (q.drop k) = (okP l (q.take k) i && goesP l (q.take (k + 1)) (q.drop (k + 1))) := by
  rw [take_snoc' h]
  have : q.drop k = i :: q.drop (k + 1) := by
    rw [← List.getElem_cons_drop (h := (List.getElem?_eq_some_iff.1 h).1), (List.getElem?_eq_some_iff.1 h).2]
  rw [this]
  rfl
/-! The reference's road. -/
def ok1 (l : List Cl) (q : List Int) (i : Int) : Bool := inR l i && !q.contains i
def goes1 (l : List Cl) : List Int → List Int → Bool
  | _, [] => true
  | q, i :: r => ok1 l q i && goes1 l (q ++ [i]) r
theorem goes1_take (l : List Cl) (q : List Int) {k : Nat} {i : Int} (h : q[k]? = some i) : goes1 l (q.take k) (q.drop k) = (ok1 l (q.take k) i && goes1 l (q.take (k + 1)) (q.drop (k + 1))) := by
  rw [take_snoc' h]
  have : q.drop k = i :: q.drop (k + 1) := by
    rw [← List.getElem_cons_drop (h := (List.getElem?_eq_some_iff.1 h).1), (List.getElem?_eq_some_iff.1 h).2]
  rw [this]
  rfl
def lateB (l : List Cl) (c : Cl) (j : Int) : Bool := (clA l j).en != 0 && decide ((clA l j).en < c.st)
def ok3 (l : List Cl) (q : List Int) (i : Int) (r : List Int) : Bool :=
  !r.any (lateB l (clA l i)) && !((clA l i).en != 0 && !rpEq (doP (stA l q) (clA l i).op).2 (clA l i).rep)
def goes3 (l : List Cl) : List Int → List Int → Bool
  | _, [] => true
  | q, i :: r => ok3 l q i r && goes3 l (q ++ [i]) r
theorem goes3_take (l : List Cl) (q : List Int) {k : Nat} {i : Int} (h : q[k]? = some i) : goes3 l (q.take k) (q.drop k) = (ok3 l (q.take k) i (q.drop (k + 1)) && goes3 l (q.take (k + 1)) (q.drop (k + 1))) := by
  rw [take_snoc' h]
  have : q.drop k = i :: q.drop (k + 1) := by
    rw [← List.getElem_cons_drop (h := (List.getElem?_eq_some_iff.1 h).1), (List.getElem?_eq_some_iff.1 h).2]
  rw [this]
  rfl
def full1 (l : List Cl) (q : List Int) : Bool := (List.range l.length).all fun i => !((clA l i).en != 0 && !q.contains (i : Int))
def holdsR (l : List Cl) (q : List Int) : Bool := chk l == 0 && (goes1 l [] q && (full1 l q && goes3 l [] q))
theorem chk_may {l : List Cl} (h : chk l = 0) : ∀ c ∈ l, mayC c = true := by
  unfold chk at h
  split at h
  · cases h
  · split at h
    · rename_i h2; exact List.all_eq_true.1 h2
    · cases h
theorem mayC_en {c : Cl} (h : mayC c = true) : c.en = 0 ∨ 0 < c.en := by
  unfold mayC at h
  simp only [Bool.and_eq_true, Bool.or_eq_true, decide_eq_true_eq, beq_iff_eq] at h
  obtain ⟨⟨_, h1⟩, h2 | h2⟩ := h
  · exact .inl h2.1
  · right; omega
theorem clA_mem {l : List Cl} {i : Int} (h : inR l i = true) : clA l i ∈ l := by
  unfold inR at h
  simp only [Bool.and_eq_true, decide_eq_true_eq] at h
  unfold clA
  rw [List.getD_eq_getElem?_getD, List.getElem?_eq_getElem (by omega)]
  exact List.getElem_mem _
theorem en_ne {l : List Cl} (h : chk l = 0) {i : Int} (hi : inR l i = true) : ((clA l i).en != 0) = decide (0 < (clA l i).en) := by
  rcases mayC_en (chk_may h _ (clA_mem hi)) with e | e
  · rw [e]; rfl
  · rw [decide_eq_true e, bne_iff_ne]; omega
theorem lat_iff (l : List Cl) (e : Int) : ∀ (q : List Int) (a : Int), e < q.foldl (fun a i => max a (clA l i).st) a ↔ (e < a ∨ ∃ j ∈ q, e < (clA l j).st)
  | [], a => by simp
  | x :: q, a => by
    rw [List.foldl_cons, lat_iff l e q]
    constructor
    · rintro (h | ⟨j, hj, h⟩)
      · by_cases h1 : e < a
        · exact .inl h1
        · exact .inr ⟨x, by simp, by omega⟩
      · exact .inr ⟨j, by simp [hj], h⟩
    · rintro (h | ⟨j, hj, h⟩)
      · exact .inl (by omega)
      · rw [List.mem_cons] at hj
        rcases hj with rfl | hj
        · exact .inl (by omega)
        · exact .inr ⟨j, hj, h⟩
theorem lat_spec (l : List Cl) (q : List Int) (e : Int) (he : 0 < e) : decide (e < latA l q) = q.any (fun j => decide (e < (clA l j).st)) := by
  rw [Bool.eq_iff_iff, decide_eq_true_eq, List.any_eq_true]
  unfold latA
  rw [lat_iff]
  constructor
  · rintro (h | ⟨j, hj, h⟩)
    · omega
    · exact ⟨j, hj, decide_eq_true h⟩
  · rintro ⟨j, hj, h⟩
    exact .inr ⟨j, hj, of_decide_eq_true h⟩
def clear2 (l : List Cl) (q r : List Int) : Bool := !r.any fun j => q.any fun i => lateB l (clA l i) j
theorem goes_eq {l : List Cl} (hchk : chk l = 0) : ∀ (r q : List Int), goes1 l q r = true → clear2 l q r = true → goesP l q r = goes3 l q r := by
  intro r
  induction r with
  | nil => intro q _ _; rfl
  | cons i r ih =>
    intro q h1 h2
    simp only [goes1, Bool.and_eq_true] at h1
    obtain ⟨ho, h1⟩ := h1
    have hin : inR l i = true := by unfold ok1 at ho; simp only [Bool.and_eq_true] at ho; exact ho.1
    have hq : (!q.contains i) = true := by unfold ok1 at ho; simp only [Bool.and_eq_true] at ho; exact ho.2
    have hen := en_ne hchk hin
    simp only [clear2, List.any_cons, Bool.not_or, Bool.and_eq_true, Bool.not_eq_true'] at h2
    obtain ⟨h2a, h2b⟩ := h2
    have hlate : (decide (0 < (clA l i).en) && decide ((clA l i).en < latA l q)) = false := by
      by_cases he : 0 < (clA l i).en
      · rw [lat_spec l q _ he, decide_eq_true he, Bool.true_and]
        rw [← h2a]
        congr 1
        funext j
        unfold lateB
        rw [hen, decide_eq_true he, Bool.true_and]
      · rw [decide_eq_false he]; rfl
    have hok : okP l q i = !((clA l i).en != 0 && !rpEq (doP (stA l q) (clA l i).op).2 (clA l i).rep) := by
      unfold okP
      rw [hin, hq, hlate, hen]
      rfl
    simp only [goesP, goes3, ok3, hok]
    cases hc : r.any (lateB l (clA l i)) with
    | false =>
      rw [Bool.not_false, Bool.true_and]
      congr 1
      refine ih _ h1 ?_
      simp only [clear2, Bool.not_eq_true']
      rw [List.any_eq_false] at h2b hc ⊢
      intro j hj
      have a1 := h2b j hj
      have a2 := hc j hj
      rw [Bool.not_eq_true] at a1 a2 ⊢
      rw [List.any_append, a1, List.any_cons, a2]
      rfl
    | true =>
      rw [Bool.not_true, Bool.false_and, Bool.false_and]
      have : goesP l (q ++ [i]) r = false := by
        have key : ∀ (r q : List Int) (i : Int), i ∈ q → goes1 l q r = true → r.any (lateB l (clA l i)) = true → goesP l q r = false := by
          intro r
          induction r with
          | nil => intro q i _ _ h; simp at h
          | cons j r ih2 =>
            intro q i hi h1 h
            simp only [goes1, Bool.and_eq_true] at h1
            obtain ⟨ho, h1⟩ := h1
            have hin : inR l j = true := by unfold ok1 at ho; simp only [Bool.and_eq_true] at ho; exact ho.1
            rw [List.any_cons, Bool.or_eq_true] at h
            simp only [goesP]
            rcases h with h | h
            · have : okP l q j = false := by
                unfold lateB at h
                rw [en_ne hchk hin, Bool.and_eq_true, decide_eq_true_eq, decide_eq_true_eq] at h
                unfold okP
                have h3 : decide ((clA l j).en < latA l q) = true := by
                  rw [lat_spec l q _ h.1, List.any_eq_true]
                  exact ⟨i, hi, decide_eq_true h.2⟩
                rw [h3, decide_eq_true h.1]
                simp
              rw [this]
              rfl
            · rw [ih2 (q ++ [j]) i (List.mem_append_left _ hi) h1 h, Bool.and_false]
        exact key r (q ++ [i]) i (by simp) h1 hc
      rw [this, Bool.and_false]
theorem goesP_1 {l : List Cl} : ∀ (r q : List Int), goesP l q r = true → goes1 l q r = true := by
  intro r
  induction r with
  | nil => intro q _; rfl
  | cons i r ih =>
    intro q h
    simp only [goesP, goes1, Bool.and_eq_true] at h ⊢
    refine ⟨?_, ih _ h.2⟩
    have := h.1
    unfold okP at this
    unfold ok1
    simp only [Bool.and_eq_true] at this ⊢
    exact this.1.1
theorem holds_eq (l : List Cl) (q : List Int) : holdsP l q = holdsR l q := by
  unfold holdsP holdsR
  cases hc : chk l == 0 with
  | false => rfl
  | true =>
    have h : chk l = 0 := by simpa using hc
    rw [Bool.true_and, Bool.true_and]
    have hf : fullP l q = full1 l q := by
      unfold fullP full1
      rw [Bool.eq_iff_iff, List.all_eq_true, List.all_eq_true]
      constructor
      all_goals
        intro H i hi
        have := H i hi
        have hin : inR l (i : Int) = true := by
          rw [List.mem_range] at hi
          unfold inR
          simp only [Bool.and_eq_true, decide_eq_true_eq]
          omega
        rw [en_ne h hin] at *
        exact this
    cases h1 : goes1 l [] q with
    | false =>
      have : goesP l [] q = false := by
        cases h2 : goesP l [] q with
        | false => rfl
        | true => rw [goesP_1 q [] h2] at h1; cases h1
      rw [this, Bool.false_and, Bool.false_and]
    | true =>
      rw [goes_eq h q [] h1 (by simp [clear2]), hf, Bool.true_and, Bool.and_comm]
end Go.Proofs.YtaojblejnpemkaaDoor
namespace Go.Proofs.YtaojblejnpemkaaDoor
def clN (l : List Cl) (i : Nat) : Cl := l.getD i default
theorem clA_nat (l : List Cl) (i : Nat) : clA l (i : Int) = clN l i := by unfold clA clN; rw [Int.toNat_natCast]
def leftM (l : List Cl) (m : Nat) : Bool := (List.range l.length).any fun i => !m.testBit i && decide (0 < (clN l i).en)
def firstOk (l : List Cl) (m i : Nat) : Bool := (List.range l.length).all fun k => m.testBit k || (!decide (0 < (clN l k).en) || decide ((clN l i).st ≤ (clN l k).en))
def repOk (l : List Cl) (s : List Pr) (i : Nat) : Bool := !decide (0 < (clN l i).en) || rpEq (doP s (clN l i).op).2 (clN l i).rep
inductive OrdM (l : List Cl) : Nat → List Pr → List Int → Prop
  | nil {m : Nat} {s : List Pr} : leftM l m = false → OrdM l m s []
  | cons {m : Nat} {s : List Pr} {r : List Int} (i : Nat) : leftM l m = true → i < l.length → m.testBit i = false → firstOk l m i = true → repOk l s i = true → OrdM l (m ||| 2 ^ i) (doP s (clN l i).op).1 r → OrdM l m s ((i : Int) :: r)
def Dead (l : List Cl) (m : Nat) (s : List Pr) : Prop := ∀ r, ¬ OrdM l m s r
def undM (l : List Cl) (m : Nat) : Nat := (List.range l.length).countP fun i => !m.testBit i
def candM (l : List Cl) (m : Nat) : Nat := (List.range l.length).countP fun i => !m.testBit i && firstOk l m i
section
variable {l : List Cl} {m i j : Nat} {s : List Pr} {q r : List Int}
theorem mbit_or (m n j : Nat) : (m ||| 2 ^ n).testBit j = (m.testBit j || decide (n = j)) := by
  rw [Nat.testBit_or, Nat.testBit_two_pow]
theorem bit_zero (j : Nat) : (0 : Nat).testBit j = false := Nat.zero_testBit j
theorem left_iff : leftM l m = true ↔ ∃ i, i < l.length ∧ m.testBit i = false ∧ 0 < (clN l i).en := by
  unfold leftM
  rw [List.any_eq_true]
  constructor
  · rintro ⟨i, hi, h⟩
    rw [Bool.and_eq_true, Bool.not_eq_true', decide_eq_true_eq] at h
    exact ⟨i, List.mem_range.1 hi, h.1, h.2⟩
  · rintro ⟨i, hi, h1, h2⟩
    exact ⟨i, List.mem_range.2 hi, by rw [Bool.and_eq_true, Bool.not_eq_true', decide_eq_true_eq]; exact ⟨h1, h2⟩⟩
theorem left_no : leftM l m = false ↔ ∀ i, i < l.length → m.testBit i = false → ¬ 0 < (clN l i).en := by
  constructor
  · intro h i hi h1 h2
    have := left_iff.2 ⟨i, hi, h1, h2⟩
    rw [h] at this
    cases this
  · intro h
    cases hl : leftM l m
    · rfl
    · obtain ⟨i, hi, h1, h2⟩ := left_iff.1 hl
      exact absurd h2 (h i hi h1)
theorem first_iff : firstOk l m i = true ↔ ∀ k, k < l.length → m.testBit k = false → 0 < (clN l k).en → (clN l i).st ≤ (clN l k).en := by
  unfold firstOk
  rw [List.all_eq_true]
  constructor
  · intro h k hk h1 h2
    have := h k (List.mem_range.2 hk)
    rw [h1, decide_eq_true h2] at this
    simpa using this
  · intro h k hk
    cases h1 : m.testBit k
    · by_cases h2 : 0 < (clN l k).en
      · rw [decide_eq_true h2, decide_eq_true (h k (List.mem_range.1 hk) h1 h2)]; rfl
      · rw [decide_eq_false h2]; rfl
    · rfl
theorem dead_done (h : Dead l m s) : leftM l m = true := by
  cases hl : leftM l m
  · exact absurd (OrdM.nil hl) (h [])
  · rfl
theorem dead_step (hl : leftM l m = true) (h : ∀ i, i < l.length → m.testBit i = false → firstOk l m i = true → repOk l s i = true → Dead l (m ||| 2 ^ i) (doP s (clN l i).op).1) : Dead l m s := by
  intro r hr
  cases hr with
  | nil h2 => rw [hl] at h2; cases h2
  | cons i _ h1 h2 h3 h4 h5 => exact h i h1 h2 h3 h4 _ h5
/-! How many are not done. -/
theorem und_or (hi : i < l.length) (hb : m.testBit i = false) : undM l (m ||| 2 ^ i) + 1 = undM l m := by
  unfold undM
  have h1 : (List.range l.length).countP (fun k => !m.testBit k) = (List.range l.length).countP (fun k => !(m ||| 2 ^ i).testBit k) + (List.range l.length).countP (fun k => k == i) := by
    induction l.length with
    | zero => rfl
    | succ n ih =>
      rw [List.range_succ, List.countP_append, List.countP_append, List.countP_append, ih]
      simp only [List.countP_singleton]
      have e : (if (!m.testBit n) = true then 1 else 0) = (if (!(m ||| 2 ^ i).testBit n) = true then 1 else 0) + (if (n == i) = true then 1 else 0) := by
        rw [mbit_or]
        by_cases hn : n = i
        · subst hn
          rw [hb]
          simp
        · rw [decide_eq_false (fun e => hn e.symm), Bool.or_false, show (n == i) = false by rw [beq_eq_false_iff_ne]; exact hn]
          simp
      omega
  have h2 : ∀ n, (List.range n).countP (fun k => k == i) = if i < n then 1 else 0 := by
    intro n
    induction n with
    | zero => rfl
    | succ n ih =>
      rw [List.range_succ, List.countP_append, ih, List.countP_singleton]
      by_cases h : n = i
      · subst h
        rw [if_neg (by omega), if_pos (by simp), if_pos (by omega)]
      · rw [show (n == i) = false by rw [beq_eq_false_iff_ne]; exact h]
        by_cases h3 : i < n
        · rw [if_pos h3, if_pos (show i < n + 1 by omega)]; rfl
        · rw [if_neg h3, if_neg (show ¬ i < n + 1 by omega)]; rfl
  have h3 := h2 l.length
  rw [if_pos hi] at h3
  omega
theorem und_le : undM l m ≤ l.length := Nat.le_trans List.countP_le_length (by simp)
theorem und_zero : undM l 0 = l.length := by
  unfold undM
  rw [List.countP_eq_length.2]
  · simp
  · intro i _; rw [bit_zero]; rfl
theorem cand_le : candM l m ≤ undM l m := by
  unfold candM undM
  exact List.countP_mono_left fun i _ h => by
    rw [Bool.and_eq_true] at h
    exact h.1
/-! An order from the start, and what 'holds' is. -/
def MaskQ (m : Nat) (q : List Int) : Prop := ∀ j : Nat, m.testBit j = q.contains (j : Int)
theorem maskq_nil : MaskQ 0 [] := fun j => by rw [bit_zero]; rfl
theorem MaskQ.more (h : MaskQ m q) (i : Nat) : MaskQ (m ||| 2 ^ i) (q ++ [(i : Int)]) := fun j => by
  rw [mbit_or, h j, List.contains_append]
  congr 1
  simp only [List.contains_cons, List.contains_nil, Bool.or_false]
  rw [Bool.eq_iff_iff, decide_eq_true_eq, beq_iff_eq]
  omega
theorem en_pos (hc : chk l = 0) (hi : i < l.length) : ((clN l i).en != 0) = decide (0 < (clN l i).en) := by
  have := en_ne hc (i := (i : Int)) (by unfold inR; simp; omega)
  rwa [clA_nat] at this
theorem may_st (hc : chk l = 0) (hi : i < l.length) (h : 0 < (clN l i).en) : (clN l i).st ≤ (clN l i).en := by
  have hm := chk_may hc (clN l i) (by unfold clN; rw [List.getD_eq_getElem?_getD, List.getElem?_eq_getElem hi]; exact List.getElem_mem hi)
  unfold mayC at hm
  simp only [Bool.and_eq_true, Bool.or_eq_true, decide_eq_true_eq, beq_iff_eq] at hm
  omega
theorem OrdM.sound (hc : chk l = 0) (h : OrdM l m s r) : ∀ q, MaskQ m q → stA l q = s → goes1 l q r = true ∧ full1 l (q ++ r) = true ∧ goes3 l q r = true ∧ ∀ j ∈ r, ∃ k : Nat, j = k ∧ k < l.length ∧ m.testBit k = false := by
  induction h with
  | nil hl =>
    intro q hq _
    refine ⟨rfl, ?_, rfl, fun j hj => by cases hj⟩
    rw [List.append_nil]
    unfold full1
    rw [List.all_eq_true]
    intro k hk
    have hk := List.mem_range.1 hk
    rw [clA_nat, en_pos hc hk]
    cases hb : q.contains (k : Int)
    · rw [← hq k] at hb
      rw [decide_eq_false (left_no.1 hl k hk hb)]
      rfl
    · simp
  | @cons m s r i hl hi hb hf hr _ ih =>
    intro q hq hs
    obtain ⟨g1, g2, g3, g4⟩ := ih (q ++ [(i : Int)]) (hq.more i) (by rw [stA_snoc, clA_nat, hs])
    refine ⟨?_, ?_, ?_, ?_⟩
    · simp only [goes1, Bool.and_eq_true]
      refine ⟨?_, g1⟩
      unfold ok1 inR
      rw [← hq i, hb]
      simp
      omega
    · rw [List.append_cons]
      exact g2
    · simp only [goes3, Bool.and_eq_true]
      refine ⟨?_, g3⟩
      unfold ok3
      rw [Bool.and_eq_true]
      constructor
      · rw [Bool.not_eq_true', List.any_eq_false]
        intro j hj
        obtain ⟨k, rfl, hk, hkb⟩ := g4 j hj
        rw [mbit_or, Bool.or_eq_false_iff] at hkb
        unfold lateB
        rw [clA_nat, clA_nat, en_pos hc hk]
        by_cases h2 : 0 < (clN l k).en
        · have := first_iff.1 hf k hk hkb.1 h2
          rw [decide_eq_false (show ¬ (clN l k).en < (clN l i).st by omega)]
          simp
        · rw [decide_eq_false h2]; simp
      · rw [clA_nat, en_pos hc hi, hs]
        unfold repOk at hr
        by_cases h2 : 0 < (clN l i).en
        · rw [decide_eq_true h2] at hr ⊢
          simpa using hr
        · rw [decide_eq_false h2]; simp
    · intro j hj
      rcases List.mem_cons.1 hj with rfl | hj
      · exact ⟨i, rfl, hi, hb⟩
      · obtain ⟨k, h1, h2, h3⟩ := g4 j hj
        rw [mbit_or, Bool.or_eq_false_iff] at h3
        exact ⟨k, h1, h2, h3.1⟩
theorem OrdM.holds (hc : chk l = 0) (h : OrdM l 0 [] r) : holdsP l r = true := by
  obtain ⟨g1, g2, g3, _⟩ := h.sound hc [] maskq_nil rfl
  rw [holds_eq]
  unfold holdsR
  rw [hc, g1, g3, List.nil_append] at *
  rw [g2]
  rfl
theorem ord_of (hc : chk l = 0) : ∀ (r p : List Int) (m : Nat), MaskQ m p → goes1 l p r = true → full1 l (p ++ r) = true → goes3 l p r = true → ∃ r', OrdM l m (stA l p) r' := by
  intro r
  induction r with
  | nil =>
    intro p m hq _ h2 _
    refine ⟨[], .nil (left_no.2 fun k hk hb hp => ?_)⟩
    rw [List.append_nil] at h2
    unfold full1 at h2
    have := List.all_eq_true.1 h2 k (List.mem_range.2 hk)
    rw [clA_nat, en_pos hc hk, decide_eq_true hp, ← hq k, hb] at this
    cases this
  | cons i r ih =>
    intro p m hq h1 h2 h3
    cases hl : leftM l m
    · exact ⟨[], .nil hl⟩
    · simp only [goes1, goes3, Bool.and_eq_true] at h1 h3
      obtain ⟨a1, a2⟩ := h1
      obtain ⟨b1, b2⟩ := h3
      unfold ok1 inR at a1
      simp only [Bool.and_eq_true, decide_eq_true_eq, Bool.not_eq_true'] at a1
      obtain ⟨⟨c1, c2⟩, c3⟩ := a1
      obtain ⟨k, rfl⟩ : ∃ k : Nat, i = k := ⟨i.toNat, by omega⟩
      have hk : k < l.length := by omega
      rw [← hq k] at c3
      unfold ok3 at b1
      rw [Bool.and_eq_true, Bool.not_eq_true', List.any_eq_false] at b1
      obtain ⟨d1, d2⟩ := b1
      obtain ⟨r', hr'⟩ := ih (p ++ [(k : Int)]) (m ||| 2 ^ k) (hq.more k) a2 (by rw [← List.append_cons]; exact h2) b2
      rw [stA_snoc, clA_nat] at hr'
      refine ⟨_, .cons k hl hk c3 (first_iff.2 fun j hj hjb hjp => ?_) ?_ hr'⟩
      · unfold full1 at h2
        have h4 := List.all_eq_true.1 h2 j (List.mem_range.2 hj)
        rw [clA_nat, en_pos hc hj, decide_eq_true hjp, Bool.true_and, Bool.not_not, List.contains_append, ← hq j, hjb, Bool.false_or, List.contains_cons, Bool.or_eq_true, beq_iff_eq] at h4
        rcases h4 with h4 | h4
        · have : j = k := by omega
          subst this
          exact may_st hc hj hjp
        · have h5 := d1 _ (List.contains_iff_mem.1 h4)
          unfold lateB at h5
          rw [clA_nat, clA_nat, en_pos hc hj, decide_eq_true hjp, Bool.true_and] at h5
          simpa using h5
      · unfold repOk
        rw [clA_nat, en_pos hc hk] at d2
        by_cases hp : 0 < (clN l k).en
        · rw [decide_eq_true hp] at d2 ⊢
          simpa using d2
        · rw [decide_eq_false hp]; rfl
theorem ord_exists (hc : chk l = 0) (h : holdsP l q = true) : ∃ r, OrdM l 0 [] r := by
  rw [holds_eq] at h
  unfold holdsR at h
  simp only [Bool.and_eq_true] at h
  exact ord_of hc q [] 0 maskq_nil h.2.1 (by rw [List.nil_append]; exact h.2.2.1) h.2.2.2
end
end Go.Proofs.YtaojblejnpemkaaDoor
namespace Go.Proofs.YtaojblejnpemkaaDoor
open Go.RowKit
variable {P : Program}
theorem wpList_run {w w' : World} {v : Value} {ops : Array Oper} {rest : List Oper} {o : Oper} {a : Act} {Q : Exit → Act → World → Prop} (hgd : o.guard = none)
    (hr : (execOp a.eval o).run P w = .ok (.value v) w') (h : wpList P ops Q rest (a.put o.dst v) w') : wpList P ops Q (o :: rest) a w :=
  wpList_plain hgd fun K hK => by
    unfold Oper.wp
    rw [hr]
    exact hK _ _ h
theorem step_run {ops : Array Oper} {o : Oper} {a : Act} {w w' : World} {v : Value} {K : Act → World → Prop} {Q : Exit → Act → World → Prop} {E : Prop}
    (hg : o.guard = none) (hr : (execOp a.eval o).run P w = .ok (.value v) w') (hK : K (a.put o.dst v) w') :
    if Region.wanted o (yielded ops a.tmps) = true then Oper.wp P o a w K Q else E := by
  have hw : Region.wanted o (yielded ops a.tmps) = true := by simp [Region.wanted, hg]
  rw [if_pos hw]
  unfold Oper.wp
  rw [hr]
  exact hK
theorem exec_copy {w w' : World} {o : Oper} {a : Act} {v' : Value} (d s : Operand) (dT sT : TypeId) (ho : o.op = .call { callee := .builtin .copy, args := #[d, s], argTypes := #[dT, sT] })
    (vd vs : Value) (hd : a.eval d = vd) (hs : a.eval s = vs) (hr : (Builtin.copy_ #[dT, sT] o.type #[vd, vs]).run P w = .ok v' w') : (execOp a.eval o).run P w = .ok (.value v') w' := by
  simp [execOp, ho, resolve, invoke, builtin, hd, hs, hr, Result.andThen]
theorem exec_append {w w' : World} {o : Oper} {a : Act} {v' : Value} (d s : Operand) (dT sT : TypeId) (ho : o.op = .call { callee := .builtin .append, args := #[d, s], argTypes := #[dT, sT] })
    (vd vs : Value) (hd : a.eval d = vd) (hs : a.eval s = vs) (hr : (Builtin.append_ #[dT, sT] o.type #[vd, vs]).run P w = .ok v' w') : (execOp a.eval o).run P w = .ok (.value v') w' := by
  simp [execOp, ho, resolve, invoke, builtin, hd, hs, hr, Result.andThen]
theorem run_copyK (w : World) (dT sT ty elem : TypeId) (size : Nat) (hu : P.underlying dT = some (.slice elem)) (hsz : (P.info? elem).map (·.size) = some size)
    (g o dLen dCap : Nat) (a : Addr) (sLen sCap : Nat) (cur : List Value) (t : TypeId) (cs : List Value)
    (hg : w.heap[g]? = some (.cells cur.toArray t (0, 0))) (hn : cs.length = Nat.min sLen dLen * size)
    (hsrc : ∀ j v, cs[j]? = some v → w.cell? (a.add j) = some v) (hfit : o + cs.length ≤ cur.length) (h1 : ∀ v ∈ cs, v.oneCell' = true) :
    (Builtin.copy_ #[dT, sT] ty #[.slice (some ⟨g, o, none⟩) dLen dCap, .slice (some a) sLen sCap]).run P w =
      .ok (goInt (Nat.min sLen dLen)) (w.setRow g (splice cur o cs).toArray) := by
  have hl := run_firstCells_some (P := P) w size (Nat.min sLen dLen) a sLen sCap cs hn hsrc
  have hst := run_storeCells_at P g o t cs 0 cur.toArray w hg (by simpa using hfit) h1
  cases hq : P.info? elem with
  | none => simp [hq] at hsz
  | some i =>
    have hi : i.size = size := by simpa [hq] using hsz
    simp only [Nat.add_zero, List.append_assoc] at hst
    simp [Builtin.copy_, run_underlying hu, Builtin.lenOf, sizeOf, typeInfo, hq, hi, hl, hst, splice]
theorem run_append_zeros (w : World) (t tn ty e : TypeId) (i : TypeInfo) (z : Value) (kn : IntKind) (ht : P.underlying t = some (.slice e)) (htn : P.underlying tn = some (.int kn)) (hi : P.info? e = some i) (hz : i.zero = some z)
    (b : Addr) (n cap : Nat) (xs : List Value) (hx : xs.length = n * i.size) (holds : ∀ j u, xs[j]? = some u → w.cell? (b.add j) = some u)
    (m : Nat) (h0 : 0 < m) (hcap : cap < n + m) (hs : 0 < i.size) (h63 : n + m ≤ 4294967296) (hby : i.bytes ≤ 4096) :
    (Builtin.append_ #[t, tn] ty #[.slice (some b) n cap, .int .i64 m]).run P w =
      .ok (.slice (some ⟨w.heap.size, 0, none⟩) (n + m) (grownCap w (n + m) cap e))
        (w.drew.alloc (.cells (xs.toArray ++ Builtin.zeroCells z.cells m ++ Builtin.zeroCells z.cells (grownCap w (n + m) cap e - (n + m))) e)) := by
  have hm : m ≠ 0 := by omega
  have hn : ¬ (n + m ≤ cap) := by omega
  have hw : IntKind.i64.wrap (m : Int) = m := by rw [IntKind.wrap_i64]; omega
  have h63' : ¬ (9223372036854775807 < ((n : Int) + (m : Int))) := by omega
  have hb1 : (n + m) * i.bytes ≤ 4294967296 * 4096 := Nat.mul_le_mul h63 hby
  have hfit := growslice_fits (need := n + m) (old := cap) (bytes := i.bytes) (by omega) (by omega)
  have h48' : ¬ (281474976710656 < Builtin.nextslicecap (n + m) cap * i.bytes) := by omega
  have hb2 : m * i.bytes ≤ (n + m) * i.bytes := Nat.mul_le_mul_right _ (by omega)
  have h48i : ¬ (281474976710656 < (m : Int) * (i.bytes : Int)) := by
    rw [← Int.natCast_mul]
    omega
  have hneg : ¬ ((m : Int) < 0) := by omega
  have hns : ¬ (m * i.size = 0) := Nat.mul_ne_zero hm (by omega)
  have hfo := run_firstCells_some (P := P) w.drew i.size n b n cap xs hx (by simpa using holds)
  simp [Builtin.append_, run_underlying ht, run_underlying htn, sizeOf, typeInfo, zeroValue, hi, hz, asInt, asIntOf, hw, hn, hneg, hns, h63', h48', h48i, Question.forced, hfo, newRow, grownCap]
def OwnRes (base : Nat) (e : TypeId) (size n : Nat) (xs : List Value) (en : Ending) (w' : World) : Prop := ∃ v, en = .returned v ∧ w'.ownsRow base e size v n xs
theorem exec_append_own {w : World} {o : Oper} {a : Act} (s x : Operand) (t e : TypeId) {size bytes : Nat} (hT : ElemT P t e size bytes) (ho : o.op = .call { callee := .builtin .append, args := #[s, x], argTypes := #[t, t] })
    (base : Nat) (v : Value) (n : Nat) (xs : List Value) (hs : a.eval s = v) (hown : w.ownsRow base e size v n xs)
    (ad : Addr) (m c : Nat) (news : List Value) (hx : a.eval x = .slice (some ad) m c) (hl : news.length = m * size) (hnews : ∀ j u, news[j]? = some u → w.cell? (ad.add j) = some u) (h1 : ∀ u ∈ news, u.oneCell' = true)
    (hn : n + m ≤ 4294967296) (hby : bytes ≤ 4096) (hbase : base ≤ w.heap.size) :
    ∃ v' w', (execOp a.eval o).run P w = .ok (.value v') w' ∧ w'.ownsRow base e size v' (n + m) (xs ++ news) ∧ Below base w w' ∧ (0 < m → v' ≠ .slice none 0 0) := by
  obtain ⟨i, z, ht, hi, hz, hsize, hbytes, hzs, hsz⟩ := hT.ex
  have hb1 : (n + m) * bytes ≤ 4294967296 * 4096 := Nat.mul_le_mul hn hby
  obtain ⟨v', w', hr, h2, h3, h4⟩ := run_append_own (P := P) (w := w) base t o.type e i z size bytes ht hi hz hsize hbytes hzs hsz v n xs hown ad m c news hl hnews h1 (by unfold maxLen; omega) (by omega) hbase
  refine ⟨v', w', exec_append s x t t ho _ _ hs hx hr, h2, ?_, fun hm hv => ?_⟩
  · exact (Below.refl _ _).grown h3 hbase (fun k hk => (hown.lt k hk).1)
  · have := (h4.1 hv).2
    omega
theorem wpList_appendN {w : World} {ops : Array Oper} {rest : List Oper} {o : Oper} {a : Act} {Q : Exit → Act → World → Prop} (hgd : o.guard = none) (s x : Operand) (t e : TypeId) {size bytes : Nat} (hT : ElemT P t e size bytes)
    (ho : o.op = .call { callee := .builtin .append, args := #[s, x], argTypes := #[t, t] })
    (base : Nat) (v : Value) (n : Nat) (xs : List Value) (hs : a.eval s = v) (hown : w.ownsRow base e size v n xs)
    (ad : Addr) (m c : Nat) (news : List Value) (hx : a.eval x = .slice (some ad) m c) (hl : news.length = m * size) (hnews : ∀ j u, news[j]? = some u → w.cell? (ad.add j) = some u) (h1 : ∀ u ∈ news, u.oneCell' = true)
    (hn : n + m ≤ 4294967296) (hby : bytes ≤ 4096) (hbase : base ≤ w.heap.size)
    (h : ∀ v' w', w'.ownsRow base e size v' (n + m) (xs ++ news) → Below base w w' → wpList P ops Q rest (a.put o.dst v') w') : wpList P ops Q (o :: rest) a w := by
  obtain ⟨v', w', hr, h2, h3, _⟩ := exec_append_own (P := P) s x t e hT ho base v n xs hs hown ad m c news hx hl hnews h1 hn hby hbase
  exact wpList_run hgd hr (h v' w' h2 h3)
theorem grownBy_setRow (w : World) (g : Nat) (cs : Array Value) : w.grownBy (w.setRow g cs) (some g) :=
  ⟨rfl, rfl, rfl, by simp [World.setRow], fun k _ hk => setRow_other w g k cs (fun e => hk (by simp [e]))⟩
theorem exec_copyK (w : World) {o : Oper} {a : Act} (d s : Operand) (dT sT elem : TypeId) (size : Nat) (hu : P.underlying dT = some (.slice elem)) (hsz : (P.info? elem).map (·.size) = some size)
    (ho : o.op = .call { callee := .builtin .copy, args := #[d, s], argTypes := #[dT, sT] })
    (g off dLen dCap : Nat) (ad : Addr) (sLen sCap : Nat) (hd : a.eval d = .slice (some ⟨g, off, none⟩) dLen dCap) (hs : a.eval s = .slice (some ad) sLen sCap)
    (cur : List Value) (t : TypeId) (cs : List Value)
    (hg : w.heap[g]? = some (.cells cur.toArray t (0, 0))) (hn : cs.length = Nat.min sLen dLen * size)
    (hsrc : ∀ j v, cs[j]? = some v → w.cell? (ad.add j) = some v) (hfit : off + cs.length ≤ cur.length) (h1 : ∀ v ∈ cs, v.oneCell' = true) :
    ∃ w', (execOp a.eval o).run P w = .ok (.value (goInt (Nat.min sLen dLen))) w' ∧ w'.heap[g]? = some (.cells (splice cur off cs).toArray t (0, 0)) ∧ w.grownBy w' (some g) :=
  ⟨_, exec_copy d s dT sT ho _ _ hd hs (run_copyK (P := P) w dT sT o.type elem size hu hsz g off dLen dCap ad sLen sCap cur t cs hg hn hsrc hfit h1),
    setRow_heap w g _ _ t _ hg, grownBy_setRow w g _⟩
theorem wpList_copyK {w : World} {ops : Array Oper} {rest : List Oper} {o : Oper} {a : Act} {Q : Exit → Act → World → Prop} (hgd : o.guard = none) (d s : Operand) (dT sT elem : TypeId) (size : Nat) (hu : P.underlying dT = some (.slice elem)) (hsz : (P.info? elem).map (·.size) = some size)
    (ho : o.op = .call { callee := .builtin .copy, args := #[d, s], argTypes := #[dT, sT] })
    (g off dLen dCap : Nat) (ad : Addr) (sLen sCap : Nat) (hd : a.eval d = .slice (some ⟨g, off, none⟩) dLen dCap) (hs : a.eval s = .slice (some ad) sLen sCap)
    (cur : List Value) (t : TypeId) (cs : List Value)
    (hg : w.heap[g]? = some (.cells cur.toArray t (0, 0))) (hn : cs.length = Nat.min sLen dLen * size)
    (hsrc : ∀ j v, cs[j]? = some v → w.cell? (ad.add j) = some v) (hfit : off + cs.length ≤ cur.length) (h1 : ∀ v ∈ cs, v.oneCell' = true)
    (h : ∀ w', Hid (w'.heap[g]? = some (.cells (splice cur off cs).toArray t (0, 0))) → w.grownBy w' (some g) → wpList P ops Q rest (a.put o.dst (goInt (Nat.min sLen dLen))) w') : wpList P ops Q (o :: rest) a w := by
  obtain ⟨w', hr, h2, h3⟩ := exec_copyK (P := P) w d s dT sT elem size hu hsz ho g off dLen dCap ad sLen sCap hd hs cur t cs hg hn hsrc hfit h1
  exact wpList_run hgd hr (h w' h2 h3)
theorem step_copyK {w : World} {ops : Array Oper} {o : Oper} {a : Act} {K : Act → World → Prop} {Q : Exit → Act → World → Prop} {E : Prop} (hgd : o.guard = none) (d s : Operand) (dT sT elem : TypeId) (size : Nat) (hu : P.underlying dT = some (.slice elem)) (hsz : (P.info? elem).map (·.size) = some size)
    (ho : o.op = .call { callee := .builtin .copy, args := #[d, s], argTypes := #[dT, sT] })
    (g off dLen dCap : Nat) (ad : Addr) (sLen sCap : Nat) (hd : a.eval d = .slice (some ⟨g, off, none⟩) dLen dCap) (hs : a.eval s = .slice (some ad) sLen sCap)
    (cur : List Value) (t : TypeId) (cs : List Value)
    (hg : w.heap[g]? = some (.cells cur.toArray t (0, 0))) (hn : cs.length = Nat.min sLen dLen * size)
    (hsrc : ∀ j v, cs[j]? = some v → w.cell? (ad.add j) = some v) (hfit : off + cs.length ≤ cur.length) (h1 : ∀ v ∈ cs, v.oneCell' = true)
    (h : ∀ w', Hid (w'.heap[g]? = some (.cells (splice cur off cs).toArray t (0, 0))) → w.grownBy w' (some g) → K (a.put o.dst (goInt (Nat.min sLen dLen))) w') :
    if Region.wanted o (yielded ops a.tmps) = true then Oper.wp P o a w K Q else E := by
  obtain ⟨w', hr, h2, h3⟩ := exec_copyK (P := P) w d s dT sT elem size hu hsz ho g off dLen dCap ad sLen sCap hd hs cur t cs hg hn hsrc hfit h1
  exact step_run hgd hr (h w' h2 h3)
theorem wpList_append_zeros {w : World} {ops : Array Oper} {rest : List Oper} {o : Oper} {a : Act} {Q : Exit → Act → World → Prop} (hgd : o.guard = none) (d s : Operand) (t tn e : TypeId) {size bytes : Nat} (hT : ElemT P t e size bytes) (kn : IntKind) (htn : P.underlying tn = some (.int kn))
    (ho : o.op = .call { callee := .builtin .append, args := #[d, s], argTypes := #[t, tn] })
    (b : Addr) (n cap : Nat) (xs : List Value) (hx : xs.length = n * size) (holds : ∀ j u, xs[j]? = some u → w.cell? (b.add j) = some u)
    (m : Nat) (h0 : 0 < m) (hcap : cap < n + m) (h63 : n + m ≤ 4294967296) (hby : bytes ≤ 4096) (hd : a.eval d = .slice (some b) n cap) (hs : a.eval s = .int .i64 m)
    (h : ∀ w' C zs, n + m ≤ C → C ≤ maxLen → xs.length + zs.length = C * size → Hid (w'.heap[w.heap.size]? = some (.cells (xs ++ zs).toArray e (0, 0))) → w.grownBy w' none → wpList P ops Q rest (a.put o.dst (.slice (some ⟨w.heap.size, 0, none⟩) (n + m) C)) w') :
    wpList P ops Q (o :: rest) a w := by
  obtain ⟨i, z, ht, hi, hz, hsize, hbytes, hzs, hsz⟩ := hT.ex
  subst hsize hbytes
  have hr := run_append_zeros (P := P) w t tn o.type e i z kn ht htn hi hz b n cap xs hx holds m h0 hcap hsz h63 hby
  have hge := grownCap_ge w (n + m) cap e
  have hcm : grownCap w (n + m) cap e ≤ maxLen := grownCap_le_maxLen w (n + m) cap e (by unfold maxLen; omega)
  have e1 : xs.toArray ++ Builtin.zeroCells z.cells m ++ Builtin.zeroCells z.cells (grownCap w (n + m) cap e - (n + m)) = (xs ++ ((Builtin.zeroCells z.cells m).toList ++ (Builtin.zeroCells z.cells (grownCap w (n + m) cap e - (n + m))).toList)).toArray := by
    apply Array.ext'
    simp
  rw [e1] at hr
  refine wpList_run hgd (exec_append d s t tn ho _ _ hd hs hr) (h _ _ _ hge hcm ?_ (heap_alloc_new w.drew _) ⟨rfl, rfl, rfl, by simp, fun k hk _ => heap_alloc_old w.drew _ hk⟩)
  simp only [hx, List.length_append, Array.length_toList, size_zeroCells, hzs, ← Nat.add_mul]
  congr 1
  omega
theorem grown_same {w w' : World} {row : Option Nat} (h : w.grownBy w' row) {k : Nat} {ob : Obj} (hk : w.heap[k]? = some ob) (hne : some k ≠ row) : w'.heap[k]? = some ob :=
  (h.block k (Array.getElem?_eq_some_iff.1 hk).1 hne).trans hk
theorem grown_below {w w' : World} {row : Option Nat} (h : w.grownBy w' row) {B : Nat} (hB : B ≤ w.heap.size) (hr : ∀ k, row = some k → B ≤ k) : Below B w w' := (Below.refl _ _).grown h hB hr
theorem owns_of_cur {w : World} {base g n cap size : Nat} {e : TypeId} {cur ys : List Value} (hc : w.heap[g]? = some (.cells cur.toArray e (0, 0))) (hb : base ≤ g) (hn : n ≤ cap) (hm : cap ≤ maxLen) (hl : cur.length = cap * size)
    (hy : cur.take (n * size) = ys) : w.ownsRow base e size (.slice (some ⟨g, 0, none⟩) n cap) n ys := by
  refine ⟨?_, .inr ⟨g, cap, cur.toArray, rfl, hb, hc, hn, hm, by simpa using hl, by simpa using hy⟩⟩
  rw [← hy, List.length_take, hl]
  exact Nat.min_eq_left (Nat.mul_le_mul_right _ hn)
theorem splice_at {A Z B : List Value} {k : Nat} (hk : k = A.length) : splice (A ++ Z) k B = A ++ B ++ Z.drop B.length := by
  subst hk
  simp [splice, List.drop_append]
theorem take_len {A Z : List Value} {k : Nat} (hk : k = A.length) : (A ++ Z).take k = A := by subst hk; simp
theorem splice_shift {A D Z X : List Value} (h : X.length ≤ Z.length) : splice (splice (A ++ D ++ Z) (A.length + X.length) D) A.length X = A ++ X ++ D ++ Z.drop X.length := by
  have e1 : splice (A ++ D ++ Z) (A.length + X.length) D = A ++ ((D ++ Z).take X.length ++ D ++ Z.drop X.length) := by
    unfold splice
    have f1 : (A ++ D ++ Z).take (A.length + X.length) = A ++ (D ++ Z).take X.length := by rw [List.append_assoc, List.take_append, List.take_of_length_le (by omega), Nat.add_sub_cancel_left]
    have f2 : (A ++ D ++ Z).drop (A.length + X.length + D.length) = Z.drop X.length := by
      rw [List.drop_append, List.drop_of_length_le (by simp)]
      simp only [List.length_append, List.nil_append]
      congr 1
      omega
    rw [f1, f2]
    simp
  rw [e1, splice_at rfl]
  have f3 : ((D ++ Z).take X.length ++ D ++ Z.drop X.length).drop X.length = D ++ Z.drop X.length := by
    rw [List.append_assoc, List.drop_append, List.drop_of_length_le (by rw [List.length_take]; omega), List.length_take, List.length_append]
    rw [show X.length - min X.length (D.length + Z.length) = 0 by omega]
    simp
  rw [f3]
  simp
theorem cells_row {w : World} {g off : Nat} {A B C : List Value} {e : TypeId} {fr : Nat × Nat} (hc : w.heap[g]? = some (.cells (A ++ B ++ C).toArray e fr)) (ho : off = A.length) : ∀ j u, B[j]? = some u → w.cell? ((⟨g, off, none⟩ : Addr).add j) = some u := by
  intro j u hj
  have hj2 := (List.getElem?_eq_some_iff.1 hj).1
  subst ho
  rw [addr_add]
  simp only [World.cell?, hc]
  simp only [List.getElem?_toArray]
  rw [List.append_assoc, List.getElem?_append_right (by omega), List.getElem?_append_left (by omega)]
  simpa using hj
theorem wpList_append_room {w : World} {ops : Array Oper} {rest : List Oper} {o : Oper} {a : Act} {Q : Exit → Act → World → Prop} (hgd : o.guard = none) (s x : Operand) (t e : TypeId) {size bytes : Nat} (hT : ElemT P t e size bytes)
    (ho : o.op = .call { callee := .builtin .append, args := #[s, x], argTypes := #[t, t] })
    (g n cap : Nat) (hs : a.eval s = .slice (some ⟨g, 0, none⟩) n cap) (cur : List Value) (hg : w.heap[g]? = some (.cells cur.toArray e (0, 0)))
    (ad : Addr) (m c : Nat) (news : List Value) (hx : a.eval x = .slice (some ad) m c) (hl : news.length = m * size) (hnews : ∀ j u, news[j]? = some u → w.cell? (ad.add j) = some u) (h1 : ∀ u ∈ news, u.oneCell' = true)
    (hroom : n + m ≤ cap) (hfit : n * size + news.length ≤ cur.length)
    (h : ∀ w', Hid (w'.heap[g]? = some (.cells (splice cur (n * size) news).toArray e (0, 0))) → w.grownBy w' (some g) → wpList P ops Q rest (a.put o.dst (.slice (some ⟨g, 0, none⟩) (n + m) cap)) w') : wpList P ops Q (o :: rest) a w := by
  obtain ⟨i, z, ht, hi, hz, hsize, hbytes, hzs, hsz⟩ := hT.ex
  subst hsize
  have hr := run_append_room (P := P) w t o.type e i ht hi g n cap cur.toArray hg ad m c news hl hnews h1 hroom (by simpa using hfit)
  refine wpList_run hgd (exec_append s x t t ho _ _ hs hx hr) (h _ ?_ (grownBy_setRow w g _))
  refine (setRow_heap w g _ _ e _ hg).trans ?_
  simp [splice]
theorem run_clearK (w : World) (t e ty : TypeId) {size bytes : Nat} (hT : ElemT P t e size bytes) (g off n c : Nat) (hn : 0 < n) (cur : List Value) (hg : w.heap[g]? = some (.cells cur.toArray e (0, 0))) (hfit : off + n * size ≤ cur.length)
    (hv : ∃ z : Value, (∀ w, (zeroValue e).run P w = .ok z w) ∧ z.cells.size = size ∧ ∀ u ∈ (Builtin.zeroCells z.cells n).toList, u.oneCell' = true) :
    ∃ zs : List Value, zs.length = n * size ∧ (Builtin.clear_ #[t] ty #[.slice (some ⟨g, off, none⟩) n c]).run P w = .ok (.tuple #[]) (w.setRow g (splice cur off zs).toArray) := by
  obtain ⟨i, z0, ht, hi, hz, hsize, hbytes, hzs, hsz⟩ := hT.ex
  obtain ⟨z, hzv, hz2, h1⟩ := hv
  refine ⟨(Builtin.zeroCells z.cells n).toList, by rw [Array.length_toList, size_zeroCells, hz2], ?_⟩
  have hlen : (Builtin.zeroCells z.cells n).toList.length = n * size := by rw [Array.length_toList, size_zeroCells, hz2]
  have hst := run_storeCells_at P g off e (Builtin.zeroCells z.cells n).toList 0 cur.toArray w hg (by rw [hlen]; simpa using hfit) h1
  cases n with
  | zero => omega
  | succ n =>
    simp only [Nat.add_zero, List.append_assoc] at hst
    simp [Builtin.clear_, run_underlying ht, hzv, hst, splice]
theorem exec_clear {w w' : World} {o : Oper} {a : Act} {v' : Value} (d : Operand) (dT : TypeId) (ho : o.op = .call { callee := .builtin .clear, args := #[d], argTypes := #[dT] })
    (vd : Value) (hd : a.eval d = vd) (hr : (Builtin.clear_ #[dT] o.type #[vd]).run P w = .ok v' w') : (execOp a.eval o).run P w = .ok (.value v') w' := by
  simp [execOp, ho, resolve, invoke, builtin, hd, hr, Result.andThen]
theorem wpList_clearK {w : World} {ops : Array Oper} {rest : List Oper} {o : Oper} {a : Act} {Q : Exit → Act → World → Prop} (hgd : o.guard = none) (s : Operand) (t e : TypeId) {size bytes : Nat} (hT : ElemT P t e size bytes)
    (ho : o.op = .call { callee := .builtin .clear, args := #[s], argTypes := #[t] })
    (g off n c : Nat) (hs : a.eval s = .slice (some ⟨g, off, none⟩) n c) (hn : 0 < n) (cur : List Value) (hg : w.heap[g]? = some (.cells cur.toArray e (0, 0))) (hfit : off + n * size ≤ cur.length)
    (hv : ∃ z : Value, (∀ w, (zeroValue e).run P w = .ok z w) ∧ z.cells.size = size ∧ ∀ u ∈ (Builtin.zeroCells z.cells n).toList, u.oneCell' = true)
    (h : ∀ w' zs, zs.length = n * size → Hid (w'.heap[g]? = some (.cells (splice cur off zs).toArray e (0, 0))) → w.grownBy w' (some g) → wpList P ops Q rest (a.put o.dst (.tuple #[])) w') : wpList P ops Q (o :: rest) a w := by
  obtain ⟨zs, hl, hr⟩ := run_clearK (P := P) w t e o.type hT g off n c hn cur hg hfit hv
  exact wpList_run hgd (exec_clear s t ho _ hs hr) (h _ zs hl (setRow_heap w g _ _ e _ hg) (grownBy_setRow w g _))
theorem zeroCells_mem {z : Value} {n : Nat} (h : ∀ u ∈ z.cells.toList, u.oneCell' = true) : ∀ u ∈ (Builtin.zeroCells z.cells n).toList, u.oneCell' = true := by
  intro u hu
  simp only [Builtin.zeroCells, Array.toList_map, List.mem_map] at hu
  obtain ⟨i, hi, rfl⟩ := hu
  have hi2 : i < n * z.cells.size := by simpa using hi
  have hp : 0 < z.cells.size := by
    rcases Nat.eq_zero_or_pos z.cells.size with e | e
    · rw [e] at hi2; simp at hi2
    · exact e
  have hlt := Nat.mod_lt i hp
  rw [getElem!_pos z.cells _ hlt]
  exact h _ (by simp)
theorem run_append_nothing (w : World) (t ty e : TypeId) {size bytes : Nat} (hT : ElemT P t e size bytes) (ba : Option Addr) (n cap : Nat) (hn : n ≤ cap) (ad : Option Addr) (c : Nat) :
    (Builtin.append_ #[t, t] ty #[.slice ba n cap, .slice ad 0 c]).run P w = .ok (.slice ba n cap) w := by
  obtain ⟨i, z, ht, hi, hz, hsize, hbytes, hzs, hsz⟩ := hT.ex
  cases ba <;> cases ad <;> simp [Builtin.append_, run_underlying ht, sizeOf, typeInfo, hi, Builtin.lenOf, Builtin.firstCells, loadCells, loadCellsFrom, hn, storeCells]
theorem wpList_append_row {w : World} {ops : Array Oper} {rest : List Oper} {o : Oper} {a : Act} {Q : Exit → Act → World → Prop} (hgd : o.guard = none) (s x : Operand) (t e : TypeId) {size bytes : Nat} (hT : ElemT P t e size bytes)
    (ho : o.op = .call { callee := .builtin .append, args := #[s, x], argTypes := #[t, t] })
    (base : Nat) (v : Value) (n : Nat) (xs : List Value) (hs : a.eval s = v) (hown : w.ownsRow base e size v n xs)
    (ad : Option Addr) (m c : Nat) (news : List Value) (hx : a.eval x = .slice ad m c) (hl : news.length = m * size) (hrow : Row w ad news) (h1 : ∀ u ∈ news, u.oneCell' = true)
    (hn : n + m ≤ 4294967296) (hby : bytes ≤ 4096) (hbase : base ≤ w.heap.size)
    (h : ∀ v' w', w'.ownsRow base e size v' (n + m) (xs ++ news) → Below base w w' → wpList P ops Q rest (a.put o.dst v') w') : wpList P ops Q (o :: rest) a w := by
  by_cases hm : m = 0
  · subst hm
    have hnil : news = [] := List.eq_nil_of_length_eq_zero (by simpa using hl)
    subst hnil
    obtain ⟨ba, cap, hv, _, hnc, _⟩ := Row.of_owns hown
    subst hv
    refine wpList_run hgd (exec_append s x t t ho _ _ hs hx (run_append_nothing (P := P) w t o.type e hT ba n cap hnc ad c)) (h _ _ ?_ (Below.refl _ _))
    simpa using hown
  · obtain ⟨i, z, ht, hi, hz, hsize, hbytes, hzs, hsz⟩ := hT.ex
    have hpos : 0 < news.length := by rw [hl]; exact Nat.mul_pos (by omega) hsz
    obtain ⟨b, off, rfl, hc⟩ := hrow.at hpos
    refine wpList_appendN hgd s x t e hT ho base v n xs hs hown ⟨b, off, none⟩ m c news hx hl (fun j u hj => ?_) h1 hn hby hbase h
    rw [addr_add]
    exact hc j u hj
theorem owns_some {w : World} {base n size : Nat} {e : TypeId} {v : Value} {xs : List Value} (h : w.ownsRow base e size v n xs) (hn : 0 < n) : ∃ g cap, v = .slice (some ⟨g, 0, none⟩) n cap ∧ base ≤ g := by
  obtain ⟨_, ⟨_, h⟩ | ⟨g, cap, cur, hv, hg, _⟩⟩ := h
  · omega
  · exact ⟨g, cap, hv, hg⟩
theorem owns_empty (w : World) (e : TypeId) (size : Nat) : (w.alloc (.cells #[] e)).ownsRow w.heap.size e size (.slice (some ⟨w.heap.size, 0, none⟩) 0 0) 0 [] :=
  owns_of_cur (cur := []) (heap_alloc_new w _) (Nat.le_refl _) (Nat.le_refl _) (by simp) (by simp) (by simp)
end Go.Proofs.YtaojblejnpemkaaDoor
namespace Go.Proofs.YtaojblejnpemkaaDoor
open Go.RowKit
theorem owns_after {w w' : World} {base n size : Nat} {e : TypeId} {v : Value} {xs : List Value} (h : w.ownsRow base e size v n xs) (hb : Below w.heap.size w w') : w'.ownsRow base e size v n xs := by
  obtain ⟨hl, h | ⟨g, cap, cur, hv, hg, hc, r⟩⟩ := h
  · exact ⟨hl, .inl h⟩
  · exact ⟨hl, .inr ⟨g, cap, cur, hv, hg, (hb.block g (Array.getElem?_eq_some_iff.1 hc).1).trans hc, r⟩⟩
end Go.Proofs.YtaojblejnpemkaaDoor
