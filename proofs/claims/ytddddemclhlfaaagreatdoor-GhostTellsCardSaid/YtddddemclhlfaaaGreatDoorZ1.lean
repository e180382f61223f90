/- Texts that the claim leans on, part 1: Kit, O0, X1, X15, Mem, Own, Under, D0. -/
import Derived.WalkKit
import Derived.WalkSpells
import Derived.WalkLawsBesides
import Derived.Handy
import Derived.Lib.Hide
import Derived.ProofKit
import Derived.Deep.QuietTactic
import Derived.OpenShut
import Derived.Laws.CopyOwn
import Derived.Laws.CopyRow
import Derived.Laws.NewBlocks
import Derived.Deep.RegionLaw
import Derived.Test.YtddddemclhlfaaaGreatDoorRows
import Derived.BigQuiet
import Derived.Deep.DeepCutAuto
import Derived.RegionTactic
import Derived.ChangeAlike
import Derived.Laws.ResultCell
import Derived.Outline
namespace Go.Proofs.YtddddemclhlfaaaGreatDoor
open Go.ChangeShapes Go.WideShapes Go.ChangeAt Go.RowKit
theorem ret_int {k : IntKind} {a b : Int} (h : a = b) : Ending.returned (.int k a) = .returned (.int k b) := by rw [h]
theorem bool_eq {a b : Bool} (h : a = b) : Value.bool a = .bool b := by rw [h]
theorem int_eq {k : IntKind} {a b : Int} (h : a = b) : Value.int k a = .int k b := by rw [h]
theorem ret_bool {a b : Bool} (h : a = b) : Ending.returned (.bool a) = .returned (.bool b) := by rw [h]
theorem quiet_same {P : Program} {f : FuncId} {args : Array Value} {w : World} {n : Nat} {v : Value}
    (h : Calls P f args (w.drewN n) fun e w' => e = .returned v ∧ w.drewN n = w') : Calls P f args (w.drewN n) fun e w'' => e = .returned v ∧ ∃ m, w'' = w.drewN m :=
  h.mono fun _ _ ⟨he, hm⟩ => ⟨he, n, hm.symm⟩
section
variable {H : Type} {enc : TypeId × Value → H} {P : Program}
theorem trodAll_below (hl : laidOutB P = true) {W W' : World} (hb : Below W.heap.size W W') {sp : Nat → Bool} :
    ∀ (ts : List TypeId) (vs : List Value) (ds : List (DataW H)) (ps : List MemPlace),
      (ts.all fun t => P.readableRec t && decide (t < P.types.size)) = true →
      DataW.TrodAll enc P W 0 (fun _ => true) true ts vs ds ps → (∀ x ∈ ps, x.block < W.heap.size) → (∀ x ∈ ps, sp x.block = true) → DataW.TrodAll enc P W' 0 sp true ts vs ds ps
  | [], vs, ds, ps, _, h, _, _ => by
    cases vs <;> cases ds <;> simp [DataW.TrodAll] at h ⊢
    exact h
  | t :: ts, vs, ds, ps, hr, h, hlt, hs => by
    obtain ⟨v, vs', d, ds', p, q, rfl, rfl, rfl, h1, h2⟩ := trodAll_cons h
    simp only [List.all_cons, Bool.and_eq_true, decide_eq_true_eq] at hr
    refine trodAll_cons_mk ?_ (trodAll_below hl hb ts vs' ds' q hr.2 h2 (fun x hx => hlt x (by simp [hx])) (fun x hx => hs x (by simp [hx])))
    exact WideElems.Trod_stays hl hr.1.1 hr.1.2 h1 (fun x hx => hb.same (hlt x (by simp [hx]))) (fun x hx => hs x (by simp [hx]))
theorem law_post {f : Func} {s : ChangeSpec} {W W' : World} {args : Array Value} {tb : TypeId} {ds gs : List (DataW H)} {before : List MemPlace}
    (hl : laidOutB P = true) (hp : (f.params.toList.all fun t => P.readableRec t && decide (t < P.types.size)) = true)
    (hr : f.resultTypes = #[tb]) (hub : P.underlying tb = some .bool) (hvars : s.vars = [])
    (hspec : (s.fn H (ds ++ [])).results = [.lit (.bool true)] ∧ (s.fn H (ds ++ [])).args = ds ∧ (s.fn H (ds ++ [])).vars = [])
    (hW : DataW.Whole enc P f.params.toList s.vars false W args.toList ds gs before) (hb : Below W.heap.size W W') :
    s.post enc P f false true false false W args (.bool true) W' := by
  have hW0 := hW
  have hlt := hW.lt
  obtain ⟨p, q, hA, hV, rfl, hfz, hnd⟩ := hW
  rw [hvars] at hV
  obtain ⟨rfl, rfl⟩ := trodVars_none hV
  obtain ⟨e1, e2, e3⟩ := hspec
  have hold : ∀ x ∈ p ++ [], (fun b => decide (b < W.heap.size)) x.block = true := fun x hx => by simpa using hlt x hx
  refine ⟨ds, [], p ++ [], [], p, [], hW0, ?_, ?_, ?_, hb.frame _, fun h => by cases h⟩
  · rw [e1, hr]
    exact trodAll_mk1 (shut_bool hub _)
  · rw [e2]
    exact trodAll_below hl hb _ _ _ _ hp hA (fun x hx => hlt x (by simp [hx])) (fun x hx => hold x (by simp [hx]))
  · rw [e3, hvars]
    rfl
end
/-! ### Rows of cells that are read -/
def Row (w : World) (a : Option Addr) (xs : List Value) : Prop :=
  xs = [] ∨ ∃ b off, a = some ⟨b, off, none⟩ ∧ ∀ i u, xs[i]? = some u → w.cell? ⟨b, off + i, none⟩ = some u
theorem Row.below {w w' : World} {a : Option Addr} {xs : List Value} (h : Row w a xs) {B : Nat} (hB : w.heap.size ≤ B) (hb : Below B w w') : Row w' a xs := by
  rcases h with h | ⟨b, off, ha, h⟩
  · exact .inl h
  · refine .inr ⟨b, off, ha, fun i u hu => ?_⟩
    have h1 := h i u hu
    have h2 := World.block_lt_of_cell? _ _ h1
    rw [hb.cell (p := ⟨b, off + i, none⟩) (by simp only at h2 ⊢; omega)]
    exact h1
theorem Row.below0 {w w' : World} {a : Option Addr} {xs : List Value} (h : Row w a xs) (hb : Below w.heap.size w w') : Row w' a xs := h.below (Nat.le_refl _) hb
theorem Row.at {w : World} {a : Option Addr} {xs : List Value} (h : Row w a xs) {k : Nat} (hk : k < xs.length) : ∃ b off, a = some ⟨b, off, none⟩ ∧ ∀ i u, xs[i]? = some u → w.cell? ⟨b, off + i, none⟩ = some u := by
  rcases h with h | h
  · subst h; simp at hk
  · exact h
theorem Row.int {w : World} {a : Option Addr} {k : IntKind} {l : List Int} (h : Row w a (l.map (Value.int k))) {i : Nat} (hi : i < l.length) :
    ∃ b off x, a = some ⟨b, off, none⟩ ∧ l[i]? = some x ∧ w.cell? ⟨b, off + i, none⟩ = some (.int k x) := by
  obtain ⟨b, off, ha, hc⟩ := h.at (k := i) (by simpa using hi)
  exact ⟨b, off, l[i], ha, by simp [hi], hc i _ (by simp [hi])⟩
theorem Row.intAt {w : World} {b off : Nat} {k : IntKind} {l : List Int} {i : Nat} {x : Int} (h : Row w (some ⟨b, off, none⟩) (l.map (Value.int k))) (hx : l[i]? = some x) : w.cell? ⟨b, off + i, none⟩ = some (.int k x) := by
  rcases h with h | ⟨b', off', e, h⟩
  · simp at h; subst h; simp at hx
  · cases e
    exact h i _ (by simp [hx])
theorem addr_add (b o j : Nat) : (⟨b, o, none⟩ : Addr).add j = ⟨b, o + j, none⟩ := by
  unfold Addr.add
  by_cases h : j = 0 <;> simp [h]
theorem cell_new (w : World) (cs : Array Value) (e : TypeId) (j : Nat) : (w.alloc (.cells cs e)).cell? ⟨w.heap.size, j, none⟩ = cs[j]? := by simp [go_sem]
theorem Row.of_owns {w : World} {base n size : Nat} {e : TypeId} {v : Value} {xs : List Value} (h : w.ownsRow base e size v n xs) : ∃ a cap, v = .slice a n cap ∧ Row w a xs ∧ n ≤ cap ∧ cap ≤ maxLen := by
  have h0 := h
  obtain ⟨hl, ⟨rfl, rfl⟩ | ⟨g, cap, cur, rfl, hg, hc, hn, hm, hs, ht⟩⟩ := h
  · refine ⟨none, 0, rfl, .inl ?_, Nat.le_refl _, by simp⟩
    simpa using hl
  · refine ⟨some ⟨g, 0, none⟩, cap, rfl, .inr ⟨g, 0, rfl, fun i u hu => ?_⟩, hn, hm⟩
    have := h0.cells (g := g) rfl i u hu
    rw [addr_add] at this
    exact this
theorem owns_mono {w : World} {base base' n size : Nat} {e : TypeId} {v : Value} {xs : List Value} (h : w.ownsRow base e size v n xs) (hb : base' ≤ base) : w.ownsRow base' e size v n xs := by
  obtain ⟨hl, h | ⟨g, cap, cur, hv, hg, r⟩⟩ := h
  · exact ⟨hl, .inl h⟩
  · exact ⟨hl, .inr ⟨g, cap, cur, hv, Nat.le_trans hb hg, r⟩⟩
structure ElemT (P : Program) (t e : TypeId) (size bytes : Nat) : Prop where
  ex : ∃ i z, P.underlying t = some (.slice e) ∧ P.info? e = some i ∧ i.zero = some z ∧ i.size = size ∧ i.bytes = bytes ∧ z.cells.size = size ∧ 0 < size
theorem ElemT.of {P : Program} {t e : TypeId} {size bytes : Nat} (z : Value) (ht : P.underlying t = some (.slice e)) (hi : (P.info? e).map (fun i => (i.zero, i.size, i.bytes)) = some (some z, size, bytes)) (hz : z.cells.size = size) (hp : 0 < size) : ElemT P t e size bytes := by
  obtain ⟨i, h1, h2, h3, h4⟩ := info_parts hi
  exact ⟨⟨i, z, ht, h1, h2, h3, h4, hz, hp⟩⟩
theorem wpList_append1 {P : Program} {w : World} {ops : Array Oper} {rest : List Oper} {o : Oper} {a : Act} {Q : Exit → Act → World → Prop} (hgd : o.guard = none) (s x : Operand) (t e : TypeId) {size bytes : Nat} (hT : ElemT P t e size bytes)
    (ho : o.op = .call { callee := .builtin .append, args := #[s, x], argTypes := #[t, t] })
    (base : Nat) (v : Value) (n : Nat) (xs : List Value) (hs : a.eval s = v) (hown : w.ownsRow base e size v n xs)
    (cs : Array Value) (hcs : cs.size = size) (h1 : ∀ u ∈ cs.toList, u.oneCell' = true) (e' : TypeId) (hx : a.eval x = .slice (some ⟨w.heap.size, 0, none⟩) 1 1)
    (hn : n < 4294967296) (hby : bytes ≤ 4096) (hbase : base ≤ w.heap.size)
    (h : ∀ v' w', w'.ownsRow base e size v' (n + 1) (xs ++ cs.toList) → Below base w w' → (v' = .slice none 0 0 → False) → wpList P ops Q rest (a.put o.dst v') w') :
    wpList P ops Q (o :: rest) a (w.alloc (.cells cs e')) := by
  obtain ⟨i, z, ht, hi, hz, hsize, hbytes, hzs, hsz⟩ := hT.ex
  refine wpList_append_own _ hgd s x t ho base e i z size bytes ht hi hz hsize hbytes hzs hsz v n xs hs (hown.alloc _) ⟨w.heap.size, 0, none⟩ 1 1 cs.toList hx (by simp [hcs]) ?_ h1 (by unfold maxLen; omega) ?_ ?_ ?_
  · intro j u hj
    rw [addr_add, Nat.zero_add, cell_new]
    simpa using hj
  · have : (n + 1) * bytes ≤ 4294967296 * 4096 := Nat.mul_le_mul (by omega) hby
    omega
  · have : (w.alloc (.cells cs e')).heap.size = w.heap.size + 1 := by simp
    omega
  · intro v' w' h2 h3 h4
    refine h v' w' h2 ?_ (fun hv => ?_)
    · have hb : Below base w (w.alloc (.cells cs e')) := (Below.refl _ _).alloc hbase _
      refine hb.grown h3 (by simp; omega) (fun k hk => ?_)
      exact (hown.lt k hk).1
    · have := (h4.1 hv).2
      omega
def isums (l : List Int) : List Value := l.map (Value.int .i64)
end Go.Proofs.YtddddemclhlfaaaGreatDoor
namespace Go.Proofs.YtddddemclhlfaaaGreatDoor
open Go.RowKit
def byv (b : UInt8) : Value := .int .u8 (b.toNat : Int)
def bys (l : List UInt8) : List Value := l.map byv
theorem bys_len (l : List UInt8) : (bys l).length = l.length := by simp [bys]
theorem bys_app (l m : List UInt8) : bys (l ++ m) = bys l ++ bys m := by simp [bys]
theorem bys_one {l : List UInt8} : ∀ u ∈ bys l, u.oneCell' = true := by
  intro u hu
  simp only [bys, List.mem_map] at hu
  obtain ⟨z, _, rfl⟩ := hu
  rfl
theorem Row.byte {w : World} {a : Option Addr} {l : List UInt8} (h : Row w a (bys l)) {i : Nat} (hi : i < l.length) :
    ∃ b off, a = some ⟨b, off, none⟩ ∧ w.cell? ⟨b, off + i, none⟩ = some (.int .u8 (l[i].toNat : Int)) := by
  obtain ⟨b, off, ha, hc⟩ := h.at (k := i) (by rw [bys_len]; exact hi)
  exact ⟨b, off, ha, hc i _ (by simp [bys, hi, byv])⟩
theorem Row.byteAt {w : World} {b off : Nat} {l : List UInt8} (h : Row w (some ⟨b, off, none⟩) (bys l)) {i : Nat} (hi : i < l.length) : w.cell? ⟨b, off + i, none⟩ = some (.int .u8 (l[i].toNat : Int)) := by
  obtain ⟨b', off', e, hc⟩ := h.byte hi
  cases e
  exact hc
def manyI (w : Int) : Int := if w = 1 then 256 else if w = 2 then 65536 else if w = 4 then 4294967296 else if w = 6 then 281474976710656 else 0
theorem manyI_bd (w : Int) : 0 ≤ manyI w ∧ manyI w ≤ 281474976710656 := by unfold manyI; split; omega; split; omega; split; omega; split <;> omega
def fitsB (w n : Int) : Bool := decide (0 ≤ n) && decide (n < manyI w)
theorem fits_w {w n : Int} (h : fitsB w n = true) : (w = 1 ∨ w = 2 ∨ w = 4 ∨ w = 6) ∧ 0 ≤ n ∧ n < manyI w := by
  simp only [fitsB, Bool.and_eq_true, decide_eq_true_eq] at h
  refine ⟨?_, h.1, h.2⟩
  have := h.2
  unfold manyI at this
  split at this; · omega
  split at this; · omega
  split at this; · omega
  split at this <;> omega
def le : Nat → Nat → List UInt8
  | 0, _ => []
  | k + 1, n => UInt8.ofNat (n % 256) :: le k (n / 256)
theorem le_len (k n : Nat) : (le k n).length = k := by
  induction k generalizing n with
  | zero => rfl
  | succ k ih => simp [le, ih]
theorem le_at (k n i : Nat) (h : i < k) : (le k n)[i]? = some (UInt8.ofNat (n / 256 ^ i % 256)) := by
  induction k generalizing n i with
  | zero => omega
  | succ k ih =>
    cases i with
    | zero => simp [le]
    | succ i =>
      simp only [le, List.getElem?_cons_succ]
      rw [ih (n / 256) i (by omega), Nat.div_div_eq_div_mul, Nat.pow_succ', ]
theorem le_snoc (k n : Nat) : le (k + 1) n = le k n ++ [UInt8.ofNat (n / 256 ^ k % 256)] := by
  induction k generalizing n with
  | zero => simp [le]
  | succ k ih =>
    rw [le, ih (n / 256)]
    simp only [le, List.cons_append, List.cons.injEq, true_and, List.append_cancel_left_eq, and_true]
    rw [Nat.div_div_eq_div_mul, Nat.pow_succ']
theorem byv_shift (n j : Nat) : byv (UInt8.ofNat (n / 256 ^ j % 256)) = .int .u8 ((n : Int) / 2 ^ (8 * j) % 256) := by
  unfold byv
  congr 1
  have e : (2 : Int) ^ (8 * j) = ((256 ^ j : Nat) : Int) := by
    rw [Int.pow_mul]; norm_cast
  rw [e, ← Int.natCast_ediv, show (256 : Int) = ((256 : Nat) : Int) from rfl, ← Int.natCast_emod]
  congr 1
  simp
theorem byv_low (n : Nat) : byv (UInt8.ofNat (n % 256)) = .int .u8 ((n : Int) % 256) := by
  have := byv_shift n 0
  simpa using this
def ofLe : List UInt8 → Nat
  | [] => 0
  | b :: l => b.toNat + 256 * ofLe l
theorem ofLe_lt : ∀ l : List UInt8, ofLe l < 256 ^ l.length
  | [] => by simp [ofLe]
  | b :: l => by
    have h1 := ofLe_lt l
    have h2 : b.toNat < 256 := b.toNat_lt
    simp only [ofLe, List.length_cons, Nat.pow_succ]
    omega
theorem ofLe_le (k n : Nat) (h : n < 256 ^ k) : ofLe (le k n) = n := by
  induction k generalizing n with
  | zero => simp at h; subst h; rfl
  | succ k ih =>
    simp only [le, ofLe]
    rw [ih (n / 256) (by rw [Nat.pow_succ] at h; omega)]
    have : (UInt8.ofNat (n % 256)).toNat = n % 256 := by simp
    rw [this]; omega
theorem le_ofLe : ∀ l : List UInt8, le l.length (ofLe l) = l
  | [] => rfl
  | b :: l => by
    have h2 : b.toNat < 256 := b.toNat_lt
    simp only [List.length_cons, le, ofLe]
    rw [show (b.toNat + 256 * ofLe l) / 256 = ofLe l by omega, show (b.toNat + 256 * ofLe l) % 256 = b.toNat by omega, le_ofLe l]
    simp
theorem ofLe_app (l m : List UInt8) : ofLe (l ++ m) = ofLe l + 256 ^ l.length * ofLe m := by
  induction l with
  | nil => simp [ofLe]
  | cons b l ih =>
    simp only [List.cons_append, ofLe, ih, List.length_cons, Nat.pow_succ]
    rw [Nat.mul_add, Nat.mul_comm (256 ^ l.length) 256, Nat.mul_assoc]
    omega
end Go.Proofs.YtddddemclhlfaaaGreatDoor
namespace Go.Proofs.YtddddemclhlfaaaGreatDoor
def half : Nat → Nat
  | 0 => 0x00000000 | 1 => 0x105ec76f | 2 => 0x20bd8ede | 3 => 0x30e349b1 | 4 => 0x417b1dbc | 5 => 0x5125dad3 | 6 => 0x61c69362 | 7 => 0x7198540d
  | 8 => 0x82f63b78 | 9 => 0x92a8fc17 | 10 => 0xa24bb5a6 | 11 => 0xb21572c9 | 12 => 0xc38d26c4 | 13 => 0xd3d3e1ab | 14 => 0xe330a81a | _ => 0xf36e6f75
def nib (r : Nat) : Nat := (r / 16) ^^^ half (r % 16)
def stepC (r : Nat) (x : UInt8) : Nat := nib (nib (r ^^^ x.toNat))
def runC (r : Nat) (l : List UInt8) : Nat := l.foldl stepC r
def ones : Nat := 4294967295
def crcE (s : Nat) (l : List UInt8) : Nat := runC (s ^^^ ones) l ^^^ ones
def crcS (l : List UInt8) : Nat := crcE 0 l
theorem xor_cancel {a b c : Nat} (h : a ^^^ c = b ^^^ c) : a = b := by
  have := congrArg (· ^^^ c) h
  simpa [Nat.xor_assoc, Nat.xor_self, Nat.xor_zero] using this
theorem half_top : ∀ k, k < 16 → half k / 268435456 = k := by decide
theorem half_lt : ∀ k, k < 16 → half k < 4294967296 := by decide
theorem nib_lt {r : Nat} (h : r < 4294967296) : nib r < 4294967296 := by
  unfold nib
  exact Nat.xor_lt_two_pow (n := 32) (by omega) (half_lt _ (Nat.mod_lt _ (by decide)))
theorem nib_top {r : Nat} (h : r < 4294967296) : nib r / 268435456 = r % 16 := by
  unfold nib
  have e : (r / 16 ^^^ half (r % 16)) / 2 ^ 28 = (r / 16) / 2 ^ 28 ^^^ half (r % 16) / 2 ^ 28 := Nat.xor_div_two_pow
  have h1 : (r / 16) / 2 ^ 28 = 0 := by omega
  rw [h1, Nat.zero_xor] at e
  exact e.trans (half_top _ (Nat.mod_lt _ (by decide)))
theorem nib_inj {r s : Nat} (hr : r < 4294967296) (hs : s < 4294967296) (h : nib r = nib s) : r = s := by
  have h1 : r % 16 = s % 16 := by rw [← nib_top hr, ← nib_top hs, h]
  unfold nib at h
  rw [h1] at h
  have h2 : r / 16 = s / 16 := xor_cancel h
  omega
theorem stepC_lt {r : Nat} (h : r < 4294967296) (x : UInt8) : stepC r x < 4294967296 := by
  have hx : x.toNat < 2 ^ 32 := Nat.lt_trans x.toNat_lt (by decide)
  exact nib_lt (nib_lt (Nat.xor_lt_two_pow (n := 32) h hx))
theorem stepC_inj {r s : Nat} (hr : r < 4294967296) (hs : s < 4294967296) {x : UInt8} (h : stepC r x = stepC s x) : r = s := by
  have hx : x.toNat < 2 ^ 32 := Nat.lt_trans x.toNat_lt (by decide)
  have a := Nat.xor_lt_two_pow (n := 32) hr hx
  have b := Nat.xor_lt_two_pow (n := 32) hs hx
  exact xor_cancel (nib_inj a b (nib_inj (nib_lt a) (nib_lt b) h))
theorem stepC_byte {r : Nat} (hr : r < 4294967296) {x y : UInt8} (h : stepC r x = stepC r y) : x = y := by
  have hx : x.toNat < 2 ^ 32 := Nat.lt_trans x.toNat_lt (by decide)
  have hy : y.toNat < 2 ^ 32 := Nat.lt_trans y.toNat_lt (by decide)
  have a := Nat.xor_lt_two_pow (n := 32) hr hx
  have b := Nat.xor_lt_two_pow (n := 32) hr hy
  have e := nib_inj a b (nib_inj (nib_lt a) (nib_lt b) h)
  rw [Nat.xor_comm r, Nat.xor_comm r] at e
  exact UInt8.toNat_inj.1 (xor_cancel e)
theorem runC_lt : ∀ (l : List UInt8) {r : Nat}, r < 4294967296 → runC r l < 4294967296
  | [], _, h => h
  | x :: l, _, h => runC_lt l (stepC_lt h x)
theorem runC_inj : ∀ (l : List UInt8) {r s : Nat}, r < 4294967296 → s < 4294967296 → runC r l = runC s l → r = s
  | [], _, _, _, _, h => h
  | x :: l, _, _, hr, hs, h => stepC_inj hr hs (runC_inj l (stepC_lt hr x) (stepC_lt hs x) h)
theorem runC_app (r : Nat) (l m : List UInt8) : runC r (l ++ m) = runC (runC r l) m := List.foldl_append
theorem runC_cons (r : Nat) (x : UInt8) (l : List UInt8) : runC r (x :: l) = runC (stepC r x) l := rfl
theorem runC_turn {r : Nat} (hr : r < 4294967296) (a b : List UInt8) {x y : UInt8} (h : runC r (a ++ x :: b) = runC r (a ++ y :: b)) : x = y := by
  rw [runC_app, runC_app, runC_cons, runC_cons] at h
  have h1 := runC_lt a hr
  exact stepC_byte h1 (runC_inj b (stepC_lt h1 x) (stepC_lt h1 y) h)
theorem crcS_lt (l : List UInt8) : crcS l < 4294967296 := Nat.xor_lt_two_pow (n := 32) (runC_lt l (by decide)) (by decide)
theorem crcS_turn (a b : List UInt8) {x y : UInt8} (h : crcS (a ++ x :: b) = crcS (a ++ y :: b)) : x = y := runC_turn (r := 0 ^^^ ones) (by decide) a b (xor_cancel h)
end Go.Proofs.YtddddemclhlfaaaGreatDoor
namespace Go.Proofs.YtddddemclhlfaaaGreatDoor
def half1 (y : Nat) : Nat := (y / 2) ^^^ (if y % 2 = 1 then 2197175160 else 0)
def inR (r b : Nat) : Nat := if r % 2 = b then r / 2 else (r / 2) ^^^ 2197175160
def halfs : Nat → Nat → Nat
  | 0, y => y
  | k + 1, y => half1 (halfs k y)
theorem xor_half (a b : Nat) : (a ^^^ b) / 2 = a / 2 ^^^ b / 2 := Nat.xor_div_two_pow (n := 1)
theorem xor_low (a b : Nat) : (a ^^^ b) % 2 = a % 2 ^^^ b % 2 := Nat.xor_mod_two_pow (n := 1)
theorem half1_xor (a b : Nat) : half1 (a ^^^ b) = half1 a ^^^ half1 b := by
  unfold half1
  rw [xor_half, xor_low]
  rcases (show a % 2 = 0 ∨ a % 2 = 1 by omega) with h | h <;> rcases (show b % 2 = 0 ∨ b % 2 = 1 by omega) with k | k <;> rw [h, k] <;> simp only [Nat.xor_self, Nat.xor_zero, Nat.zero_xor, if_true, if_false, Nat.zero_ne_one]
  · rw [Nat.xor_assoc]
  · rw [Nat.xor_assoc, Nat.xor_assoc, Nat.xor_comm (b / 2)]
  · rw [Nat.xor_assoc, ← Nat.xor_assoc 2197175160, Nat.xor_comm 2197175160 (b / 2), Nat.xor_assoc, Nat.xor_self, Nat.xor_zero]
theorem halfs_xor (a b : Nat) : ∀ k, halfs k (a ^^^ b) = halfs k a ^^^ halfs k b
  | 0 => rfl
  | k + 1 => by
    show half1 (halfs k (a ^^^ b)) = half1 (halfs k a) ^^^ half1 (halfs k b)
    rw [halfs_xor a b k, half1_xor]
theorem half1_two (y : Nat) : half1 (2 * y) = y := by
  unfold half1
  rw [if_neg (by omega), Nat.xor_zero]
  omega
theorem halfs_16 (q : Nat) : halfs 4 (16 * q) = q := by
  show half1 (half1 (half1 (half1 (16 * q)))) = q
  rw [show 16 * q = 2 * (2 * (2 * (2 * q))) by omega, half1_two, half1_two, half1_two, half1_two]
theorem halfs_low : ∀ m, m < 16 → halfs 4 m = half m := by decide
theorem split16 (y : Nat) : y = 16 * (y / 16) ^^^ (y % 16) := by
  have h1 : (16 * (y / 16) ^^^ (y % 16)) / 16 = y / 16 := by
    have := Nat.xor_div_two_pow (a := 16 * (y / 16)) (b := y % 16) (n := 4)
    rw [show (2 : Nat) ^ 4 = 16 from rfl] at this
    rw [this, show y % 16 / 16 = 0 by omega, Nat.xor_zero]
    omega
  have h2 : (16 * (y / 16) ^^^ (y % 16)) % 16 = y % 16 := by
    have := Nat.xor_mod_two_pow (a := 16 * (y / 16)) (b := y % 16) (n := 4)
    rw [show (2 : Nat) ^ 4 = 16 from rfl] at this
    rw [this, show 16 * (y / 16) % 16 = 0 by omega, Nat.zero_xor]
    omega
  generalize 16 * (y / 16) ^^^ (y % 16) = z at *
  omega
theorem halfs_nib (y : Nat) : halfs 4 y = nib y := by
  have h := halfs_xor (16 * (y / 16)) (y % 16) 4
  rw [← split16] at h
  rw [h, halfs_16, halfs_low _ (by omega)]
  rfl
theorem halfs_add (y : Nat) : ∀ a b, halfs (a + b) y = halfs a (halfs b y)
  | 0, b => by rw [Nat.zero_add]; rfl
  | a + 1, b => by
    rw [show a + 1 + b = (a + b) + 1 by omega]
    show half1 (halfs (a + b) y) = half1 (halfs a (halfs b y))
    rw [halfs_add y a b]
theorem halfs_8 (r : Nat) (x : UInt8) : halfs 8 (r ^^^ x.toNat) = stepC r x := by
  rw [show (8 : Nat) = 4 + 4 from rfl, halfs_add, halfs_nib, halfs_nib]
  rfl
theorem inR_step {r x y k : Nat} (h : r ^^^ x = halfs k y) : inR r (x % 2) ^^^ (x / 2) = halfs (k + 1) y := by
  show _ = half1 (halfs k y)
  rw [← h]
  unfold half1 inR
  rw [xor_half, xor_low]
  rcases (show r % 2 = 0 ∨ r % 2 = 1 by omega) with h | h <;> rcases (show x % 2 = 0 ∨ x % 2 = 1 by omega) with k | k <;> rw [h, k] <;> simp only [Nat.xor_self, Nat.xor_zero, Nat.zero_xor, if_true, if_false, Nat.zero_ne_one, Nat.one_ne_zero]
  · rw [Nat.xor_assoc, Nat.xor_assoc, Nat.xor_comm (x / 2)]
  · rw [Nat.xor_assoc, Nat.xor_assoc, Nat.xor_comm (x / 2)]
theorem inR_lt {r b : Nat} (h : r < 4294967296) : inR r b < 4294967296 := by
  unfold inR
  split
  · omega
  · exact Nat.xor_lt_two_pow (n := 32) (show r / 2 < 2 ^ 32 by omega) (by decide)
end Go.Proofs.YtddddemclhlfaaaGreatDoor
namespace Go.Proofs.YtddddemclhlfaaaGreatDoor
open Go.RowKit
variable {P : Program}
theorem wpList_run {w w' : World} {v : Value} {ops : Array Oper} {rest : List Oper} {o : Oper} {a : Act} {Q : Exit → Act → World → Prop} (hgd : o.guard = none)
    (hr : (execOp a.eval o).run P w = .ok (.value v) w') (h : wpList P ops Q rest (a.put o.dst v) w') : wpList P ops Q (o :: rest) a w :=
  wpList_plain hgd fun K hK => by
    unfold Oper.wp
    rw [hr]
    exact hK _ _ h
theorem step_run {ops : Array Oper} {o : Oper} {a : Act} {w w' : World} {v : Value} {K : Act → World → Prop} {Q : Exit → Act → World → Prop} {E : Prop}
    (hg : o.guard = none) (hr : (execOp a.eval o).run P w = .ok (.value v) w') (hK : K (a.put o.dst v) w') :
    if Region.wanted o (yielded ops a.tmps) = true then Oper.wp P o a w K Q else E := by
  have hw : Region.wanted o (yielded ops a.tmps) = true := by simp [Region.wanted, hg]
  rw [if_pos hw]
  unfold Oper.wp
  rw [hr]
  exact hK
theorem exec_copy {w w' : World} {o : Oper} {a : Act} {v' : Value} (d s : Operand) (dT sT : TypeId) (ho : o.op = .call { callee := .builtin .copy, args := #[d, s], argTypes := #[dT, sT] })
    (vd vs : Value) (hd : a.eval d = vd) (hs : a.eval s = vs) (hr : (Builtin.copy_ #[dT, sT] o.type #[vd, vs]).run P w = .ok v' w') : (execOp a.eval o).run P w = .ok (.value v') w' := by
  simp [execOp, ho, resolve, invoke, builtin, hd, hs, hr, Result.andThen]
theorem exec_append {w w' : World} {o : Oper} {a : Act} {v' : Value} (d s : Operand) (dT sT : TypeId) (ho : o.op = .call { callee := .builtin .append, args := #[d, s], argTypes := #[dT, sT] })
    (vd vs : Value) (hd : a.eval d = vd) (hs : a.eval s = vs) (hr : (Builtin.append_ #[dT, sT] o.type #[vd, vs]).run P w = .ok v' w') : (execOp a.eval o).run P w = .ok (.value v') w' := by
  simp [execOp, ho, resolve, invoke, builtin, hd, hs, hr, Result.andThen]
theorem run_copyK (w : World) (dT sT ty elem : TypeId) (size : Nat) (hu : P.underlying dT = some (.slice elem)) (hsz : (P.info? elem).map (·.size) = some size)
    (g o dLen dCap : Nat) (a : Addr) (sLen sCap : Nat) (cur : List Value) (t : TypeId) (cs : List Value)
    (hg : w.heap[g]? = some (.cells cur.toArray t (0, 0))) (hn : cs.length = Nat.min sLen dLen * size)
    (hsrc : ∀ j v, cs[j]? = some v → w.cell? (a.add j) = some v) (hfit : o + cs.length ≤ cur.length) (h1 : ∀ v ∈ cs, v.oneCell' = true) :
    (Builtin.copy_ #[dT, sT] ty #[.slice (some ⟨g, o, none⟩) dLen dCap, .slice (some a) sLen sCap]).run P w =
      .ok (goInt (Nat.min sLen dLen)) (w.setRow g (splice cur o cs).toArray) := by
  have hl := run_firstCells_some (P := P) w size (Nat.min sLen dLen) a sLen sCap cs hn hsrc
  have hst := run_storeCells_at P g o t cs 0 cur.toArray w hg (by simpa using hfit) h1
  cases hq : P.info? elem with
  | none => simp [hq] at hsz
  | some i =>
    have hi : i.size = size := by simpa [hq] using hsz
    simp only [Nat.add_zero, List.append_assoc] at hst
    simp [Builtin.copy_, run_underlying hu, Builtin.lenOf, sizeOf, typeInfo, hq, hi, hl, hst, splice]
theorem run_append_zeros (w : World) (t tn ty e : TypeId) (i : TypeInfo) (z : Value) (kn : IntKind) (ht : P.underlying t = some (.slice e)) (htn : P.underlying tn = some (.int kn)) (hi : P.info? e = some i) (hz : i.zero = some z)
    (b : Addr) (n cap : Nat) (xs : List Value) (hx : xs.length = n * i.size) (holds : ∀ j u, xs[j]? = some u → w.cell? (b.add j) = some u)
    (m : Nat) (h0 : 0 < m) (hcap : cap < n + m) (hs : 0 < i.size) (h63 : n + m ≤ 4294967296) (hby : i.bytes ≤ 4096) :
    (Builtin.append_ #[t, tn] ty #[.slice (some b) n cap, .int .i64 m]).run P w =
      .ok (.slice (some ⟨w.heap.size, 0, none⟩) (n + m) (grownCap w (n + m) cap e))
        (w.drew.alloc (.cells (xs.toArray ++ Builtin.zeroCells z.cells m ++ Builtin.zeroCells z.cells (grownCap w (n + m) cap e - (n + m))) e)) := by
  have hm : m ≠ 0 := by omega
  have hn : ¬ (n + m ≤ cap) := by omega
  have hw : IntKind.i64.wrap (m : Int) = m := by rw [IntKind.wrap_i64]; omega
  have h63' : ¬ (9223372036854775807 < ((n : Int) + (m : Int))) := by omega
  have hb1 : (n + m) * i.bytes ≤ 4294967296 * 4096 := Nat.mul_le_mul h63 hby
  have hfit := growslice_fits (need := n + m) (old := cap) (bytes := i.bytes) (by omega) (by omega)
  have h48' : ¬ (281474976710656 < Builtin.nextslicecap (n + m) cap * i.bytes) := by omega
  have hb2 : m * i.bytes ≤ (n + m) * i.bytes := Nat.mul_le_mul_right _ (by omega)
  have h48i : ¬ (281474976710656 < (m : Int) * (i.bytes : Int)) := by
    rw [← Int.natCast_mul]
    omega
  have hneg : ¬ ((m : Int) < 0) := by omega
  have hns : ¬ (m * i.size = 0) := Nat.mul_ne_zero hm (by omega)
  have hfo := run_firstCells_some (P := P) w.drew i.size n b n cap xs hx (by simpa using holds)
  simp [Builtin.append_, run_underlying ht, run_underlying htn, sizeOf, typeInfo, zeroValue, hi, hz, asInt, asIntOf, hw, hn, hneg, hns, h63', h48', h48i, Question.forced, hfo, newRow, grownCap]
def OwnRes (base : Nat) (e : TypeId) (size n : Nat) (xs : List Value) (en : Ending) (w' : World) : Prop := ∃ v, en = .returned v ∧ w'.ownsRow base e size v n xs
theorem exec_append_own {w : World} {o : Oper} {a : Act} (s x : Operand) (t e : TypeId) {size bytes : Nat} (hT : ElemT P t e size bytes) (ho : o.op = .call { callee := .builtin .append, args := #[s, x], argTypes := #[t, t] })
    (base : Nat) (v : Value) (n : Nat) (xs : List Value) (hs : a.eval s = v) (hown : w.ownsRow base e size v n xs)
    (ad : Addr) (m c : Nat) (news : List Value) (hx : a.eval x = .slice (some ad) m c) (hl : news.length = m * size) (hnews : ∀ j u, news[j]? = some u → w.cell? (ad.add j) = some u) (h1 : ∀ u ∈ news, u.oneCell' = true)
    (hn : n + m ≤ 4294967296) (hby : bytes ≤ 4096) (hbase : base ≤ w.heap.size) :
    ∃ v' w', (execOp a.eval o).run P w = .ok (.value v') w' ∧ w'.ownsRow base e size v' (n + m) (xs ++ news) ∧ Below base w w' ∧ (0 < m → v' ≠ .slice none 0 0) := by
  obtain ⟨i, z, ht, hi, hz, hsize, hbytes, hzs, hsz⟩ := hT.ex
  have hb1 : (n + m) * bytes ≤ 4294967296 * 4096 := Nat.mul_le_mul hn hby
  obtain ⟨v', w', hr, h2, h3, h4⟩ := run_append_own (P := P) (w := w) base t o.type e i z size bytes ht hi hz hsize hbytes hzs hsz v n xs hown ad m c news hl hnews h1 (by unfold maxLen; omega) (by omega) hbase
  refine ⟨v', w', exec_append s x t t ho _ _ hs hx hr, h2, ?_, fun hm hv => ?_⟩
  · exact (Below.refl _ _).grown h3 hbase (fun k hk => (hown.lt k hk).1)
  · have := (h4.1 hv).2
    omega
theorem wpList_appendN {w : World} {ops : Array Oper} {rest : List Oper} {o : Oper} {a : Act} {Q : Exit → Act → World → Prop} (hgd : o.guard = none) (s x : Operand) (t e : TypeId) {size bytes : Nat} (hT : ElemT P t e size bytes)
    (ho : o.op = .call { callee := .builtin .append, args := #[s, x], argTypes := #[t, t] })
    (base : Nat) (v : Value) (n : Nat) (xs : List Value) (hs : a.eval s = v) (hown : w.ownsRow base e size v n xs)
    (ad : Addr) (m c : Nat) (news : List Value) (hx : a.eval x = .slice (some ad) m c) (hl : news.length = m * size) (hnews : ∀ j u, news[j]? = some u → w.cell? (ad.add j) = some u) (h1 : ∀ u ∈ news, u.oneCell' = true)
    (hn : n + m ≤ 4294967296) (hby : bytes ≤ 4096) (hbase : base ≤ w.heap.size)
    (h : ∀ v' w', w'.ownsRow base e size v' (n + m) (xs ++ news) → Below base w w' → wpList P ops Q rest (a.put o.dst v') w') : wpList P ops Q (o :: rest) a w := by
  obtain ⟨v', w', hr, h2, h3, _⟩ := exec_append_own (P := P) s x t e hT ho base v n xs hs hown ad m c news hx hl hnews h1 hn hby hbase
  exact wpList_run hgd hr (h v' w' h2 h3)
theorem grownBy_setRow (w : World) (g : Nat) (cs : Array Value) : w.grownBy (w.setRow g cs) (some g) :=
  ⟨rfl, rfl, rfl, by simp [World.setRow], fun k _ hk => setRow_other w g k cs (fun e => hk (by simp [e]))⟩
theorem exec_copyK (w : World) {o : Oper} {a : Act} (d s : Operand) (dT sT elem : TypeId) (size : Nat) (hu : P.underlying dT = some (.slice elem)) (hsz : (P.info? elem).map (·.size) = some size)
    (ho : o.op = .call { callee := .builtin .copy, args := #[d, s], argTypes := #[dT, sT] })
    (g off dLen dCap : Nat) (ad : Addr) (sLen sCap : Nat) (hd : a.eval d = .slice (some ⟨g, off, none⟩) dLen dCap) (hs : a.eval s = .slice (some ad) sLen sCap)
    (cur : List Value) (t : TypeId) (cs : List Value)
    (hg : w.heap[g]? = some (.cells cur.toArray t (0, 0))) (hn : cs.length = Nat.min sLen dLen * size)
    (hsrc : ∀ j v, cs[j]? = some v → w.cell? (ad.add j) = some v) (hfit : off + cs.length ≤ cur.length) (h1 : ∀ v ∈ cs, v.oneCell' = true) :
    ∃ w', (execOp a.eval o).run P w = .ok (.value (goInt (Nat.min sLen dLen))) w' ∧ w'.heap[g]? = some (.cells (splice cur off cs).toArray t (0, 0)) ∧ w.grownBy w' (some g) :=
  ⟨_, exec_copy d s dT sT ho _ _ hd hs (run_copyK (P := P) w dT sT o.type elem size hu hsz g off dLen dCap ad sLen sCap cur t cs hg hn hsrc hfit h1),
    setRow_heap w g _ _ t _ hg, grownBy_setRow w g _⟩
theorem wpList_copyK {w : World} {ops : Array Oper} {rest : List Oper} {o : Oper} {a : Act} {Q : Exit → Act → World → Prop} (hgd : o.guard = none) (d s : Operand) (dT sT elem : TypeId) (size : Nat) (hu : P.underlying dT = some (.slice elem)) (hsz : (P.info? elem).map (·.size) = some size)
    (ho : o.op = .call { callee := .builtin .copy, args := #[d, s], argTypes := #[dT, sT] })
    (g off dLen dCap : Nat) (ad : Addr) (sLen sCap : Nat) (hd : a.eval d = .slice (some ⟨g, off, none⟩) dLen dCap) (hs : a.eval s = .slice (some ad) sLen sCap)
    (cur : List Value) (t : TypeId) (cs : List Value)
    (hg : w.heap[g]? = some (.cells cur.toArray t (0, 0))) (hn : cs.length = Nat.min sLen dLen * size)
    (hsrc : ∀ j v, cs[j]? = some v → w.cell? (ad.add j) = some v) (hfit : off + cs.length ≤ cur.length) (h1 : ∀ v ∈ cs, v.oneCell' = true)
    (h : ∀ w', Hid (w'.heap[g]? = some (.cells (splice cur off cs).toArray t (0, 0))) → w.grownBy w' (some g) → wpList P ops Q rest (a.put o.dst (goInt (Nat.min sLen dLen))) w') : wpList P ops Q (o :: rest) a w := by
  obtain ⟨w', hr, h2, h3⟩ := exec_copyK (P := P) w d s dT sT elem size hu hsz ho g off dLen dCap ad sLen sCap hd hs cur t cs hg hn hsrc hfit h1
  exact wpList_run hgd hr (h w' h2 h3)
theorem step_copyK {w : World} {ops : Array Oper} {o : Oper} {a : Act} {K : Act → World → Prop} {Q : Exit → Act → World → Prop} {E : Prop} (hgd : o.guard = none) (d s : Operand) (dT sT elem : TypeId) (size : Nat) (hu : P.underlying dT = some (.slice elem)) (hsz : (P.info? elem).map (·.size) = some size)
    (ho : o.op = .call { callee := .builtin .copy, args := #[d, s], argTypes := #[dT, sT] })
    (g off dLen dCap : Nat) (ad : Addr) (sLen sCap : Nat) (hd : a.eval d = .slice (some ⟨g, off, none⟩) dLen dCap) (hs : a.eval s = .slice (some ad) sLen sCap)
    (cur : List Value) (t : TypeId) (cs : List Value)
    (hg : w.heap[g]? = some (.cells cur.toArray t (0, 0))) (hn : cs.length = Nat.min sLen dLen * size)
    (hsrc : ∀ j v, cs[j]? = some v → w.cell? (ad.add j) = some v) (hfit : off + cs.length ≤ cur.length) (h1 : ∀ v ∈ cs, v.oneCell' = true)
    (h : ∀ w', Hid (w'.heap[g]? = some (.cells (splice cur off cs).toArray t (0, 0))) → w.grownBy w' (some g) → K (a.put o.dst (goInt (Nat.min sLen dLen))) w') :
    if Region.wanted o (yielded ops a.tmps) = true then Oper.wp P o a w K Q else E := by
  obtain ⟨w', hr, h2, h3⟩ := exec_copyK (P := P) w d s dT sT elem size hu hsz ho g off dLen dCap ad sLen sCap hd hs cur t cs hg hn hsrc hfit h1
  exact step_run hgd hr (h w' h2 h3)
theorem wpList_append_zeros {w : World} {ops : Array Oper} {rest : List Oper} {o : Oper} {a : Act} {Q : Exit → Act → World → Prop} (hgd : o.guard = none) (d s : Operand) (t tn e : TypeId) {size bytes : Nat} (hT : ElemT P t e size bytes) (kn : IntKind) (htn : P.underlying tn = some (.int kn))
    (ho : o.op = .call { callee := .builtin .append, args := #[d, s], argTypes := #[t, tn] })
    (b : Addr) (n cap : Nat) (xs : List Value) (hx : xs.length = n * size) (holds : ∀ j u, xs[j]? = some u → w.cell? (b.add j) = some u)
    (m : Nat) (h0 : 0 < m) (hcap : cap < n + m) (h63 : n + m ≤ 4294967296) (hby : bytes ≤ 4096) (hd : a.eval d = .slice (some b) n cap) (hs : a.eval s = .int .i64 m)
    (h : ∀ w' C zs, n + m ≤ C → C ≤ maxLen → xs.length + zs.length = C * size → Hid (w'.heap[w.heap.size]? = some (.cells (xs ++ zs).toArray e (0, 0))) → w.grownBy w' none → wpList P ops Q rest (a.put o.dst (.slice (some ⟨w.heap.size, 0, none⟩) (n + m) C)) w') :
    wpList P ops Q (o :: rest) a w := by
  obtain ⟨i, z, ht, hi, hz, hsize, hbytes, hzs, hsz⟩ := hT.ex
  subst hsize hbytes
  have hr := run_append_zeros (P := P) w t tn o.type e i z kn ht htn hi hz b n cap xs hx holds m h0 hcap hsz h63 hby
  have hge := grownCap_ge w (n + m) cap e
  have hcm : grownCap w (n + m) cap e ≤ maxLen := grownCap_le_maxLen w (n + m) cap e (by unfold maxLen; omega)
  have e1 : xs.toArray ++ Builtin.zeroCells z.cells m ++ Builtin.zeroCells z.cells (grownCap w (n + m) cap e - (n + m)) = (xs ++ ((Builtin.zeroCells z.cells m).toList ++ (Builtin.zeroCells z.cells (grownCap w (n + m) cap e - (n + m))).toList)).toArray := by
    apply Array.ext'
    simp
  rw [e1] at hr
  refine wpList_run hgd (exec_append d s t tn ho _ _ hd hs hr) (h _ _ _ hge hcm ?_ (heap_alloc_new w.drew _) ⟨rfl, rfl, rfl, by simp, fun k hk _ => heap_alloc_old w.drew _ hk⟩)
  simp only [hx, List.length_append, Array.length_toList, size_zeroCells, hzs, ← Nat.add_mul]
  congr 1
  omega
theorem grown_same {w w' : World} {row : Option Nat} (h : w.grownBy w' row) {k : Nat} {ob : Obj} (hk : w.heap[k]? = some ob) (hne : some k ≠ row) : w'.heap[k]? = some ob :=
  (h.block k (Array.getElem?_eq_some_iff.1 hk).1 hne).trans hk
theorem grown_below {w w' : World} {row : Option Nat} (h : w.grownBy w' row) {B : Nat} (hB : B ≤ w.heap.size) (hr : ∀ k, row = some k → B ≤ k) : Below B w w' := (Below.refl _ _).grown h hB hr
theorem owns_of_cur {w : World} {base g n cap size : Nat} {e : TypeId} {cur ys : List Value} (hc : w.heap[g]? = some (.cells cur.toArray e (0, 0))) (hb : base ≤ g) (hn : n ≤ cap) (hm : cap ≤ maxLen) (hl : cur.length = cap * size)
    (hy : cur.take (n * size) = ys) : w.ownsRow base e size (.slice (some ⟨g, 0, none⟩) n cap) n ys := by
  refine ⟨?_, .inr ⟨g, cap, cur.toArray, rfl, hb, hc, hn, hm, by simpa using hl, by simpa using hy⟩⟩
  rw [← hy, List.length_take, hl]
  exact Nat.min_eq_left (Nat.mul_le_mul_right _ hn)
theorem splice_at {A Z B : List Value} {k : Nat} (hk : k = A.length) : splice (A ++ Z) k B = A ++ B ++ Z.drop B.length := by
  subst hk
  simp [splice, List.drop_append]
theorem take_len {A Z : List Value} {k : Nat} (hk : k = A.length) : (A ++ Z).take k = A := by subst hk; simp
theorem splice_shift {A D Z X : List Value} (h : X.length ≤ Z.length) : splice (splice (A ++ D ++ Z) (A.length + X.length) D) A.length X = A ++ X ++ D ++ Z.drop X.length := by
  have e1 : splice (A ++ D ++ Z) (A.length + X.length) D = A ++ ((D ++ Z).take X.length ++ D ++ Z.drop X.length) := by
    unfold splice
    have f1 : (A ++ D ++ Z).take (A.length + X.length) = A ++ (D ++ Z).take X.length := by rw [List.append_assoc, List.take_append, List.take_of_length_le (by omega), Nat.add_sub_cancel_left]
    have f2 : (A ++ D ++ Z).drop (A.length + X.length + D.length) = Z.drop X.length := by
      rw [List.drop_append, List.drop_of_length_le (by simp)]
      simp only [List.length_append, List.nil_append]
      congr 1
      omega
    rw [f1, f2]
    simp
  rw [e1, splice_at rfl]
  have f3 : ((D ++ Z).take X.length ++ D ++ Z.drop X.length).drop X.length = D ++ Z.drop X.length := by
    rw [List.append_assoc, List.drop_append, List.drop_of_length_le (by rw [List.length_take]; omega), List.length_take, List.length_append]
    rw [show X.length - min X.length (D.length + Z.length) = 0 by omega]
    simp
  rw [f3]
  simp
theorem cells_row {w : World} {g off : Nat} {A B C : List Value} {e : TypeId} {fr : Nat × Nat} (hc : w.heap[g]? = some (.cells (A ++ B ++ C).toArray e fr)) (ho : off = A.length) : ∀ j u, B[j]? = some u → w.cell? ((⟨g, off, none⟩ : Addr).add j) = some u := by
  intro j u hj
  have hj2 := (List.getElem?_eq_some_iff.1 hj).1
  subst ho
  rw [addr_add]
  simp only [World.cell?, hc]
  simp only [List.getElem?_toArray]
  rw [List.append_assoc, List.getElem?_append_right (by omega), List.getElem?_append_left (by omega)]
  simpa using hj
theorem wpList_append_room {w : World} {ops : Array Oper} {rest : List Oper} {o : Oper} {a : Act} {Q : Exit → Act → World → Prop} (hgd : o.guard = none) (s x : Operand) (t e : TypeId) {size bytes : Nat} (hT : ElemT P t e size bytes)
    (ho : o.op = .call { callee := .builtin .append, args := #[s, x], argTypes := #[t, t] })
    (g n cap : Nat) (hs : a.eval s = .slice (some ⟨g, 0, none⟩) n cap) (cur : List Value) (hg : w.heap[g]? = some (.cells cur.toArray e (0, 0)))
    (ad : Addr) (m c : Nat) (news : List Value) (hx : a.eval x = .slice (some ad) m c) (hl : news.length = m * size) (hnews : ∀ j u, news[j]? = some u → w.cell? (ad.add j) = some u) (h1 : ∀ u ∈ news, u.oneCell' = true)
    (hroom : n + m ≤ cap) (hfit : n * size + news.length ≤ cur.length)
    (h : ∀ w', Hid (w'.heap[g]? = some (.cells (splice cur (n * size) news).toArray e (0, 0))) → w.grownBy w' (some g) → wpList P ops Q rest (a.put o.dst (.slice (some ⟨g, 0, none⟩) (n + m) cap)) w') : wpList P ops Q (o :: rest) a w := by
  obtain ⟨i, z, ht, hi, hz, hsize, hbytes, hzs, hsz⟩ := hT.ex
  subst hsize
  have hr := run_append_room (P := P) w t o.type e i ht hi g n cap cur.toArray hg ad m c news hl hnews h1 hroom (by simpa using hfit)
  refine wpList_run hgd (exec_append s x t t ho _ _ hs hx hr) (h _ ?_ (grownBy_setRow w g _))
  refine (setRow_heap w g _ _ e _ hg).trans ?_
  simp [splice]
theorem run_clearK (w : World) (t e ty : TypeId) {size bytes : Nat} (hT : ElemT P t e size bytes) (g off n c : Nat) (hn : 0 < n) (cur : List Value) (hg : w.heap[g]? = some (.cells cur.toArray e (0, 0))) (hfit : off + n * size ≤ cur.length)
    (hv : ∃ z : Value, (∀ w, (zeroValue e).run P w = .ok z w) ∧ z.cells.size = size ∧ ∀ u ∈ (Builtin.zeroCells z.cells n).toList, u.oneCell' = true) :
    ∃ zs : List Value, zs.length = n * size ∧ (Builtin.clear_ #[t] ty #[.slice (some ⟨g, off, none⟩) n c]).run P w = .ok (.tuple #[]) (w.setRow g (splice cur off zs).toArray) := by
  obtain ⟨i, z0, ht, hi, hz, hsize, hbytes, hzs, hsz⟩ := hT.ex
  obtain ⟨z, hzv, hz2, h1⟩ := hv
  refine ⟨(Builtin.zeroCells z.cells n).toList, by rw [Array.length_toList, size_zeroCells, hz2], ?_⟩
  have hlen : (Builtin.zeroCells z.cells n).toList.length = n * size := by rw [Array.length_toList, size_zeroCells, hz2]
  have hst := run_storeCells_at P g off e (Builtin.zeroCells z.cells n).toList 0 cur.toArray w hg (by rw [hlen]; simpa using hfit) h1
  cases n with
  | zero => omega
  | succ n =>
    simp only [Nat.add_zero, List.append_assoc] at hst
    simp [Builtin.clear_, run_underlying ht, hzv, hst, splice]
theorem exec_clear {w w' : World} {o : Oper} {a : Act} {v' : Value} (d : Operand) (dT : TypeId) (ho : o.op = .call { callee := .builtin .clear, args := #[d], argTypes := #[dT] })
    (vd : Value) (hd : a.eval d = vd) (hr : (Builtin.clear_ #[dT] o.type #[vd]).run P w = .ok v' w') : (execOp a.eval o).run P w = .ok (.value v') w' := by
  simp [execOp, ho, resolve, invoke, builtin, hd, hr, Result.andThen]
theorem wpList_clearK {w : World} {ops : Array Oper} {rest : List Oper} {o : Oper} {a : Act} {Q : Exit → Act → World → Prop} (hgd : o.guard = none) (s : Operand) (t e : TypeId) {size bytes : Nat} (hT : ElemT P t e size bytes)
    (ho : o.op = .call { callee := .builtin .clear, args := #[s], argTypes := #[t] })
    (g off n c : Nat) (hs : a.eval s = .slice (some ⟨g, off, none⟩) n c) (hn : 0 < n) (cur : List Value) (hg : w.heap[g]? = some (.cells cur.toArray e (0, 0))) (hfit : off + n * size ≤ cur.length)
    (hv : ∃ z : Value, (∀ w, (zeroValue e).run P w = .ok z w) ∧ z.cells.size = size ∧ ∀ u ∈ (Builtin.zeroCells z.cells n).toList, u.oneCell' = true)
    (h : ∀ w' zs, zs.length = n * size → Hid (w'.heap[g]? = some (.cells (splice cur off zs).toArray e (0, 0))) → w.grownBy w' (some g) → wpList P ops Q rest (a.put o.dst (.tuple #[])) w') : wpList P ops Q (o :: rest) a w := by
  obtain ⟨zs, hl, hr⟩ := run_clearK (P := P) w t e o.type hT g off n c hn cur hg hfit hv
  exact wpList_run hgd (exec_clear s t ho _ hs hr) (h _ zs hl (setRow_heap w g _ _ e _ hg) (grownBy_setRow w g _))
theorem zeroCells_mem {z : Value} {n : Nat} (h : ∀ u ∈ z.cells.toList, u.oneCell' = true) : ∀ u ∈ (Builtin.zeroCells z.cells n).toList, u.oneCell' = true := by
  intro u hu
  simp only [Builtin.zeroCells, Array.toList_map, List.mem_map] at hu
  obtain ⟨i, hi, rfl⟩ := hu
  have hi2 : i < n * z.cells.size := by simpa using hi
  have hp : 0 < z.cells.size := by
    rcases Nat.eq_zero_or_pos z.cells.size with e | e
    · rw [e] at hi2; simp at hi2
    · exact e
  have hlt := Nat.mod_lt i hp
  rw [getElem!_pos z.cells _ hlt]
  exact h _ (by simp)
theorem run_append_nothing (w : World) (t ty e : TypeId) {size bytes : Nat} (hT : ElemT P t e size bytes) (ba : Option Addr) (n cap : Nat) (hn : n ≤ cap) (ad : Option Addr) (c : Nat) :
    (Builtin.append_ #[t, t] ty #[.slice ba n cap, .slice ad 0 c]).run P w = .ok (.slice ba n cap) w := by
  obtain ⟨i, z, ht, hi, hz, hsize, hbytes, hzs, hsz⟩ := hT.ex
  cases ba <;> cases ad <;> simp [Builtin.append_, run_underlying ht, sizeOf, typeInfo, hi, Builtin.lenOf, Builtin.firstCells, loadCells, loadCellsFrom, hn, storeCells]
theorem wpList_append_row {w : World} {ops : Array Oper} {rest : List Oper} {o : Oper} {a : Act} {Q : Exit → Act → World → Prop} (hgd : o.guard = none) (s x : Operand) (t e : TypeId) {size bytes : Nat} (hT : ElemT P t e size bytes)
    (ho : o.op = .call { callee := .builtin .append, args := #[s, x], argTypes := #[t, t] })
    (base : Nat) (v : Value) (n : Nat) (xs : List Value) (hs : a.eval s = v) (hown : w.ownsRow base e size v n xs)
    (ad : Option Addr) (m c : Nat) (news : List Value) (hx : a.eval x = .slice ad m c) (hl : news.length = m * size) (hrow : Row w ad news) (h1 : ∀ u ∈ news, u.oneCell' = true)
    (hn : n + m ≤ 4294967296) (hby : bytes ≤ 4096) (hbase : base ≤ w.heap.size)
    (h : ∀ v' w', w'.ownsRow base e size v' (n + m) (xs ++ news) → Below base w w' → wpList P ops Q rest (a.put o.dst v') w') : wpList P ops Q (o :: rest) a w := by
  by_cases hm : m = 0
  · subst hm
    have hnil : news = [] := List.eq_nil_of_length_eq_zero (by simpa using hl)
    subst hnil
    obtain ⟨ba, cap, hv, _, hnc, _⟩ := Row.of_owns hown
    subst hv
    refine wpList_run hgd (exec_append s x t t ho _ _ hs hx (run_append_nothing (P := P) w t o.type e hT ba n cap hnc ad c)) (h _ _ ?_ (Below.refl _ _))
    simpa using hown
  · obtain ⟨i, z, ht, hi, hz, hsize, hbytes, hzs, hsz⟩ := hT.ex
    have hpos : 0 < news.length := by rw [hl]; exact Nat.mul_pos (by omega) hsz
    obtain ⟨b, off, rfl, hc⟩ := hrow.at hpos
    refine wpList_appendN hgd s x t e hT ho base v n xs hs hown ⟨b, off, none⟩ m c news hx hl (fun j u hj => ?_) h1 hn hby hbase h
    rw [addr_add]
    exact hc j u hj
theorem owns_some {w : World} {base n size : Nat} {e : TypeId} {v : Value} {xs : List Value} (h : w.ownsRow base e size v n xs) (hn : 0 < n) : ∃ g cap, v = .slice (some ⟨g, 0, none⟩) n cap ∧ base ≤ g := by
  obtain ⟨_, ⟨_, h⟩ | ⟨g, cap, cur, hv, hg, _⟩⟩ := h
  · omega
  · exact ⟨g, cap, hv, hg⟩
theorem owns_empty (w : World) (e : TypeId) (size : Nat) : (w.alloc (.cells #[] e)).ownsRow w.heap.size e size (.slice (some ⟨w.heap.size, 0, none⟩) 0 0) 0 [] :=
  owns_of_cur (cur := []) (heap_alloc_new w _) (Nat.le_refl _) (Nat.le_refl _) (by simp) (by simp) (by simp)
end Go.Proofs.YtddddemclhlfaaaGreatDoor
namespace Go.Proofs.YtddddemclhlfaaaGreatDoor
open Go.RowKit
theorem owns_after {w w' : World} {base n size : Nat} {e : TypeId} {v : Value} {xs : List Value} (h : w.ownsRow base e size v n xs) (hb : Below w.heap.size w w') : w'.ownsRow base e size v n xs := by
  obtain ⟨hl, h | ⟨g, cap, cur, hv, hg, hc, r⟩⟩ := h
  · exact ⟨hl, .inl h⟩
  · exact ⟨hl, .inr ⟨g, cap, cur, hv, hg, (hb.block g (Array.getElem?_eq_some_iff.1 hc).1).trans hc, r⟩⟩
end Go.Proofs.YtddddemclhlfaaaGreatDoor
namespace Go.Proofs.YtddddemclhlfaaaGreatDoor
open Go.RowKit
open Classical in
noncomputable def Under (w x : World) : World := if Below w.heap.size w x then x else w
theorem under_below (w x : World) : Below w.heap.size w (Under w x) := by
  unfold Under
  split
  · assumption
  · exact Below.refl _ _
theorem under_of {w y : World} (h : Below w.heap.size w y) : y = Under w y := by
  unfold Under
  rw [if_pos h]
theorem under_cell {w : World} {p : Addr} {v : Value} (h : w.cell? p = some v) : ∀ x, (Under w x).cell? p = some v := fun x => by
  have h2 := World.block_lt_of_cell? _ _ h
  rw [(under_below w x).cell h2]
  exact h
theorem under_row {w : World} {a : Option Addr} {xs : List Value} (h : Row w a xs) : ∀ x, Row (Under w x) a xs := fun x => h.below0 (under_below w x)
theorem under_call {P : Program} {f : FuncId} {args : Array Value} {w x : World} {v : Value}
    (h : Calls P f args (Under w x) fun e w' => e = .returned v ∧ Below (Under w x).heap.size (Under w x) w') : Calls P f args (Under w x) fun e w'' => e = .returned v ∧ ∃ y, w'' = Under w y :=
  h.mono fun _ w' ⟨he, hb⟩ => ⟨he, w', under_of ((under_below w x).trans (hb.mono (under_below w x).size))⟩
theorem under_same {P : Program} {f : FuncId} {args : Array Value} {w x : World} {v : Value}
    (h : Calls P f args (Under w x) fun e w' => e = .returned v ∧ Under w x = w') : Calls P f args (Under w x) fun e w'' => e = .returned v ∧ ∃ y, w'' = Under w y :=
  h.mono fun _ _ ⟨he, hm⟩ => ⟨he, x, hm.symm⟩
theorem under_drew {P : Program} {f : FuncId} {args : Array Value} {w x : World} {v : Value}
    (h : Calls P f args (Under w x) fun e w' => e = .returned v ∧ ∃ n, w' = (Under w x).drewN n) : Calls P f args (Under w x) fun e w'' => e = .returned v ∧ ∃ y, w'' = Under w y :=
  under_call (h.mono fun _ _ ⟨he, n, hm⟩ => ⟨he, by subst hm; exact below_drewN (Below.refl _ _) n⟩)
theorem wp_region_under {P : Program} {id : Nat} {Q : Exit → Act → World → Prop} {a : Act} {w : World} {l : List Oper} (hm : P.follows .mixedOrders = true) (hB : Region.lexB .any l.toArray = true)
    (h : wpQuiet P l.toArray (fun w' => ∃ x, w' = Under w x) (fun a' => ∀ w', (∃ x, w' = Under w x) → Q .normal a' w') l a) : (Code.region id l.toArray true).wp P Q a w :=
  wp_region_quiet (C := fun w' => ∃ x, w' = Under w x) hm hB ⟨_, under_of ((Below.refl _ _).drew)⟩ (by simpa using h)
end Go.Proofs.YtddddemclhlfaaaGreatDoor
namespace Go.Proofs.YtddddemclhlfaaaGreatDoor
open Go.RowKit
theorem size_nil (w : World) : Calls Tryz.prog 46 #[.pointer none] w fun e w' => e = .returned (.int .i64 0) ∧ w = w' := by
  go_enter Tryz.func46, Tryz.ntmps46
  go_wp2
  go_ret
  exact ⟨rfl, rfl⟩
theorem size_at (g n cap : Nat) (a : Option Addr) (w : World) (hc : w.cell? ⟨g, 0, none⟩ = some (.slice a n cap)) : Calls Tryz.prog 46 #[.pointer (some ⟨g, 0, none⟩)] w fun e w' => e = .returned (.int .i64 n) ∧ w = w' := by
  go_enter Tryz.func46, Tryz.ntmps46
  go_wp2
  go_ret
  exact ⟨rfl, rfl⟩
def DiskN (w : World) (p : Value) (n : Nat) : Prop := (p = .pointer none ∧ n = 0) ∨ ∃ g a cap, p = .pointer (some ⟨g, 0, none⟩) ∧ w.cell? ⟨g, 0, none⟩ = some (.slice a n cap)
theorem DiskN.below {w w' : World} {p : Value} {n : Nat} (h : DiskN w p n) (hb : Below w.heap.size w w') : DiskN w' p n := by
  rcases h with h | ⟨g, a, cap, hp, hc⟩
  · exact .inl h
  · exact .inr ⟨g, a, cap, hp, (hb.cell (World.block_lt_of_cell? _ _ hc)).trans hc⟩
theorem size_any (p : Value) (n : Nat) (w : World) (h : DiskN w p n) : Calls Tryz.prog 46 #[p] w fun e w' => e = .returned (.int .i64 n) ∧ w = w' := by
  rcases h with ⟨rfl, rfl⟩ | ⟨g, a, cap, rfl, hc⟩
  · exact size_nil w
  · exact size_at g n cap a w hc
abbrev regV : Value := .agg #[.int .i64 0, .int .i64 0, .int .i64 2, .int .i64 1, .int .i64 2, .int .i64 1, .int .i64 24, .int .i64 1, .int .i64 48, .int .i64 2, .int .i64 16, .int .i64 2]
set_option maxRecDepth 100000 in
theorem regions_any (w : World) : Calls Tryz.prog 129 #[] w fun e w' => e = .returned regV ∧ Below w.heap.size w w' := by
  go_enter Tryz.func129, Tryz.ntmps129
  go_wp2
  (try simp only [Exit.inBlock, Exit.then])
  refine bodyPost_ret (v := regV) ?hr rfl ⟨rfl, ?_⟩
  case hr =>
    simp only [results, Tryz.results129]
    go_simp
    try rfl
  (repeat' (first | (with_reducible exact Below.refl _ _) | (with_reducible assumption) | (with_reducible refine Below.alloc ?_ ?_ _) | (with_reducible refine Below.drew ?_) | (with_reducible refine below_drewN ?_ _) | (with_reducible refine Below.setCell ?_ ?_ _) | (with_reducible refine Below.trans ?_ (by assumption)) | go_size))
def atP (k : Nat) : Int := [(0 : Int), 0, 2, 4, 28, 124, 156].getD k 156
set_option maxRecDepth 100000 in
set_option maxHeartbeats 2000000 in
theorem all_start (w : World) : Calls Tryz.prog 96 #[.int .i64 (-1)] w fun e w' => e = .returned (.int .i64 156) ∧ Below w.heap.size w w' := by
  have i0 : ∀ w, (Instr.index 190 regV (.int .i64 0)).run Tryz.prog w = .ok (.agg #[.int .i64 0, .int .i64 0]) w := fun _ => by kernel_rfl
  have i1 : ∀ w, (Instr.index 190 regV (.int .i64 1)).run Tryz.prog w = .ok (.agg #[.int .i64 2, .int .i64 1]) w := fun _ => by kernel_rfl
  have i2 : ∀ w, (Instr.index 190 regV (.int .i64 2)).run Tryz.prog w = .ok (.agg #[.int .i64 2, .int .i64 1]) w := fun _ => by kernel_rfl
  have i3 : ∀ w, (Instr.index 190 regV (.int .i64 3)).run Tryz.prog w = .ok (.agg #[.int .i64 24, .int .i64 1]) w := fun _ => by kernel_rfl
  have i4 : ∀ w, (Instr.index 190 regV (.int .i64 4)).run Tryz.prog w = .ok (.agg #[.int .i64 48, .int .i64 2]) w := fun _ => by kernel_rfl
  have i5 : ∀ w, (Instr.index 190 regV (.int .i64 5)).run Tryz.prog w = .ok (.agg #[.int .i64 16, .int .i64 2]) w := fun _ => by kernel_rfl
  go_enter Tryz.func96, Tryz.ntmps96
  refine wp_seq_k (fun K hK => ?_)
  have HK := Lib.hid hK
  clear hK
  go_wp2
  refine HK.out _ _ ?_
  clear HK
  refine wp_seq_k (fun K hK => ?_)
  have HK := Lib.hid hK
  clear hK
  go_wp2
  refine HK.out _ _ ?_
  clear HK
  go_wp2_with (go_at_call 129; refine (regions_any _).mono ?_; rintro e w1 ⟨rfl, hb1⟩)
  go_loopw [3, 7] (fun t i wr => ∃ k : Nat, k ≤ 6 ∧ i = .int .i64 k ∧ t = .int .i64 (atP k) ∧ Below w.heap.size w wr) (fun _ i _ => 6 - (intOf i).toNat)
  case atStart => exact ⟨0, by omega, rfl, rfl, hb1⟩
  case round =>
    obtain ⟨k, hk, rfl, rfl, hbr⟩ := hrel
    have hbs := hbr.size
    have h7 : k = 0 ∨ k = 1 ∨ k = 2 ∨ k = 3 ∨ k = 4 ∨ k = 5 ∨ k = 6 := by omega
    rcases h7 with rfl | rfl | rfl | rfl | rfl | rfl | rfl
    · have ha : atP 0 = 0 := rfl
      rw [ha]
      go_wp2
      go_roundw
      case rel => exact ⟨1, by omega, by rfl, by rfl, by (repeat' (first | (with_reducible exact Below.refl _ _) | (with_reducible assumption) | (with_reducible refine Below.alloc ?_ ?_ _) | (with_reducible refine Below.drew ?_) | (with_reducible refine below_drewN ?_ _) | (with_reducible refine Below.setCell ?_ ?_ _) | (with_reducible refine Below.trans ?_ (by assumption)) | go_size))⟩
      case measure => simp [intOf]
    · have ha : atP 1 = 0 := rfl
      rw [ha]
      go_wp2
      go_roundw
      case rel => exact ⟨2, by omega, by rfl, by rfl, by (repeat' (first | (with_reducible exact Below.refl _ _) | (with_reducible assumption) | (with_reducible refine Below.alloc ?_ ?_ _) | (with_reducible refine Below.drew ?_) | (with_reducible refine below_drewN ?_ _) | (with_reducible refine Below.setCell ?_ ?_ _) | (with_reducible refine Below.trans ?_ (by assumption)) | go_size))⟩
      case measure => simp [intOf]
    · have ha : atP 2 = 2 := rfl
      rw [ha]
      go_wp2
      go_roundw
      case rel => exact ⟨3, by omega, by rfl, by rfl, by (repeat' (first | (with_reducible exact Below.refl _ _) | (with_reducible assumption) | (with_reducible refine Below.alloc ?_ ?_ _) | (with_reducible refine Below.drew ?_) | (with_reducible refine below_drewN ?_ _) | (with_reducible refine Below.setCell ?_ ?_ _) | (with_reducible refine Below.trans ?_ (by assumption)) | go_size))⟩
      case measure => simp [intOf]
    · have ha : atP 3 = 4 := rfl
      rw [ha]
      go_wp2
      go_roundw
      case rel => exact ⟨4, by omega, by rfl, by rfl, by (repeat' (first | (with_reducible exact Below.refl _ _) | (with_reducible assumption) | (with_reducible refine Below.alloc ?_ ?_ _) | (with_reducible refine Below.drew ?_) | (with_reducible refine below_drewN ?_ _) | (with_reducible refine Below.setCell ?_ ?_ _) | (with_reducible refine Below.trans ?_ (by assumption)) | go_size))⟩
      case measure => simp [intOf]
    · have ha : atP 4 = 28 := rfl
      rw [ha]
      go_wp2
      go_roundw
      case rel => exact ⟨5, by omega, by rfl, by rfl, by (repeat' (first | (with_reducible exact Below.refl _ _) | (with_reducible assumption) | (with_reducible refine Below.alloc ?_ ?_ _) | (with_reducible refine Below.drew ?_) | (with_reducible refine below_drewN ?_ _) | (with_reducible refine Below.setCell ?_ ?_ _) | (with_reducible refine Below.trans ?_ (by assumption)) | go_size))⟩
      case measure => simp [intOf]
    · have ha : atP 5 = 124 := rfl
      rw [ha]
      go_wp2
      go_roundw
      case rel => exact ⟨6, by omega, by rfl, by rfl, by (repeat' (first | (with_reducible exact Below.refl _ _) | (with_reducible assumption) | (with_reducible refine Below.alloc ?_ ?_ _) | (with_reducible refine Below.drew ?_) | (with_reducible refine below_drewN ?_ _) | (with_reducible refine Below.setCell ?_ ?_ _) | (with_reducible refine Below.trans ?_ (by assumption)) | go_size))⟩
      case measure => simp [intOf]
    · have ha : atP 6 = 156 := rfl
      rw [ha]
      go_wp2
      go_ret
      exact ⟨rfl, hbr⟩
set_option maxRecDepth 100000 in
theorem all_any (w : World) : Calls Tryz.prog 108 #[] w fun e w' => e = .returned (.int .i64 156) ∧ Below w.heap.size w w' := by
  go_enter Tryz.func108, Tryz.ntmps108
  go_wp2_with (go_at_call 96; refine (all_start _).mono ?_; rintro e w1 ⟨rfl, hb1⟩)
  go_ret
  exact ⟨rfl, hb1⟩
end Go.Proofs.YtddddemclhlfaaaGreatDoor
