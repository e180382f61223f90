/- Texts that the claim leans on, part 1: Kit, O0, X1, X15, Mem, Own, Under, D0. -/
import Derived.WalkKit
import Derived.WalkSpells
import Derived.WalkLawsBesides
import Derived.Handy
import Derived.Lib.Hide
import Derived.ProofKit
import Derived.Deep.QuietTactic
import Derived.OpenShut
import Derived.Laws.CopyOwn
import Derived.Laws.CopyRow
import Derived.Laws.NewBlocks
import Derived.Deep.RegionLaw
import Derived.Test.YtddddemclhlfaaaGreatDoorRows
import Derived.BigQuiet
import Derived.Deep.DeepCutAuto
import Derived.RegionTactic
import Derived.ChangeAlike
import Derived.Laws.ResultCell
import Derived.Outline
namespace Go.Proofs.YtddddemclhlfaaaGreatDoor
open Go.ChangeShapes Go.WideShapes Go.ChangeAt Go.RowKit
theorem ret_int {k : IntKind} {a b : Int} (h : a = b) : Ending.returned (.int k a) = .returned (.int k b) := by rw [h]
theorem int_eq {k : IntKind} {a b : Int} (h : a = b) : Value.int k a = .int k b := by rw [h]
theorem ret_bool {a b : Bool} (h : a = b) : Ending.returned (.bool a) = .returned (.bool b) := by rw [h]
section
variable {H : Type} {enc : TypeId × Value → H} {P : Program}
theorem trodAll_below (hl : laidOutB P = true) {W W' : World} (hb : Below W.heap.size W W') {sp : Nat → Bool} :
    ∀ (ts : List TypeId) (vs : List Value) (ds : List (DataW H)) (ps : List MemPlace),
      (ts.all fun t => P.readableRec t && decide (t < P.types.size)) = true →
      DataW.TrodAll enc P W 0 (fun _ => true) true ts vs ds ps → (∀ x ∈ ps, x.block < W.heap.size) → (∀ x ∈ ps, sp x.block = true) → DataW.TrodAll enc P W' 0 sp true ts vs ds ps
  | [], vs, ds, ps, _, h, _, _ => by
    cases vs <;> cases ds <;> simp [DataW.TrodAll] at h ⊢
    exact h
  | t :: ts, vs, ds, ps, hr, h, hlt, hs => by
    obtain ⟨v, vs', d, ds', p, q, rfl, rfl, rfl, h1, h2⟩ := trodAll_cons h
    simp only [List.all_cons, Bool.and_eq_true, decide_eq_true_eq] at hr
    refine trodAll_cons_mk ?_ (trodAll_below hl hb ts vs' ds' q hr.2 h2 (fun x hx => hlt x (by simp [hx])) (fun x hx => hs x (by simp [hx])))
    exact WideElems.Trod_stays hl hr.1.1 hr.1.2 h1 (fun x hx => hb.same (hlt x (by simp [hx]))) (fun x hx => hs x (by simp [hx]))
theorem law_post {f : Func} {s : ChangeSpec} {W W' : World} {args : Array Value} {tb : TypeId} {ds gs : List (DataW H)} {before : List MemPlace}
    (hl : laidOutB P = true) (hp : (f.params.toList.all fun t => P.readableRec t && decide (t < P.types.size)) = true)
    (hr : f.resultTypes = #[tb]) (hub : P.underlying tb = some .bool) (hvars : s.vars = [])
    (hspec : (s.fn H (ds ++ [])).results = [.lit (.bool true)] ∧ (s.fn H (ds ++ [])).args = ds ∧ (s.fn H (ds ++ [])).vars = [])
    (hW : DataW.Whole enc P f.params.toList s.vars false W args.toList ds gs before) (hb : Below W.heap.size W W') :
    s.post enc P f false true false false W args (.bool true) W' := by
  have hW0 := hW
  have hlt := hW.lt
  obtain ⟨p, q, hA, hV, rfl, hfz, hnd⟩ := hW
  rw [hvars] at hV
  obtain ⟨rfl, rfl⟩ := trodVars_none hV
  obtain ⟨e1, e2, e3⟩ := hspec
  have hold : ∀ x ∈ p ++ [], (fun b => decide (b < W.heap.size)) x.block = true := fun x hx => by simpa using hlt x hx
  refine ⟨ds, [], p ++ [], [], p, [], hW0, ?_, ?_, ?_, hb.frame _, fun h => by cases h⟩
  · rw [e1, hr]
    exact trodAll_mk1 (shut_bool hub _)
  · rw [e2]
    exact trodAll_below hl hb _ _ _ _ hp hA (fun x hx => hlt x (by simp [hx])) (fun x hx => hold x (by simp [hx]))
  · rw [e3, hvars]
    rfl
end
/-! ### Rows of cells that are read -/
def Row (w : World) (a : Option Addr) (xs : List Value) : Prop :=
  xs = [] ∨ ∃ b off, a = some ⟨b, off, none⟩ ∧ ∀ i u, xs[i]? = some u → w.cell? ⟨b, off + i, none⟩ = some u
theorem Row.below {w w' : World} {a : Option Addr} {xs : List Value} (h : Row w a xs) {B : Nat} (hB : w.heap.size ≤ B) (hb : Below B w w') : Row w' a xs := by
  rcases h with h | ⟨b, off, ha, h⟩
  · exact .inl h
  · refine .inr ⟨b, off, ha, fun i u hu => ?_⟩
    have h1 := h i u hu
    have h2 := World.block_lt_of_cell? _ _ h1
    rw [hb.cell (p := ⟨b, off + i, none⟩) (by simp only at h2 ⊢; omega)]
    exact h1
theorem Row.below0 {w w' : World} {a : Option Addr} {xs : List Value} (h : Row w a xs) (hb : Below w.heap.size w w') : Row w' a xs := h.below (Nat.le_refl _) hb
theorem Row.at {w : World} {a : Option Addr} {xs : List Value} (h : Row w a xs) {k : Nat} (hk : k < xs.length) : ∃ b off, a = some ⟨b, off, none⟩ ∧ ∀ i u, xs[i]? = some u → w.cell? ⟨b, off + i, none⟩ = some u := by
  rcases h with h | h
  · subst h; simp at hk
  · exact h
theorem Row.int {w : World} {a : Option Addr} {k : IntKind} {l : List Int} (h : Row w a (l.map (Value.int k))) {i : Nat} (hi : i < l.length) :
    ∃ b off x, a = some ⟨b, off, none⟩ ∧ l[i]? = some x ∧ w.cell? ⟨b, off + i, none⟩ = some (.int k x) := by
  obtain ⟨b, off, ha, hc⟩ := h.at (k := i) (by simpa using hi)
  exact ⟨b, off, l[i], ha, by simp [hi], hc i _ (by simp [hi])⟩
theorem addr_add (b o j : Nat) : (⟨b, o, none⟩ : Addr).add j = ⟨b, o + j, none⟩ := by
  unfold Addr.add
  by_cases h : j = 0 <;> simp [h]
theorem cell_new (w : World) (cs : Array Value) (e : TypeId) (j : Nat) : (w.alloc (.cells cs e)).cell? ⟨w.heap.size, j, none⟩ = cs[j]? := by simp [go_sem]
theorem Row.of_owns {w : World} {base n size : Nat} {e : TypeId} {v : Value} {xs : List Value} (h : w.ownsRow base e size v n xs) : ∃ a cap, v = .slice a n cap ∧ Row w a xs ∧ n ≤ cap ∧ cap ≤ maxLen := by
  have h0 := h
  obtain ⟨hl, ⟨rfl, rfl⟩ | ⟨g, cap, cur, rfl, hg, hc, hn, hm, hs, ht⟩⟩ := h
  · refine ⟨none, 0, rfl, .inl ?_, Nat.le_refl _, by simp⟩
    simpa using hl
  · refine ⟨some ⟨g, 0, none⟩, cap, rfl, .inr ⟨g, 0, rfl, fun i u hu => ?_⟩, hn, hm⟩
    have := h0.cells (g := g) rfl i u hu
    rw [addr_add] at this
    exact this
theorem owns_mono {w : World} {base base' n size : Nat} {e : TypeId} {v : Value} {xs : List Value} (h : w.ownsRow base e size v n xs) (hb : base' ≤ base) : w.ownsRow base' e size v n xs := by
  obtain ⟨hl, h | ⟨g, cap, cur, hv, hg, r⟩⟩ := h
  · exact ⟨hl, .inl h⟩
  · exact ⟨hl, .inr ⟨g, cap, cur, hv, Nat.le_trans hb hg, r⟩⟩
structure ElemT (P : Program) (t e : TypeId) (size bytes : Nat) : Prop where
  ex : ∃ i z, P.underlying t = some (.slice e) ∧ P.info? e = some i ∧ i.zero = some z ∧ i.size = size ∧ i.bytes = bytes ∧ z.cells.size = size ∧ 0 < size
theorem ElemT.of {P : Program} {t e : TypeId} {size bytes : Nat} (z : Value) (ht : P.underlying t = some (.slice e)) (hi : (P.info? e).map (fun i => (i.zero, i.size, i.bytes)) = some (some z, size, bytes)) (hz : z.cells.size = size) (hp : 0 < size) : ElemT P t e size bytes := by
  obtain ⟨i, h1, h2, h3, h4⟩ := info_parts hi
  exact ⟨⟨i, z, ht, h1, h2, h3, h4, hz, hp⟩⟩
theorem wpList_append1 {P : Program} {w : World} {ops : Array Oper} {rest : List Oper} {o : Oper} {a : Act} {Q : Exit → Act → World → Prop} (hgd : o.guard = none) (s x : Operand) (t e : TypeId) {size bytes : Nat} (hT : ElemT P t e size bytes)
    (ho : o.op = .call { callee := .builtin .append, args := #[s, x], argTypes := #[t, t] })
    (base : Nat) (v : Value) (n : Nat) (xs : List Value) (hs : a.eval s = v) (hown : w.ownsRow base e size v n xs)
    (cs : Array Value) (hcs : cs.size = size) (h1 : ∀ u ∈ cs.toList, u.oneCell' = true) (e' : TypeId) (hx : a.eval x = .slice (some ⟨w.heap.size, 0, none⟩) 1 1)
    (hn : n < 4294967296) (hby : bytes ≤ 4096) (hbase : base ≤ w.heap.size)
    (h : ∀ v' w', w'.ownsRow base e size v' (n + 1) (xs ++ cs.toList) → Below base w w' → (v' = .slice none 0 0 → False) → wpList P ops Q rest (a.put o.dst v') w') :
    wpList P ops Q (o :: rest) a (w.alloc (.cells cs e')) := by
  obtain ⟨i, z, ht, hi, hz, hsize, hbytes, hzs, hsz⟩ := hT.ex
  refine wpList_append_own _ hgd s x t ho base e i z size bytes ht hi hz hsize hbytes hzs hsz v n xs hs (hown.alloc _) ⟨w.heap.size, 0, none⟩ 1 1 cs.toList hx (by simp [hcs]) ?_ h1 (by unfold maxLen; omega) ?_ ?_ ?_
  · intro j u hj
    rw [addr_add, Nat.zero_add, cell_new]
    simpa using hj
  · have : (n + 1) * bytes ≤ 4294967296 * 4096 := Nat.mul_le_mul (by omega) hby
    omega
  · have : (w.alloc (.cells cs e')).heap.size = w.heap.size + 1 := by simp
    omega
  · intro v' w' h2 h3 h4
    refine h v' w' h2 ?_ (fun hv => ?_)
    · have hb : Below base w (w.alloc (.cells cs e')) := (Below.refl _ _).alloc hbase _
      refine hb.grown h3 (by simp; omega) (fun k hk => ?_)
      exact (hown.lt k hk).1
    · have := (h4.1 hv).2
      omega
def isums (l : List Int) : List Value := l.map (Value.int .i64)
end Go.Proofs.YtddddemclhlfaaaGreatDoor
namespace Go.Proofs.YtddddemclhlfaaaGreatDoor
open Go.RowKit
def byv (b : UInt8) : Value := .int .u8 (b.toNat : Int)
def bys (l : List UInt8) : List Value := l.map byv
theorem bys_len (l : List UInt8) : (bys l).length = l.length := by simp [bys]
theorem bys_app (l m : List UInt8) : bys (l ++ m) = bys l ++ bys m := by simp [bys]
theorem bys_one {l : List UInt8} : ∀ u ∈ bys l, u.oneCell' = true := by
  intro u hu
  simp only [bys, List.mem_map] at hu
  obtain ⟨z, _, rfl⟩ := hu
  rfl
theorem Row.byte {w : World} {a : Option Addr} {l : List UInt8} (h : Row w a (bys l)) {i : Nat} (hi : i < l.length) :
    ∃ b off, a = some ⟨b, off, none⟩ ∧ w.cell? ⟨b, off + i, none⟩ = some (.int .u8 (l[i].toNat : Int)) := by
  obtain ⟨b, off, ha, hc⟩ := h.at (k := i) (by rw [bys_len]; exact hi)
  exact ⟨b, off, ha, hc i _ (by simp [bys, hi, byv])⟩
theorem Row.byteAt {w : World} {b off : Nat} {l : List UInt8} (h : Row w (some ⟨b, off, none⟩) (bys l)) {i : Nat} (hi : i < l.length) : w.cell? ⟨b, off + i, none⟩ = some (.int .u8 (l[i].toNat : Int)) := by
  obtain ⟨b', off', e, hc⟩ := h.byte hi
  cases e
  exact hc
def manyI (w : Int) : Int := if w = 1 then 256 else if w = 2 then 65536 else if w = 4 then 4294967296 else if w = 6 then 281474976710656 else 0
theorem manyI_bd (w : Int) : 0 ≤ manyI w ∧ manyI w ≤ 281474976710656 := by unfold manyI; split; omega; split; omega; split; omega; split <;> omega
def fitsB (w n : Int) : Bool := decide (0 ≤ n) && decide (n < manyI w)
theorem fits_w {w n : Int} (h : fitsB w n = true) : (w = 1 ∨ w = 2 ∨ w = 4 ∨ w = 6) ∧ 0 ≤ n ∧ n < manyI w := by
  simp only [fitsB, Bool.and_eq_true, decide_eq_true_eq] at h
  refine ⟨?_, h.1, h.2⟩
  have := h.2
  unfold manyI at this
  split at this; · omega
  split at this; · omega
  split at this; · omega
  split at this <;> omega
def le : Nat → Nat → List UInt8
  | 0, _ => []
  | k + 1, n => UInt8.ofNat (n % 256) :: le k (n / 256)
theorem le_len (k n : Nat) : (le k n).length = k := by
  induction k generalizing n with
  | zero => rfl
  | succ k ih => simp [le, ih]
theorem le_snoc (k n : Nat) : le (k + 1) n = le k n ++ [UInt8.ofNat (n / 256 ^ k % 256)] := by
  induction k generalizing n with
  | zero => simp [le]
  | succ k ih =>
    rw [le, ih (n / 256)]
    simp only [le, List.cons_append, List.cons.injEq, true_and, List.append_cancel_left_eq, and_true]
    rw [Nat.div_div_eq_div_mul, Nat.pow_succ']
theorem byv_shift (n j : Nat) : byv (UInt8.ofNat (n / 256 ^ j % 256)) = .int .u8 ((n : Int) / 2 ^ (8 * j) % 256) := by
  unfold byv
  congr 1
  have e : (2 : Int) ^ (8 * j) = ((256 ^ j : Nat) : Int) := by
    rw [Int.pow_mul]; norm_cast
  rw [e, ← Int.natCast_ediv, show (256 : Int) = ((256 : Nat) : Int) from rfl, ← Int.natCast_emod]
  congr 1
  simp
theorem byv_low (n : Nat) : byv (UInt8.ofNat (n % 256)) = .int .u8 ((n : Int) % 256) := by
  have := byv_shift n 0
  simpa using this
def ofLe : List UInt8 → Nat
  | [] => 0
  | b :: l => b.toNat + 256 * ofLe l
theorem ofLe_lt : ∀ l : List UInt8, ofLe l < 256 ^ l.length
  | [] => by simp [ofLe]
  | b :: l => by
    have h1 := ofLe_lt l
    have h2 : b.toNat < 256 := b.toNat_lt
    simp only [ofLe, List.length_cons, Nat.pow_succ]
    omega
theorem ofLe_le (k n : Nat) (h : n < 256 ^ k) : ofLe (le k n) = n := by
  induction k generalizing n with
  | zero => simp at h; subst h; rfl
  | succ k ih =>
    simp only [le, ofLe]
    rw [ih (n / 256) (by rw [Nat.pow_succ] at h; omega)]
    have : (UInt8.ofNat (n % 256)).toNat = n % 256 := by simp
    rw [this]; omega
theorem le_ofLe : ∀ l : List UInt8, le l.length (ofLe l) = l
  | [] => rfl
  | b :: l => by
    have h2 : b.toNat < 256 := b.toNat_lt
    simp only [List.length_cons, le, ofLe]
    rw [show (b.toNat + 256 * ofLe l) / 256 = ofLe l by omega, show (b.toNat + 256 * ofLe l) % 256 = b.toNat by omega, le_ofLe l]
    simp
theorem ofLe_app (l m : List UInt8) : ofLe (l ++ m) = ofLe l + 256 ^ l.length * ofLe m := by
  induction l with
  | nil => simp [ofLe]
  | cons b l ih =>
    simp only [List.cons_append, ofLe, ih, List.length_cons, Nat.pow_succ]
    rw [Nat.mul_add, Nat.mul_comm (256 ^ l.length) 256, Nat.mul_assoc]
    omega
end Go.Proofs.YtddddemclhlfaaaGreatDoor
namespace Go.Proofs.YtddddemclhlfaaaGreatDoor
def half : Nat → Nat
  | 0 => 0x00000000 | 1 => 0x105ec76f | 2 => 0x20bd8ede | 3 => 0x30e349b1 | 4 => 0x417b1dbc | 5 => 0x5125dad3 | 6 => 0x61c69362 | 7 => 0x7198540d
  | 8 => 0x82f63b78 | 9 => 0x92a8fc17 | 10 => 0xa24bb5a6 | 11 => 0xb21572c9 | 12 => 0xc38d26c4 | 13 => 0xd3d3e1ab | 14 => 0xe330a81a | _ => 0xf36e6f75
def nib (r : Nat) : Nat := (r / 16) ^^^ half (r % 16)
def stepC (r : Nat) (x : UInt8) : Nat := nib (nib (r ^^^ x.toNat))
def runC (r : Nat) (l : List UInt8) : Nat := l.foldl stepC r
def ones : Nat := 4294967295
def crcE (s : Nat) (l : List UInt8) : Nat := runC (s ^^^ ones) l ^^^ ones
def crcS (l : List UInt8) : Nat := crcE 0 l
theorem half_lt : ∀ k, k < 16 → half k < 4294967296 := by decide
theorem nib_lt {r : Nat} (h : r < 4294967296) : nib r < 4294967296 := by
  unfold nib
  exact Nat.xor_lt_two_pow (n := 32) (by omega) (half_lt _ (Nat.mod_lt _ (by decide)))
theorem stepC_lt {r : Nat} (h : r < 4294967296) (x : UInt8) : stepC r x < 4294967296 := by
  have hx : x.toNat < 2 ^ 32 := Nat.lt_trans x.toNat_lt (by decide)
  exact nib_lt (nib_lt (Nat.xor_lt_two_pow (n := 32) h hx))
theorem runC_lt : ∀ (l : List UInt8) {r : Nat}, r < 4294967296 → runC r l < 4294967296
  | [], _, h => h
  | x :: l, _, h => runC_lt l (stepC_lt h x)
theorem runC_app (r : Nat) (l m : List UInt8) : runC r (l ++ m) = runC (runC r l) m := List.foldl_append
theorem crcS_lt (l : List UInt8) : crcS l < 4294967296 := Nat.xor_lt_two_pow (n := 32) (runC_lt l (by decide)) (by decide)
end Go.Proofs.YtddddemclhlfaaaGreatDoor
namespace Go.Proofs.YtddddemclhlfaaaGreatDoor
def half1 (y : Nat) : Nat := (y / 2) ^^^ (if y % 2 = 1 then 2197175160 else 0)
def inR (r b : Nat) : Nat := if r % 2 = b then r / 2 else (r / 2) ^^^ 2197175160
def halfs : Nat → Nat → Nat
  | 0, y => y
  | k + 1, y => half1 (halfs k y)
theorem xor_half (a b : Nat) : (a ^^^ b) / 2 = a / 2 ^^^ b / 2 := Nat.xor_div_two_pow (n := 1)
theorem xor_low (a b : Nat) : (a ^^^ b) % 2 = a % 2 ^^^ b % 2 := Nat.xor_mod_two_pow (n := 1)
theorem half1_xor (a b : Nat) : half1 (a ^^^ b) = half1 a ^^^ half1 b := by
  unfold half1
  rw [xor_half, xor_low]
  rcases (show a % 2 = 0 ∨ a % 2 = 1 by omega) with h | h <;> rcases (show b % 2 = 0 ∨ b % 2 = 1 by omega) with k | k <;> rw [h, k] <;> simp only [Nat.xor_self, Nat.xor_zero, Nat.zero_xor, if_true, if_false, Nat.zero_ne_one]
  · rw [Nat.xor_assoc]
  · rw [Nat.xor_assoc, Nat.xor_assoc, Nat.xor_comm (b / 2)]
  · rw [Nat.xor_assoc, ← Nat.xor_assoc 2197175160, Nat.xor_comm 2197175160 (b / 2), Nat.xor_assoc, Nat.xor_self, Nat.xor_zero]
theorem halfs_xor (a b : Nat) : ∀ k, halfs k (a ^^^ b) = halfs k a ^^^ halfs k b
  | 0 => rfl
  | k + 1 => by
    show half1 (halfs k (a ^^^ b)) = half1 (halfs k a) ^^^ half1 (halfs k b)
    rw [halfs_xor a b k, half1_xor]
theorem half1_two (y : Nat) : half1 (2 * y) = y := by
  unfold half1
  rw [if_neg (by omega), Nat.xor_zero]
  omega
theorem halfs_16 (q : Nat) : halfs 4 (16 * q) = q := by
  show half1 (half1 (half1 (half1 (16 * q)))) = q
  rw [show 16 * q = 2 * (2 * (2 * (2 * q))) by omega, half1_two, half1_two, half1_two, half1_two]
theorem halfs_low : ∀ m, m < 16 → halfs 4 m = half m := by decide
theorem split16 (y : Nat) : y = 16 * (y / 16) ^^^ (y % 16) := by
  have h1 : (16 * (y / 16) ^^^ (y % 16)) / 16 = y / 16 := by
    have := Nat.xor_div_two_pow (a := 16 * (y / 16)) (b := y % 16) (n := 4)
    rw [show (2 : Nat) ^ 4 = 16 from rfl] at this
    rw [this, show y % 16 / 16 = 0 by omega, Nat.xor_zero]
    omega
  have h2 : (16 * (y / 16) ^^^ (y % 16)) % 16 = y % 16 := by
    have := Nat.xor_mod_two_pow (a := 16 * (y / 16)) (b := y % 16) (n := 4)
    rw [show (2 : Nat) ^ 4 = 16 from rfl] at this
    rw [this, show 16 * (y / 16) % 16 = 0 by omega, Nat.zero_xor]
    omega
  generalize 16 * (y / 16) ^^^ (y % 16) = z at *
  omega
theorem halfs_nib (y : Nat) : halfs 4 y = nib y := by
  have h := halfs_xor (16 * (y / 16)) (y % 16) 4
  rw [← split16] at h
  rw [h, halfs_16, halfs_low _ (by omega)]
  rfl
theorem halfs_add (y : Nat) : ∀ a b, halfs (a + b) y = halfs a (halfs b y)
  | 0, b => by rw [Nat.zero_add]; rfl
  | a + 1, b => by
    rw [show a + 1 + b = (a + b) + 1 by omega]
    show half1 (halfs (a + b) y) = half1 (halfs a (halfs b y))
    rw [halfs_add y a b]
theorem halfs_8 (r : Nat) (x : UInt8) : halfs 8 (r ^^^ x.toNat) = stepC r x := by
  rw [show (8 : Nat) = 4 + 4 from rfl, halfs_add, halfs_nib, halfs_nib]
  rfl
theorem inR_step {r x y k : Nat} (h : r ^^^ x = halfs k y) : inR r (x % 2) ^^^ (x / 2) = halfs (k + 1) y := by
  show _ = half1 (halfs k y)
  rw [← h]
  unfold half1 inR
  rw [xor_half, xor_low]
  rcases (show r % 2 = 0 ∨ r % 2 = 1 by omega) with h | h <;> rcases (show x % 2 = 0 ∨ x % 2 = 1 by omega) with k | k <;> rw [h, k] <;> simp only [Nat.xor_self, Nat.xor_zero, Nat.zero_xor, if_true, if_false, Nat.zero_ne_one, Nat.one_ne_zero]
  · rw [Nat.xor_assoc, Nat.xor_assoc, Nat.xor_comm (x / 2)]
  · rw [Nat.xor_assoc, Nat.xor_assoc, Nat.xor_comm (x / 2)]
theorem inR_lt {r b : Nat} (h : r < 4294967296) : inR r b < 4294967296 := by
  unfold inR
  split
  · omega
  · exact Nat.xor_lt_two_pow (n := 32) (show r / 2 < 2 ^ 32 by omega) (by decide)
end Go.Proofs.YtddddemclhlfaaaGreatDoor
namespace Go.Proofs.YtddddemclhlfaaaGreatDoor
open Go.RowKit
variable {P : Program}
theorem wpList_run {w w' : World} {v : Value} {ops : Array Oper} {rest : List Oper} {o : Oper} {a : Act} {Q : Exit → Act → World → Prop} (hgd : o.guard = none)
    (hr : (execOp a.eval o).run P w = .ok (.value v) w') (h : wpList P ops Q rest (a.put o.dst v) w') : wpList P ops Q (o :: rest) a w :=
  wpList_plain hgd fun K hK => by
    unfold Oper.wp
    rw [hr]
    exact hK _ _ h
theorem exec_copy {w w' : World} {o : Oper} {a : Act} {v' : Value} (d s : Operand) (dT sT : TypeId) (ho : o.op = .call { callee := .builtin .copy, args := #[d, s], argTypes := #[dT, sT] })
    (vd vs : Value) (hd : a.eval d = vd) (hs : a.eval s = vs) (hr : (Builtin.copy_ #[dT, sT] o.type #[vd, vs]).run P w = .ok v' w') : (execOp a.eval o).run P w = .ok (.value v') w' := by
  simp [execOp, ho, resolve, invoke, builtin, hd, hs, hr, Result.andThen]
theorem exec_append {w w' : World} {o : Oper} {a : Act} {v' : Value} (d s : Operand) (dT sT : TypeId) (ho : o.op = .call { callee := .builtin .append, args := #[d, s], argTypes := #[dT, sT] })
    (vd vs : Value) (hd : a.eval d = vd) (hs : a.eval s = vs) (hr : (Builtin.append_ #[dT, sT] o.type #[vd, vs]).run P w = .ok v' w') : (execOp a.eval o).run P w = .ok (.value v') w' := by
  simp [execOp, ho, resolve, invoke, builtin, hd, hs, hr, Result.andThen]
theorem run_copyK (w : World) (dT sT ty elem : TypeId) (size : Nat) (hu : P.underlying dT = some (.slice elem)) (hsz : (P.info? elem).map (·.size) = some size)
    (g o dLen dCap : Nat) (a : Addr) (sLen sCap : Nat) (cur : List Value) (t : TypeId) (cs : List Value)
    (hg : w.heap[g]? = some (.cells cur.toArray t (0, 0))) (hn : cs.length = Nat.min sLen dLen * size)
    (hsrc : ∀ j v, cs[j]? = some v → w.cell? (a.add j) = some v) (hfit : o + cs.length ≤ cur.length) (h1 : ∀ v ∈ cs, v.oneCell' = true) :
    (Builtin.copy_ #[dT, sT] ty #[.slice (some ⟨g, o, none⟩) dLen dCap, .slice (some a) sLen sCap]).run P w =
      .ok (goInt (Nat.min sLen dLen)) (w.setRow g (splice cur o cs).toArray) := by
  have hl := run_firstCells_some (P := P) w size (Nat.min sLen dLen) a sLen sCap cs hn hsrc
  have hst := run_storeCells_at P g o t cs 0 cur.toArray w hg (by simpa using hfit) h1
  cases hq : P.info? elem with
  | none => simp [hq] at hsz
  | some i =>
    have hi : i.size = size := by simpa [hq] using hsz
    simp only [Nat.add_zero, List.append_assoc] at hst
    simp [Builtin.copy_, run_underlying hu, Builtin.lenOf, sizeOf, typeInfo, hq, hi, hl, hst, splice]
def OwnRes (base : Nat) (e : TypeId) (size n : Nat) (xs : List Value) (en : Ending) (w' : World) : Prop := ∃ v, en = .returned v ∧ w'.ownsRow base e size v n xs
theorem exec_append_own {w : World} {o : Oper} {a : Act} (s x : Operand) (t e : TypeId) {size bytes : Nat} (hT : ElemT P t e size bytes) (ho : o.op = .call { callee := .builtin .append, args := #[s, x], argTypes := #[t, t] })
    (base : Nat) (v : Value) (n : Nat) (xs : List Value) (hs : a.eval s = v) (hown : w.ownsRow base e size v n xs)
    (ad : Addr) (m c : Nat) (news : List Value) (hx : a.eval x = .slice (some ad) m c) (hl : news.length = m * size) (hnews : ∀ j u, news[j]? = some u → w.cell? (ad.add j) = some u) (h1 : ∀ u ∈ news, u.oneCell' = true)
    (hn : n + m ≤ 4294967296) (hby : bytes ≤ 4096) (hbase : base ≤ w.heap.size) :
    ∃ v' w', (execOp a.eval o).run P w = .ok (.value v') w' ∧ w'.ownsRow base e size v' (n + m) (xs ++ news) ∧ Below base w w' ∧ (0 < m → v' ≠ .slice none 0 0) := by
  obtain ⟨i, z, ht, hi, hz, hsize, hbytes, hzs, hsz⟩ := hT.ex
  have hb1 : (n + m) * bytes ≤ 4294967296 * 4096 := Nat.mul_le_mul hn hby
  obtain ⟨v', w', hr, h2, h3, h4⟩ := run_append_own (P := P) (w := w) base t o.type e i z size bytes ht hi hz hsize hbytes hzs hsz v n xs hown ad m c news hl hnews h1 (by unfold maxLen; omega) (by omega) hbase
  refine ⟨v', w', exec_append s x t t ho _ _ hs hx hr, h2, ?_, fun hm hv => ?_⟩
  · exact (Below.refl _ _).grown h3 hbase (fun k hk => (hown.lt k hk).1)
  · have := (h4.1 hv).2
    omega
theorem wpList_appendN {w : World} {ops : Array Oper} {rest : List Oper} {o : Oper} {a : Act} {Q : Exit → Act → World → Prop} (hgd : o.guard = none) (s x : Operand) (t e : TypeId) {size bytes : Nat} (hT : ElemT P t e size bytes)
    (ho : o.op = .call { callee := .builtin .append, args := #[s, x], argTypes := #[t, t] })
    (base : Nat) (v : Value) (n : Nat) (xs : List Value) (hs : a.eval s = v) (hown : w.ownsRow base e size v n xs)
    (ad : Addr) (m c : Nat) (news : List Value) (hx : a.eval x = .slice (some ad) m c) (hl : news.length = m * size) (hnews : ∀ j u, news[j]? = some u → w.cell? (ad.add j) = some u) (h1 : ∀ u ∈ news, u.oneCell' = true)
    (hn : n + m ≤ 4294967296) (hby : bytes ≤ 4096) (hbase : base ≤ w.heap.size)
    (h : ∀ v' w', w'.ownsRow base e size v' (n + m) (xs ++ news) → Below base w w' → wpList P ops Q rest (a.put o.dst v') w') : wpList P ops Q (o :: rest) a w := by
  obtain ⟨v', w', hr, h2, h3, _⟩ := exec_append_own (P := P) s x t e hT ho base v n xs hs hown ad m c news hx hl hnews h1 hn hby hbase
  exact wpList_run hgd hr (h v' w' h2 h3)
theorem grownBy_setRow (w : World) (g : Nat) (cs : Array Value) : w.grownBy (w.setRow g cs) (some g) :=
  ⟨rfl, rfl, rfl, by simp [World.setRow], fun k _ hk => setRow_other w g k cs (fun e => hk (by simp [e]))⟩
theorem exec_copyK (w : World) {o : Oper} {a : Act} (d s : Operand) (dT sT elem : TypeId) (size : Nat) (hu : P.underlying dT = some (.slice elem)) (hsz : (P.info? elem).map (·.size) = some size)
    (ho : o.op = .call { callee := .builtin .copy, args := #[d, s], argTypes := #[dT, sT] })
    (g off dLen dCap : Nat) (ad : Addr) (sLen sCap : Nat) (hd : a.eval d = .slice (some ⟨g, off, none⟩) dLen dCap) (hs : a.eval s = .slice (some ad) sLen sCap)
    (cur : List Value) (t : TypeId) (cs : List Value)
    (hg : w.heap[g]? = some (.cells cur.toArray t (0, 0))) (hn : cs.length = Nat.min sLen dLen * size)
    (hsrc : ∀ j v, cs[j]? = some v → w.cell? (ad.add j) = some v) (hfit : off + cs.length ≤ cur.length) (h1 : ∀ v ∈ cs, v.oneCell' = true) :
    ∃ w', (execOp a.eval o).run P w = .ok (.value (goInt (Nat.min sLen dLen))) w' ∧ w'.heap[g]? = some (.cells (splice cur off cs).toArray t (0, 0)) ∧ w.grownBy w' (some g) :=
  ⟨_, exec_copy d s dT sT ho _ _ hd hs (run_copyK (P := P) w dT sT o.type elem size hu hsz g off dLen dCap ad sLen sCap cur t cs hg hn hsrc hfit h1),
    setRow_heap w g _ _ t _ hg, grownBy_setRow w g _⟩
theorem wpList_copyK {w : World} {ops : Array Oper} {rest : List Oper} {o : Oper} {a : Act} {Q : Exit → Act → World → Prop} (hgd : o.guard = none) (d s : Operand) (dT sT elem : TypeId) (size : Nat) (hu : P.underlying dT = some (.slice elem)) (hsz : (P.info? elem).map (·.size) = some size)
    (ho : o.op = .call { callee := .builtin .copy, args := #[d, s], argTypes := #[dT, sT] })
    (g off dLen dCap : Nat) (ad : Addr) (sLen sCap : Nat) (hd : a.eval d = .slice (some ⟨g, off, none⟩) dLen dCap) (hs : a.eval s = .slice (some ad) sLen sCap)
    (cur : List Value) (t : TypeId) (cs : List Value)
    (hg : w.heap[g]? = some (.cells cur.toArray t (0, 0))) (hn : cs.length = Nat.min sLen dLen * size)
    (hsrc : ∀ j v, cs[j]? = some v → w.cell? (ad.add j) = some v) (hfit : off + cs.length ≤ cur.length) (h1 : ∀ v ∈ cs, v.oneCell' = true)
    (h : ∀ w', Hid (w'.heap[g]? = some (.cells (splice cur off cs).toArray t (0, 0))) → w.grownBy w' (some g) → wpList P ops Q rest (a.put o.dst (goInt (Nat.min sLen dLen))) w') : wpList P ops Q (o :: rest) a w := by
  obtain ⟨w', hr, h2, h3⟩ := exec_copyK (P := P) w d s dT sT elem size hu hsz ho g off dLen dCap ad sLen sCap hd hs cur t cs hg hn hsrc hfit h1
  exact wpList_run hgd hr (h w' h2 h3)
theorem grown_below {w w' : World} {row : Option Nat} (h : w.grownBy w' row) {B : Nat} (hB : B ≤ w.heap.size) (hr : ∀ k, row = some k → B ≤ k) : Below B w w' := (Below.refl _ _).grown h hB hr
theorem owns_of_cur {w : World} {base g n cap size : Nat} {e : TypeId} {cur ys : List Value} (hc : w.heap[g]? = some (.cells cur.toArray e (0, 0))) (hb : base ≤ g) (hn : n ≤ cap) (hm : cap ≤ maxLen) (hl : cur.length = cap * size)
    (hy : cur.take (n * size) = ys) : w.ownsRow base e size (.slice (some ⟨g, 0, none⟩) n cap) n ys := by
  refine ⟨?_, .inr ⟨g, cap, cur.toArray, rfl, hb, hc, hn, hm, by simpa using hl, by simpa using hy⟩⟩
  rw [← hy, List.length_take, hl]
  exact Nat.min_eq_left (Nat.mul_le_mul_right _ hn)
theorem run_append_nothing (w : World) (t ty e : TypeId) {size bytes : Nat} (hT : ElemT P t e size bytes) (ba : Option Addr) (n cap : Nat) (hn : n ≤ cap) (ad : Option Addr) (c : Nat) :
    (Builtin.append_ #[t, t] ty #[.slice ba n cap, .slice ad 0 c]).run P w = .ok (.slice ba n cap) w := by
  obtain ⟨i, z, ht, hi, hz, hsize, hbytes, hzs, hsz⟩ := hT.ex
  cases ba <;> cases ad <;> simp [Builtin.append_, run_underlying ht, sizeOf, typeInfo, hi, Builtin.lenOf, Builtin.firstCells, loadCells, loadCellsFrom, hn, storeCells]
theorem wpList_append_row {w : World} {ops : Array Oper} {rest : List Oper} {o : Oper} {a : Act} {Q : Exit → Act → World → Prop} (hgd : o.guard = none) (s x : Operand) (t e : TypeId) {size bytes : Nat} (hT : ElemT P t e size bytes)
    (ho : o.op = .call { callee := .builtin .append, args := #[s, x], argTypes := #[t, t] })
    (base : Nat) (v : Value) (n : Nat) (xs : List Value) (hs : a.eval s = v) (hown : w.ownsRow base e size v n xs)
    (ad : Option Addr) (m c : Nat) (news : List Value) (hx : a.eval x = .slice ad m c) (hl : news.length = m * size) (hrow : Row w ad news) (h1 : ∀ u ∈ news, u.oneCell' = true)
    (hn : n + m ≤ 4294967296) (hby : bytes ≤ 4096) (hbase : base ≤ w.heap.size)
    (h : ∀ v' w', w'.ownsRow base e size v' (n + m) (xs ++ news) → Below base w w' → wpList P ops Q rest (a.put o.dst v') w') : wpList P ops Q (o :: rest) a w := by
  by_cases hm : m = 0
  · subst hm
    have hnil : news = [] := List.eq_nil_of_length_eq_zero (by simpa using hl)
    subst hnil
    obtain ⟨ba, cap, hv, _, hnc, _⟩ := Row.of_owns hown
    subst hv
    refine wpList_run hgd (exec_append s x t t ho _ _ hs hx (run_append_nothing (P := P) w t o.type e hT ba n cap hnc ad c)) (h _ _ ?_ (Below.refl _ _))
    simpa using hown
  · obtain ⟨i, z, ht, hi, hz, hsize, hbytes, hzs, hsz⟩ := hT.ex
    have hpos : 0 < news.length := by rw [hl]; exact Nat.mul_pos (by omega) hsz
    obtain ⟨b, off, rfl, hc⟩ := hrow.at hpos
    refine wpList_appendN hgd s x t e hT ho base v n xs hs hown ⟨b, off, none⟩ m c news hx hl (fun j u hj => ?_) h1 hn hby hbase h
    rw [addr_add]
    exact hc j u hj
theorem owns_some {w : World} {base n size : Nat} {e : TypeId} {v : Value} {xs : List Value} (h : w.ownsRow base e size v n xs) (hn : 0 < n) : ∃ g cap, v = .slice (some ⟨g, 0, none⟩) n cap ∧ base ≤ g := by
  obtain ⟨_, ⟨_, h⟩ | ⟨g, cap, cur, hv, hg, _⟩⟩ := h
  · omega
  · exact ⟨g, cap, hv, hg⟩
theorem owns_empty (w : World) (e : TypeId) (size : Nat) : (w.alloc (.cells #[] e)).ownsRow w.heap.size e size (.slice (some ⟨w.heap.size, 0, none⟩) 0 0) 0 [] :=
  owns_of_cur (cur := []) (heap_alloc_new w _) (Nat.le_refl _) (Nat.le_refl _) (by simp) (by simp) (by simp)
end Go.Proofs.YtddddemclhlfaaaGreatDoor
namespace Go.Proofs.YtddddemclhlfaaaGreatDoor
open Go.RowKit
theorem owns_after {w w' : World} {base n size : Nat} {e : TypeId} {v : Value} {xs : List Value} (h : w.ownsRow base e size v n xs) (hb : Below w.heap.size w w') : w'.ownsRow base e size v n xs := by
  obtain ⟨hl, h | ⟨g, cap, cur, hv, hg, hc, r⟩⟩ := h
  · exact ⟨hl, .inl h⟩
  · exact ⟨hl, .inr ⟨g, cap, cur, hv, hg, (hb.block g (Array.getElem?_eq_some_iff.1 hc).1).trans hc, r⟩⟩
end Go.Proofs.YtddddemclhlfaaaGreatDoor
namespace Go.Proofs.YtddddemclhlfaaaGreatDoor
open Go.RowKit
open Classical in
noncomputable def Under (w x : World) : World := if Below w.heap.size w x then x else w
theorem under_below (w x : World) : Below w.heap.size w (Under w x) := by
  unfold Under
  split
  · assumption
  · exact Below.refl _ _
theorem under_of {w y : World} (h : Below w.heap.size w y) : y = Under w y := by
  unfold Under
  rw [if_pos h]
theorem under_cell {w : World} {p : Addr} {v : Value} (h : w.cell? p = some v) : ∀ x, (Under w x).cell? p = some v := fun x => by
  have h2 := World.block_lt_of_cell? _ _ h
  rw [(under_below w x).cell h2]
  exact h
theorem under_call {P : Program} {f : FuncId} {args : Array Value} {w x : World} {v : Value}
    (h : Calls P f args (Under w x) fun e w' => e = .returned v ∧ Below (Under w x).heap.size (Under w x) w') : Calls P f args (Under w x) fun e w'' => e = .returned v ∧ ∃ y, w'' = Under w y :=
  h.mono fun _ w' ⟨he, hb⟩ => ⟨he, w', under_of ((under_below w x).trans (hb.mono (under_below w x).size))⟩
theorem under_same {P : Program} {f : FuncId} {args : Array Value} {w x : World} {v : Value}
    (h : Calls P f args (Under w x) fun e w' => e = .returned v ∧ Under w x = w') : Calls P f args (Under w x) fun e w'' => e = .returned v ∧ ∃ y, w'' = Under w y :=
  h.mono fun _ _ ⟨he, hm⟩ => ⟨he, x, hm.symm⟩
theorem wp_region_under {P : Program} {id : Nat} {Q : Exit → Act → World → Prop} {a : Act} {w : World} {l : List Oper} (hm : P.follows .mixedOrders = true) (hB : Region.lexB .any l.toArray = true)
    (h : wpQuiet P l.toArray (fun w' => ∃ x, w' = Under w x) (fun a' => ∀ w', (∃ x, w' = Under w x) → Q .normal a' w') l a) : (Code.region id l.toArray true).wp P Q a w :=
  wp_region_quiet (C := fun w' => ∃ x, w' = Under w x) hm hB ⟨_, under_of ((Below.refl _ _).drew)⟩ (by simpa using h)
end Go.Proofs.YtddddemclhlfaaaGreatDoor
namespace Go.Proofs.YtddddemclhlfaaaGreatDoor
open Go.RowKit
theorem size_at (g n cap : Nat) (a : Option Addr) (w : World) (hc : w.cell? ⟨g, 0, none⟩ = some (.slice a n cap)) : Calls Tryz.prog 46 #[.pointer (some ⟨g, 0, none⟩)] w fun e w' => e = .returned (.int .i64 n) ∧ w = w' := by
  go_enter Tryz.func46, Tryz.ntmps46
  go_wp2
  go_ret
  exact ⟨rfl, rfl⟩
def DiskN (w : World) (p : Value) (n : Nat) : Prop := (p = .pointer none ∧ n = 0) ∨ ∃ g a cap, p = .pointer (some ⟨g, 0, none⟩) ∧ w.cell? ⟨g, 0, none⟩ = some (.slice a n cap)
theorem DiskN.below {w w' : World} {p : Value} {n : Nat} (h : DiskN w p n) (hb : Below w.heap.size w w') : DiskN w' p n := by
  rcases h with h | ⟨g, a, cap, hp, hc⟩
  · exact .inl h
  · exact .inr ⟨g, a, cap, hp, (hb.cell (World.block_lt_of_cell? _ _ hc)).trans hc⟩
abbrev regV : Value := .agg #[.int .i64 0, .int .i64 0, .int .i64 2, .int .i64 1, .int .i64 2, .int .i64 1, .int .i64 24, .int .i64 1, .int .i64 48, .int .i64 2, .int .i64 16, .int .i64 2]
set_option maxRecDepth 100000 in
theorem regions_any (w : World) : Calls Tryz.prog 129 #[] w fun e w' => e = .returned regV ∧ Below w.heap.size w w' := by
  go_enter Tryz.func129, Tryz.ntmps129
  go_wp2
  (try simp only [Exit.inBlock, Exit.then])
  refine bodyPost_ret (v := regV) ?hr rfl ⟨rfl, ?_⟩
  case hr =>
    simp only [results, Tryz.results129]
    go_simp
    try rfl
  (repeat' (first | (with_reducible exact Below.refl _ _) | (with_reducible assumption) | (with_reducible refine Below.alloc ?_ ?_ _) | (with_reducible refine Below.drew ?_) | (with_reducible refine below_drewN ?_ _) | (with_reducible refine Below.setCell ?_ ?_ _) | (with_reducible refine Below.trans ?_ (by assumption)) | go_size))
def atP (k : Nat) : Int := [(0 : Int), 0, 2, 4, 28, 124, 156].getD k 156
set_option maxRecDepth 100000 in
set_option maxHeartbeats 2000000 in
theorem all_start (w : World) : Calls Tryz.prog 96 #[.int .i64 (-1)] w fun e w' => e = .returned (.int .i64 156) ∧ Below w.heap.size w w' := by
  have i0 : ∀ w, (Instr.index 190 regV (.int .i64 0)).run Tryz.prog w = .ok (.agg #[.int .i64 0, .int .i64 0]) w := fun _ => by kernel_rfl
  have i1 : ∀ w, (Instr.index 190 regV (.int .i64 1)).run Tryz.prog w = .ok (.agg #[.int .i64 2, .int .i64 1]) w := fun _ => by kernel_rfl
  have i2 : ∀ w, (Instr.index 190 regV (.int .i64 2)).run Tryz.prog w = .ok (.agg #[.int .i64 2, .int .i64 1]) w := fun _ => by kernel_rfl
  have i3 : ∀ w, (Instr.index 190 regV (.int .i64 3)).run Tryz.prog w = .ok (.agg #[.int .i64 24, .int .i64 1]) w := fun _ => by kernel_rfl
  have i4 : ∀ w, (Instr.index 190 regV (.int .i64 4)).run Tryz.prog w = .ok (.agg #[.int .i64 48, .int .i64 2]) w := fun _ => by kernel_rfl
  have i5 : ∀ w, (Instr.index 190 regV (.int .i64 5)).run Tryz.prog w = .ok (.agg #[.int .i64 16, .int .i64 2]) w := fun _ => by kernel_rfl
  go_enter Tryz.func96, Tryz.ntmps96
  refine wp_seq_k (fun K hK => ?_)
  have HK := Lib.hid hK
  clear hK
  go_wp2
  refine HK.out _ _ ?_
  clear HK
  refine wp_seq_k (fun K hK => ?_)
  have HK := Lib.hid hK
  clear hK
  go_wp2
  refine HK.out _ _ ?_
  clear HK
  go_wp2_with (go_at_call 129; refine (regions_any _).mono ?_; rintro e w1 ⟨rfl, hb1⟩)
  go_loopw [3, 7] (fun t i wr => ∃ k : Nat, k ≤ 6 ∧ i = .int .i64 k ∧ t = .int .i64 (atP k) ∧ Below w.heap.size w wr) (fun _ i _ => 6 - (intOf i).toNat)
  case atStart => exact ⟨0, by omega, rfl, rfl, hb1⟩
  case round =>
    obtain ⟨k, hk, rfl, rfl, hbr⟩ := hrel
    have hbs := hbr.size
    have h7 : k = 0 ∨ k = 1 ∨ k = 2 ∨ k = 3 ∨ k = 4 ∨ k = 5 ∨ k = 6 := by omega
    rcases h7 with rfl | rfl | rfl | rfl | rfl | rfl | rfl
    · have ha : atP 0 = 0 := rfl
      rw [ha]
      go_wp2
      go_roundw
      case rel => exact ⟨1, by omega, by rfl, by rfl, by (repeat' (first | (with_reducible exact Below.refl _ _) | (with_reducible assumption) | (with_reducible refine Below.alloc ?_ ?_ _) | (with_reducible refine Below.drew ?_) | (with_reducible refine below_drewN ?_ _) | (with_reducible refine Below.setCell ?_ ?_ _) | (with_reducible refine Below.trans ?_ (by assumption)) | go_size))⟩
      case measure => simp [intOf]
    · have ha : atP 1 = 0 := rfl
      rw [ha]
      go_wp2
      go_roundw
      case rel => exact ⟨2, by omega, by rfl, by rfl, by (repeat' (first | (with_reducible exact Below.refl _ _) | (with_reducible assumption) | (with_reducible refine Below.alloc ?_ ?_ _) | (with_reducible refine Below.drew ?_) | (with_reducible refine below_drewN ?_ _) | (with_reducible refine Below.setCell ?_ ?_ _) | (with_reducible refine Below.trans ?_ (by assumption)) | go_size))⟩
      case measure => simp [intOf]
    · have ha : atP 2 = 2 := rfl
      rw [ha]
      go_wp2
      go_roundw
      case rel => exact ⟨3, by omega, by rfl, by rfl, by (repeat' (first | (with_reducible exact Below.refl _ _) | (with_reducible assumption) | (with_reducible refine Below.alloc ?_ ?_ _) | (with_reducible refine Below.drew ?_) | (with_reducible refine below_drewN ?_ _) | (with_reducible refine Below.setCell ?_ ?_ _) | (with_reducible refine Below.trans ?_ (by assumption)) | go_size))⟩
      case measure => simp [intOf]
    · have ha : atP 3 = 4 := rfl
      rw [ha]
      go_wp2
      go_roundw
      case rel => exact ⟨4, by omega, by rfl, by rfl, by (repeat' (first | (with_reducible exact Below.refl _ _) | (with_reducible assumption) | (with_reducible refine Below.alloc ?_ ?_ _) | (with_reducible refine Below.drew ?_) | (with_reducible refine below_drewN ?_ _) | (with_reducible refine Below.setCell ?_ ?_ _) | (with_reducible refine Below.trans ?_ (by assumption)) | go_size))⟩
      case measure => simp [intOf]
    · have ha : atP 4 = 28 := rfl
      rw [ha]
      go_wp2
      go_roundw
      case rel => exact ⟨5, by omega, by rfl, by rfl, by (repeat' (first | (with_reducible exact Below.refl _ _) | (with_reducible assumption) | (with_reducible refine Below.alloc ?_ ?_ _) | (with_reducible refine Below.drew ?_) | (with_reducible refine below_drewN ?_ _) | (with_reducible refine Below.setCell ?_ ?_ _) | (with_reducible refine Below.trans ?_ (by assumption)) | go_size))⟩
      case measure => simp [intOf]
    · have ha : atP 5 = 124 := rfl
      rw [ha]
      go_wp2
      go_roundw
      case rel => exact ⟨6, by omega, by rfl, by rfl, by (repeat' (first | (with_reducible exact Below.refl _ _) | (with_reducible assumption) | (with_reducible refine Below.alloc ?_ ?_ _) | (with_reducible refine Below.drew ?_) | (with_reducible refine below_drewN ?_ _) | (with_reducible refine Below.setCell ?_ ?_ _) | (with_reducible refine Below.trans ?_ (by assumption)) | go_size))⟩
      case measure => simp [intOf]
    · have ha : atP 6 = 156 := rfl
      rw [ha]
      go_wp2
      go_ret
      exact ⟨rfl, hbr⟩
set_option maxRecDepth 100000 in
theorem all_any (w : World) : Calls Tryz.prog 108 #[] w fun e w' => e = .returned (.int .i64 156) ∧ Below w.heap.size w w' := by
  go_enter Tryz.func108, Tryz.ntmps108
  go_wp2_with (go_at_call 96; refine (all_start _).mono ?_; rintro e w1 ⟨rfl, hb1⟩)
  go_ret
  exact ⟨rfl, hb1⟩
end Go.Proofs.YtddddemclhlfaaaGreatDoor
