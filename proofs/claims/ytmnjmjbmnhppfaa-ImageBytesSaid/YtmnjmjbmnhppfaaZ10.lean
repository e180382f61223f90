/- Texts that the claim leans on, part 10: O0, O1, O2, P0, P1, P2, PR, PC, P3, P4, P5, A0. -/
import Derived.Test.YtmnjmjbmnhppfaaZ1
import Derived.Test.YtmnjmjbmnhppfaaZ2
import Derived.Test.YtmnjmjbmnhppfaaZ3
import Derived.Test.YtmnjmjbmnhppfaaZ4
import Derived.Test.YtmnjmjbmnhppfaaZ5
import Derived.Test.YtmnjmjbmnhppfaaZ6
import Derived.Test.YtmnjmjbmnhppfaaZ7
import Derived.Test.YtmnjmjbmnhppfaaZ8
import Derived.Test.YtmnjmjbmnhppfaaZ9
import Derived.Test.YtmnjmjbmnhppfaaRows
import Derived.WalkKit
import Derived.WalkSpells
import Derived.WalkLawsBesides
import Derived.Handy
import Derived.Deep.QuietTactic
import Derived.BigQuiet
import Derived.Deep.DeepCutAuto
import Derived.Lib.Hide
import Derived.RegionTactic
import Derived.ChangeAlike
import Derived.Lib.AppendStr
import Derived.Laws.IdiomStrings
import Derived.Laws.BytesArg
import Derived.Laws.ResultCell
import Derived.Outline
import Derived.Recover
import Derived.Defers
import Derived.Deep.RegionHeld3
import Derived.Deep.Slices
import Derived.Deep.Strs
import Derived.OpenShut
import Derived.Lib.SmallJoins
import Derived.Deep.Quiet
import Derived.ChangeKeysEq
import Derived.ChangeSlices
import Derived.ProofKit
import Derived.Laws.EntriesVeiled
import Derived.StillTailTactics
import Derived.Laws.Rows
import Derived.Lib.Overlaps
import Derived.Deep.RegionWith
import Derived.Laws.Strings
import Derived.Laws.CopyOwn
import Derived.Laws.CopyRow
import Derived.Laws.NewBlocks
import Derived.Deep.RegionLaw
namespace Go.Proofs.Ytmnjmjbmnhppfaa
open Go.RowKit

/-- A byte's cell; the cells of bytes. -/
def byv (b : UInt8) : Value := .int .u8 (b.toNat : Int)
def bys (l : List UInt8) : List Value := l.map byv
theorem bys_len (l : List UInt8) : (bys l).length = l.length := by simp [bys]
theorem bys_app (l m : List UInt8) : bys (l ++ m) = bys l ++ bys m := by simp [bys]
theorem bys_one {l : List UInt8} : ∀ u ∈ bys l, u.oneCell' = true := by
  intro u hu
  simp only [bys, List.mem_map] at hu
  obtain ⟨z, _, rfl⟩ := hu
  rfl
theorem Row.byte {w : World} {a : Option Addr} {l : List UInt8} (h : Row w a (bys l)) {i : Nat} (hi : i < l.length) :
    ∃ b off, a = some ⟨b, off, none⟩ ∧ w.cell? ⟨b, off + i, none⟩ = some (.int .u8 (l[i].toNat : Int)) := by
  obtain ⟨b, off, ha, hc⟩ := h.at (k := i) (by rw [bys_len]; exact hi)
  exact ⟨b, off, ha, hc i _ (by simp [bys, hi, byv])⟩
theorem Row.byteAt {w : World} {b off : Nat} {l : List UInt8} (h : Row w (some ⟨b, off, none⟩) (bys l)) {i : Nat} (hi : i < l.length) : w.cell? ⟨b, off + i, none⟩ = some (.int .u8 (l[i].toNat : Int)) := by
  obtain ⟨b', off', e, hc⟩ := h.byte hi
  cases e
  exact hc

def manyI (w : Int) : Int := if w = 1 then 256 else if w = 2 then 65536 else if w = 4 then 4294967296 else if w = 6 then 281474976710656 else 0
theorem manyI_bd (w : Int) : 0 ≤ manyI w ∧ manyI w ≤ 281474976710656 := by unfold manyI; split; omega; split; omega; split; omega; split <;> omega
def fitsB (w n : Int) : Bool := decide (0 ≤ n) && decide (n < manyI w)
theorem fits_w {w n : Int} (h : fitsB w n = true) : (w = 1 ∨ w = 2 ∨ w = 4 ∨ w = 6) ∧ 0 ≤ n ∧ n < manyI w := by
  simp only [fitsB, Bool.and_eq_true, decide_eq_true_eq] at h
  refine ⟨?_, h.1, h.2⟩
  have := h.2
  unfold manyI at this
  split at this; · omega
  split at this; · omega
  split at this; · omega
  split at this <;> omega

/-- A number's bytes, the lowest first. -/
def le : Nat → Nat → List UInt8
  | 0, _ => []
  | k + 1, n => UInt8.ofNat (n % 256) :: le k (n / 256)
theorem le_len (k n : Nat) : (le k n).length = k := by
  induction k generalizing n with
  | zero => rfl
  | succ k ih => simp [le, ih]
theorem le_at (k n i : Nat) (h : i < k) : (le k n)[i]? = some (UInt8.ofNat (n / 256 ^ i % 256)) := by
  induction k generalizing n i with
  | zero => omega
  | succ k ih =>
    cases i with
    | zero => simp [le]
    | succ i =>
      simp only [le, List.getElem?_cons_succ]
      rw [ih (n / 256) i (by omega), Nat.div_div_eq_div_mul, Nat.pow_succ', ]
theorem le_snoc (k n : Nat) : le (k + 1) n = le k n ++ [UInt8.ofNat (n / 256 ^ k % 256)] := by
  induction k generalizing n with
  | zero => simp [le]
  | succ k ih =>
    rw [le, ih (n / 256)]
    simp only [le, List.cons_append, List.cons.injEq, true_and, List.append_cancel_left_eq, and_true]
    rw [Nat.div_div_eq_div_mul, Nat.pow_succ']
theorem byv_shift (n j : Nat) : byv (UInt8.ofNat (n / 256 ^ j % 256)) = .int .u8 ((n : Int) / 2 ^ (8 * j) % 256) := by
  unfold byv
  congr 1
  have e : (2 : Int) ^ (8 * j) = ((256 ^ j : Nat) : Int) := by
    rw [Int.pow_mul]; norm_cast
  rw [e, ← Int.natCast_ediv, show (256 : Int) = ((256 : Nat) : Int) from rfl, ← Int.natCast_emod]
  congr 1
  simp
theorem byv_low (n : Nat) : byv (UInt8.ofNat (n % 256)) = .int .u8 ((n : Int) % 256) := by
  have := byv_shift n 0
  simpa using this
/-- The number that bytes are. -/
def ofLe : List UInt8 → Nat
  | [] => 0
  | b :: l => b.toNat + 256 * ofLe l
theorem ofLe_lt : ∀ l : List UInt8, ofLe l < 256 ^ l.length
  | [] => by simp [ofLe]
  | b :: l => by
    have h1 := ofLe_lt l
    have h2 : b.toNat < 256 := b.toNat_lt
    simp only [ofLe, List.length_cons, Nat.pow_succ]
    omega
theorem ofLe_le (k n : Nat) (h : n < 256 ^ k) : ofLe (le k n) = n := by
  induction k generalizing n with
  | zero => simp at h; subst h; rfl
  | succ k ih =>
    simp only [le, ofLe]
    rw [ih (n / 256) (by rw [Nat.pow_succ] at h; omega)]
    have : (UInt8.ofNat (n % 256)).toNat = n % 256 := by simp
    rw [this]; omega
theorem le_ofLe : ∀ l : List UInt8, le l.length (ofLe l) = l
  | [] => rfl
  | b :: l => by
    have h2 : b.toNat < 256 := b.toNat_lt
    simp only [List.length_cons, le, ofLe]
    rw [show (b.toNat + 256 * ofLe l) / 256 = ofLe l by omega, show (b.toNat + 256 * ofLe l) % 256 = b.toNat by omega, le_ofLe l]
    simp
theorem ofLe_app (l m : List UInt8) : ofLe (l ++ m) = ofLe l + 256 ^ l.length * ofLe m := by
  induction l with
  | nil => simp [ofLe]
  | cons b l ih =>
    simp only [List.cons_append, ofLe, ih, List.length_cons, Nat.pow_succ]
    rw [Nat.mul_add, Nat.mul_comm (256 ^ l.length) 256, Nat.mul_assoc]
    omega
end Go.Proofs.Ytmnjmjbmnhppfaa

namespace Go.Proofs.Ytmnjmjbmnhppfaa
open Go.RowKit

set_option maxHeartbeats 1000000 in
theorem many_any (n : Int) (w : World) : Calls Try.prog 91 #[.int .i64 n] w fun e w' => e = .returned (.int .i64 (manyI n)) ∧ Below w.heap.size w w' := by
  by_cases h0 : n < 0
  · go_enter Try.func91, Try.ntmps91
    go_wp2
    go_ret
    exact ⟨ret_int (by unfold manyI; split; omega; split; omega; split; omega; split <;> omega), (Below.refl _ _).alloc (Nat.le_refl _) _⟩
  · by_cases h7 : 7 ≤ n
    · go_enter Try.func91, Try.ntmps91
      go_wp2
      go_ret
      exact ⟨ret_int (by unfold manyI; split; omega; split; omega; split; omega; split <;> omega), (Below.refl _ _).alloc (Nat.le_refl _) _⟩
    · have h : n = 0 ∨ n = 1 ∨ n = 2 ∨ n = 3 ∨ n = 4 ∨ n = 5 ∨ n = 6 := by omega
      rcases h with rfl | rfl | rfl | rfl | rfl | rfl | rfl
      all_goals
        go_enter Try.func91, Try.ntmps91
        go_wp2
        go_ret
        exact ⟨rfl, (Below.refl _ _).alloc (Nat.le_refl _) _⟩

theorem fits_any (k n : Int) (w : World) : Calls Try.prog 89 #[.int .i64 k, .int .i64 n] w fun e w' => e = .returned (.bool (fitsB k n)) ∧ Below w.heap.size w w' := by
  by_cases h0 : 0 ≤ n
  · go_enter Try.func89, Try.ntmps89
    go_wp2_with (go_at_call 91; refine (many_any _ _).mono ?_; rintro e w1 ⟨rfl, hb1⟩)
    go_ret
    exact ⟨ret_bool (by simp [fitsB, h0]), hb1⟩
  · go_enter Try.func89, Try.ntmps89
    go_wp2
    go_ret
    exact ⟨ret_bool (by unfold fitsB; rw [decide_eq_false (by omega)]; rfl), Below.refl _ _⟩

theorem elByte : ElemT Try.prog 26 5 1 1 := ElemT.of (.int .u8 0) Try.underlying26 (by kernel_rfl) rfl (by decide)

theorem wpList_makeN {P : Program} {w : World} {ops : Array Oper} {rest : List Oper} {o : Oper} {a : Act} {Q : Exit → Act → World → Prop} (hgd : o.guard = none) (l c : Operand) (t : TypeId) (hop : o.op = Op.makeSlice t l c) {e : TypeId} {size bytes : Nat} (hT : ElemT P t e size bytes)
    (base : Nat) (kl kc : IntKind) (L C : Int) (n : Nat) (hl : a.eval l = .int kl L) (hc : a.eval c = .int kc C) (hL : L = (n : Int)) (hC : C = (n : Int)) (hn : n ≤ 4294967296) (hby : bytes ≤ 4096) (b4 : base ≤ w.heap.size)
    (hK : ∀ w' zs, zs.length = n * size → w'.ownsRow base e size (.slice (some ⟨w.heap.size, 0, none⟩) n n) n zs → w.grownBy w' none → wpList P ops Q rest (a.put o.dst (.slice (some ⟨w.heap.size, 0, none⟩) n n)) w') :
    wpList P ops Q (o :: rest) a w := by
  obtain ⟨i, z, ht, hi, hz, hsize, hbytes, hzs, hsz⟩ := hT.ex
  have hb1 : bytes * n ≤ 4096 * 4294967296 := Nat.mul_le_mul hby hn
  exact wpList_make_full w hgd l c t hop base e i z size ht hi hz hsize kl kc L C n hl hc hL hC (by rw [hbytes]; omega) (by unfold maxLen; omega) b4 (fun w' h1 h2 => hK w' _ h1.1 h1 h2)

def OwnBytes (base : Nat) (l : List UInt8) (err : Int) (e : Ending) (w' : World) : Prop := ∃ v, e = .returned (.tuple #[v, .int .i64 err]) ∧ w'.ownsRow base 5 1 v l.length (bys l)

def oputL (k n : Int) : List UInt8 := if fitsB k n = true then le k.toNat n.toNat else []
def oputE (k n : Int) : Int := if fitsB k n = true then 0 else 2

set_option maxHeartbeats 1000000 in
theorem put_any (k n : Int) (w : World) : Calls Try.prog 55 #[.int .i64 k, .int .i64 n] w fun e w' => OwnBytes w.heap.size (oputL k n) (oputE k n) e w' ∧ Below w.heap.size w w' := by
  unfold oputL oputE
  cases hf : fitsB k n
  · rw [if_neg (by simp), if_neg (by simp)]
    have HF := Lib.hid hf
    clear hf
    go_enter Try.func55, Try.ntmps55
    go_wp2_with (go_at_call 89; refine (fits_any _ _ _).mono ?_; rintro e w1 ⟨rfl, hb1⟩; rw [HF.out])
    go_ret2
    exact ⟨⟨.slice none 0 0, rfl, World.ownsRow_nil _ _ _ _⟩, hb1⟩
  · rw [if_pos rfl, if_pos rfl]
    obtain ⟨hk, h0, hn⟩ := fits_w hf
    have HF := Lib.hid hf
    clear hf
    go_enter Try.func55, Try.ntmps55
    refine wp_seq_k (fun K hK => ?_)
    have HK := Lib.hid hK
    clear hK
    go_wp2
    refine HK.out _ _ ?_
    clear HK
    refine wp_seq_k (fun K hK => ?_)
    have HK := Lib.hid hK
    clear hK
    go_wp2_with (go_at_call 89; refine (fits_any _ _ _).mono ?_; rintro e w1 ⟨rfl, hb1⟩; rw [HF.out])
    refine HK.out _ _ ?_
    clear HK
    obtain ⟨kk, rfl⟩ : ∃ kk : Nat, k = kk := ⟨k.toNat, by omega⟩
    obtain ⟨nn, rfl⟩ : ∃ nn : Nat, n = nn := ⟨n.toNat, by omega⟩
    simp only [Int.toNat_natCast]
    have hk6 : kk ≤ 6 := by omega
    have hn48 := (manyI_bd kk).2
    have hz1 := hb1.size
    refine wp_seq_k (fun K hK => ?_)
    have HK := Lib.hid hK
    clear hK
    go_wp2_with (at_make; refine wpList_makeN rfl _ _ _ rfl elByte w1.heap.size .i64 .i64 _ _ kk rfl rfl rfl rfl (by omega) (by omega) (Nat.le_refl _) ?_)
    intro w2 zs hzl hown hgr
    have hb2 := hb1.trans (grown_below hgr hz1 (by simp))
    go_wp2
    refine HK.out _ _ ?_
    clear HK
    refine wp_seq_k (fun K hK => ?_)
    go_cut [] (fun wx => wx.ownsRow w1.heap.size 5 1 (.slice (some ⟨w1.heap.size, 0, none⟩) kk kk) kk (bys (le kk nn)) ∧ Below w.heap.size w wx)
    case first =>
      go_wp2_with fail
      go_loopw [15] (fun i wr => ∃ j : Nat, j ≤ kk ∧ i = .int .i64 j ∧ Below w.heap.size w wr ∧ ∃ zs, zs.length + j = kk ∧ wr.ownsRow w1.heap.size 5 1 (.slice (some ⟨w1.heap.size, 0, none⟩) kk kk) kk (bys (le j nn) ++ zs)) (fun i _ => kk - (intOf i).toNat)
      case atStart => exact ⟨0, by omega, rfl, hb2, zs, by omega, by simpa [le, bys] using hown⟩
      case round =>
        obtain ⟨j, hj, rfl, hbr, zt, hzt, hor⟩ := hrel
        by_cases hlt : j < kk
        · cases zt with
          | nil => simp at hzt; omega
          | cons z0 zt =>
            have hst := hor.stored j (byv (UInt8.ofNat (nn / 256 ^ j % 256)))
            have hc0 := hor.cellAt j (by omega)
            rw [List.getElem?_append_right (by simp [bys_len, le_len]), bys_len, le_len, Nat.sub_self] at hc0
            simp only [List.getElem?_cons_zero] at hc0
            have hf0 := hor.frozenAt j
            have HST := Lib.hid hst
            clear hst
            go_wp2
            have hst := HST.out
            rw [byv_shift] at hst
            refine ⟨⟨j + 1, by omega, by go_num, hbr.trans (grown_below hst.2 hbr.size (fun g hg => by cases hg; exact hz1)), zt, by simp at hzt; omega, ?_⟩, by simp [intOf]; omega⟩
            have h5 := hst.1
            rw [List.set_append_right _ _ (by simp [bys_len, le_len]), bys_len, le_len, Nat.sub_self, List.set_cons_zero] at h5
            rw [le_snoc, bys_app, List.append_assoc]
            have e1 : bys [UInt8.ofNat (nn / 256 ^ j % 256)] = [.int .u8 ((nn : Int) / 2 ^ (8 * j) % 256)] := by simp only [bys, List.map_cons, List.map_nil, byv_shift]
            rw [e1]
            exact h5
        · go_wp2
          go_meet
          obtain rfl : j = kk := by omega
          obtain rfl : zt = [] := List.eq_nil_of_length_eq_zero (by omega)
          exact ⟨by simpa using hor, hbr⟩
    obtain ⟨hown2, hb3⟩ := hcut
    refine hK _ _ ?_; clear hK
    go_wp2
    go_ret2
    refine ⟨⟨.slice (some ⟨w1.heap.size, 0, none⟩) kk kk, rfl, ?_⟩, hb3⟩
    rw [le_len]
    exact owns_mono hown2 hz1
end Go.Proofs.Ytmnjmjbmnhppfaa

namespace Go.Proofs.Ytmnjmjbmnhppfaa
open Go.RowKit

/-- Where a piece of a row lies: Go keeps the old address where nothing is left. -/
def pieceA (a : Option Addr) (cap at_ : Nat) : Option Addr := if cap = at_ then a else a.map (fun x => x.add at_)

theorem Row.drop {w : World} {a : Option Addr} {xs : List Value} (h : Row w a xs) {cap : Nat} (hc : xs.length ≤ cap) (k : Nat) (hk : k ≤ xs.length) : Row w (pieceA a cap k) (xs.drop k) := by
  by_cases he : xs.length = k
  · left; rw [List.drop_of_length_le (by omega)]
  · obtain ⟨b, off, rfl, hcell⟩ := h.at (k := k) (by omega)
    right
    refine ⟨b, off + k, ?_, fun i u hu => ?_⟩
    · unfold pieceA
      rw [if_neg (by omega)]
      simp [addr_add]
    · rw [Nat.add_assoc]
      exact hcell (k + i) u (by rw [List.getElem?_drop] at hu; exact hu)
theorem Row.take {w : World} {a : Option Addr} {xs : List Value} (h : Row w a xs) (n : Nat) : Row w a (xs.take n) := by
  rcases h with h | ⟨b, off, ha, hc⟩
  · left; simp [h]
  · refine .inr ⟨b, off, ha, fun i u hu => hc i u ?_⟩
    have hi := (List.getElem?_eq_some_iff.1 hu).1
    rw [List.length_take] at hi
    rwa [List.getElem?_take_of_lt (by omega)] at hu

def pieceE (len : Nat) (at_ n : Int) : Int := if at_ < 0 ∨ len < at_ then 2 else if len - at_ < n then 10 else 0

set_option maxHeartbeats 1000000 in
theorem piece_bad (a : Option Addr) (len cap : Nat) (at_ n : Int) (w : World) (hm : len ≤ maxLen) (h : pieceE len at_ n ≠ 0) :
    Calls Try.prog 92 #[.slice a len cap, .int .i64 at_, .int .i64 n] w fun e w' => e = .returned (.tuple #[.slice none 0 0, .int .i64 (pieceE len at_ n)]) ∧ w = w' := by
  unfold maxLen at hm
  unfold pieceE at h ⊢
  by_cases h1 : at_ < 0
  · rw [if_pos (.inl h1)]
    go_enter Try.func92, Try.ntmps92
    go_wp2
    go_ret2
    exact ⟨rfl, rfl⟩
  · by_cases h2 : (len : Int) < at_
    · rw [if_pos (.inr h2)]
      go_enter Try.func92, Try.ntmps92
      go_wp2
      go_ret2
      exact ⟨rfl, rfl⟩
    · rw [if_neg (by omega)] at h ⊢
      by_cases h3 : (len : Int) - at_ < n
      · rw [if_pos h3]
        go_enter Try.func92, Try.ntmps92
        go_wp2
        go_ret2
        exact ⟨rfl, rfl⟩
      · rw [if_neg h3] at h
        exact absurd rfl h

set_option maxHeartbeats 1000000 in
theorem piece_ok (a : Option Addr) (len cap at_ n : Nat) (w : World) (hm : cap ≤ maxLen) (hlc : len ≤ cap) (h : at_ + n ≤ len) (ha : a = none → cap = 0) :
    Calls Try.prog 92 #[.slice a len cap, .int .i64 at_, .int .i64 n] w fun e w' => e = .returned (.tuple #[.slice (pieceA a cap at_) n (cap - at_), .int .i64 0]) ∧ w = w' := by
  unfold maxLen at hm
  have hs : at_ + n - at_ = n := by omega
  by_cases hc : cap = at_
  · subst hc
    go_enter Try.func92, Try.ntmps92
    go_wp2
    go_ret2
    refine ⟨?_, rfl⟩
    unfold pieceA
    rw [if_pos rfl, hs, Nat.sub_self]
    rfl
  · cases a with
    | none =>
      have := ha rfl
      omega
    | some ad =>
      have hw1 : ¬ cap = at_ := hc
      go_enter Try.func92, Try.ntmps92
      go_wp2
      go_ret2
      refine ⟨?_, rfl⟩
      unfold pieceA
      rw [if_neg hc, hs]
      rfl

/-- A slice of bytes that is read. -/
structure SlB (w : World) (a : Option Addr) (cap : Nat) (l : List UInt8) : Prop where
  row : Row w a (bys l)
  le : l.length ≤ cap
  max : cap ≤ maxLen
  nil : a = none → cap = 0
theorem SlB.below {w w' : World} {a : Option Addr} {cap : Nat} {l : List UInt8} (h : SlB w a cap l) (hb : Below w.heap.size w w') : SlB w' a cap l := ⟨h.row.below0 hb, h.le, h.max, h.nil⟩
theorem SlB.of_owns {w : World} {base : Nat} {e : TypeId} {v : Value} {l : List UInt8} (h : w.ownsRow base e 1 v l.length (bys l)) : ∃ a cap, v = .slice a l.length cap ∧ SlB w a cap l := by
  obtain ⟨a, cap, hv, hr, hn, hm⟩ := Row.of_owns h
  refine ⟨a, cap, hv, hr, hn, hm, fun ha => ?_⟩
  obtain ⟨_, ⟨hv', _⟩ | ⟨g, cap', cur, hv', _⟩⟩ := h
  · rw [hv] at hv'
    simp only [Value.slice.injEq] at hv'
    exact hv'.2.2
  · rw [hv] at hv'
    simp only [Value.slice.injEq] at hv'
    rw [ha] at hv'
    cases hv'.1

/-- What Get tells. -/
def getE (len : Nat) (at_ k : Int) : Int := if manyI k = 0 then 2 else pieceE len at_ k
def getN (l : List UInt8) (at_ k : Nat) : Nat := ofLe ((l.drop at_).take k)

theorem many_w {k : Int} (h : manyI k ≠ 0) : k = 1 ∨ k = 2 ∨ k = 4 ∨ k = 6 := by
  unfold manyI at h
  split at h; · omega
  split at h; · omega
  split at h; · omega
  split at h
  · omega
  · exact absurd rfl h

set_option maxHeartbeats 1000000 in
theorem get_bad (a : Option Addr) (len cap : Nat) (at_ k : Int) (w : World) (hm : len ≤ maxLen) (h : getE len at_ k ≠ 0) :
    Calls Try.prog 57 #[.slice a len cap, .int .i64 at_, .int .i64 k] w fun e w' => e = .returned (.tuple #[.int .i64 0, .int .i64 0, .int .i64 (getE len at_ k)]) ∧ Below w.heap.size w w' := by
  unfold getE at h ⊢
  by_cases h0 : manyI k = 0
  · rw [if_pos h0]
    have HM := Lib.hid h0
    clear h0 h
    go_enter Try.func57, Try.ntmps57
    go_wp2_with (go_at_call 91; refine (many_any _ _).mono ?_; rintro e w1 ⟨rfl, hb1⟩; rw [HM.out])
    go_ret3
    exact ⟨rfl, hb1⟩
  · rw [if_neg h0] at h ⊢
    have hme : (manyI k == 0) = false := by rw [beq_eq_false_iff_ne]; exact h0
    clear h0
    have hne : ((pieceE len at_ k) != 0) = true := by rw [bne_iff_ne]; exact h
    have HP := Lib.hid h
    clear h
    go_enter Try.func57, Try.ntmps57
    go_wp2_with (first | (go_at_call 91; refine (many_any _ _).mono ?_; rintro e w1 ⟨rfl, hb1⟩) | (go_at_call 92; refine (piece_bad a len cap at_ k _ hm HP.out).mono ?_; rintro e w1 ⟨rfl, rfl⟩))
    go_ret3
    exact ⟨rfl, hb1⟩

theorem or_byte (n x : Nat) (hn : n < 256 ^ 5) (hx : x < 256) : bits .or .i64 ((n : Int) * 256) (x : Int) = ((x + 256 * n : Nat) : Int) := by
  have e : (n : Int) * 256 = ((2 ^ 8 * n : Nat) : Int) := by omega
  have h1 : 2 ^ 8 * n + x = 2 ^ 8 * n ||| x := Nat.two_pow_add_eq_or_of_lt (by omega) n
  rw [e]
  show IntKind.i64.wrap ((BitVec.ofInt 64 ((2 ^ 8 * n : Nat) : Int) ||| BitVec.ofInt 64 (x : Int)).toNat : Int) = _
  rw [BitVec.toNat_or, ofInt_u64 _ (by omega), ofInt_u64 _ (by omega), ← h1, IntWalk.i64_in _ (by omega)]
  omega

set_option maxHeartbeats 1000000 in
theorem get_ok (a : Option Addr) (cap : Nat) (l : List UInt8) (at_ k : Nat) (w : World) (hs : SlB w a cap l) (hk : k = 1 ∨ k = 2 ∨ k = 4 ∨ k = 6) (h : at_ + k ≤ l.length) :
    Calls Try.prog 57 #[.slice a l.length cap, .int .i64 at_, .int .i64 k] w fun e w' => e = .returned (.tuple #[.int .i64 (getN l at_ k), .int .i64 ((at_ : Int) + k), .int .i64 0]) ∧ Below w.heap.size w w' := by
  have hmn : manyI k ≠ 0 := by unfold manyI; rcases hk with rfl | rfl | rfl | rfl <;> simp
  have hme : (manyI k == 0) = false := by rw [beq_eq_false_iff_ne]; exact hmn
  clear hmn
  have hrow : Row w (pieceA a cap at_) (bys ((l.drop at_).take k)) := by
    have h1 := (hs.row.drop (cap := cap) (by rw [bys_len]; exact hs.le) at_ (by rw [bys_len]; omega)).take k
    have e : bys ((l.drop at_).take k) = ((bys l).drop at_).take k := by simp [bys, List.map_take, List.map_drop]
    rw [e]; exact h1
  have hpl : ((l.drop at_).take k).length = k := by rw [List.length_take, List.length_drop]; omega
  have hmx := hs.max
  unfold maxLen at hmx
  have hle := hs.le
  have hnil := hs.nil
  unfold getN
  generalize (l.drop at_).take k = p at *
  go_enter Try.func57, Try.ntmps57
  refine wp_seq_k (fun K hK => ?_)
  have HK := Lib.hid hK
  clear hK
  go_wp2
  refine HK.out _ _ ?_
  clear HK
  refine wp_seq_k (fun K hK => ?_)
  have HK := Lib.hid hK
  clear hK
  go_wp2_with (go_at_call 91; refine (many_any _ _).mono ?_; rintro e w1 ⟨rfl, hb1⟩)
  refine HK.out _ _ ?_
  clear HK
  have hrow1 := hrow.below0 hb1
  refine wp_seq_k (fun K hK => ?_)
  have HK := Lib.hid hK
  clear hK
  go_wp2_with (go_at_call 92; refine (piece_ok a l.length cap at_ k _ (by unfold maxLen; omega) hle h hnil).mono ?_; rintro e w2 ⟨rfl, rfl⟩)
  refine HK.out _ _ ?_
  clear HK
  generalize pieceA a cap at_ = pa at *
  refine wp_seq_k (fun K hK => ?_)
  have HK := Lib.hid hK
  clear hK
  go_wp2
  refine HK.out _ _ ?_
  clear HK
  refine wp_seq_k (fun K hK => ?_)
  have HK := Lib.hid hK
  clear hK
  go_wp2
  refine HK.out _ _ ?_
  clear HK
  refine wp_seq_k (fun K hK => ?_)
  go_cut [11] (fun n wx => n = .int .i64 (ofLe p : Nat) ∧ wx = w1)
  case first =>
    go_wp2_with fail
    go_loopw [11, 12, 27] (fun n _ i wr => ∃ j : Nat, j ≤ k ∧ i = .int .i64 j ∧ n = .int .i64 (ofLe (p.drop (k - j)) : Nat) ∧ wr = w1) (fun _ _ i _ => k - (intOf i).toNat)
    case atStart => exact ⟨0, by omega, rfl, by rw [Nat.sub_zero, List.drop_of_length_le (by omega)]; rfl, rfl⟩
    case round =>
      obtain ⟨j, hj, rfl, rfl, rfl⟩ := hrel
      by_cases hlt : j < k
      · obtain ⟨b, off, hpa, hc⟩ := hrow1.byte (i := k - 1 - j) (by omega)
        have hst : ofLe (p.drop (k - (j + 1))) = (p[k - 1 - j]'(by omega)).toNat + 256 * ofLe (p.drop (k - j)) := by
          rw [show k - (j + 1) = k - 1 - j by omega, List.drop_eq_getElem_cons (by omega), ofLe, show k - 1 - j + 1 = k - j by omega]
        have hlt2 : ofLe (p.drop (k - j)) < 256 ^ 5 := by
          refine Nat.lt_of_lt_of_le (ofLe_lt _) ?_
          rw [List.length_drop]
          exact Nat.pow_le_pow_right (by omega) (by omega)
        have hb := (p[k - 1 - j]'(by omega)).toNat_lt
        generalize (p[k - 1 - j]'(by omega)).toNat = x at *
        have HST := Lib.hid hst
        clear hst
        generalize ofLe (p.drop (k - j)) = n at *
        have HPA := Lib.hid hpa
        clear hpa
        rw [HPA.out]
        go_wp2
        refine ⟨⟨j + 1, by omega, by go_num, ?_, by first | trivial | rfl⟩, by simp [intOf]; omega⟩
        rw [HST.out, or_byte n x hlt2 hb]
      · obtain rfl : j = k := by omega
        rw [Nat.sub_self, List.drop_zero]
        go_wp2
        go_meet
        exact ⟨rfl, by first | trivial | rfl⟩
  obtain ⟨rfl, rfl⟩ := hcut
  refine hK _ _ ?_; clear hK
  go_wp2
  go_ret3
  exact ⟨rfl, hb1⟩
end Go.Proofs.Ytmnjmjbmnhppfaa

namespace Go.Proofs.Ytmnjmjbmnhppfaa

def txt (s : Tx) : List UInt8 := le 1 s.size ++ s.toList
def pairB (p : Pr) : List UInt8 := txt p.1 ++ txt p.2
def flagN (f : Bool) : Nat := if f then 1 else 0
def rowB (r : Rw) : List UInt8 := le 6 r.seq.toNat ++ (le 2 r.rep.err.toNat ++ (le 1 (flagN r.rep.found) ++ txt r.rep.val))
def pairsB (l : List Pr) : List UInt8 := l.flatMap pairB
def rowsB (l : List Rw) : List UInt8 := l.flatMap rowB
def imB (m : Im) : List UInt8 := le 6 m.idx.toNat ++ (le 1 m.st.length ++ (pairsB m.st ++ rowsB m.tb.list))

def txOf (l : List UInt8) : Tx := ⟨l.toArray⟩
theorem txOf_list (l : List UInt8) : (txOf l).toList = l := by
  rw [ByteArray.toList_eq]
  rfl
theorem txOf_size (l : List UInt8) : (txOf l).size = l.length := rfl
theorem txOf_of (s : Tx) : txOf s.toList = s := tx_ext (txOf_list _)

def rdN (l : List UInt8) (a k : Nat) : Option (Nat × Nat) := if a + k ≤ l.length then some (getN l a k, a + k) else none
def rdT (l : List UInt8) (a : Nat) : Option (Tx × Nat) :=
  match rdN l a 1 with
  | none => none
  | some (n, a1) => if a1 + n ≤ l.length then some (txOf ((l.drop a1).take n), a1 + n) else none
def rdF (l : List UInt8) (a : Nat) : Option (Bool × Nat) :=
  match rdN l a 1 with
  | none => none
  | some (n, a1) => if 1 < n then none else some (n == 1, a1)
def rdRow (l : List UInt8) (a : Nat) : Option (Rw × Nat) :=
  match rdN l a 6 with
  | none => none
  | some (s, a1) => match rdN l a1 2 with
    | none => none
    | some (e, a2) => match rdF l a2 with
      | none => none
      | some (f, a3) => match rdT l a3 with
        | none => none
        | some (v, a4) => some (⟨s, ⟨e, f, v⟩⟩, a4)
def rdPairs (l : List UInt8) : Nat → Nat → List Pr → Option (List Pr × Nat)
  | 0, a, acc => some (acc, a)
  | n + 1, a, acc => match rdT l a with
    | none => none
    | some (k, a1) => match rdT l a1 with
      | none => none
      | some (v, a2) => rdPairs l n a2 (acc ++ [(k, v)])
def rdRows (l : List UInt8) : Nat → Nat → List Rw → Option (List Rw × Nat)
  | 0, a, acc => some (acc, a)
  | n + 1, a, acc => match rdRow l a with
    | none => none
    | some (r, a1) => rdRows l n a1 (acc ++ [r])
instance : Inhabited Rw := ⟨⟨0, zeroR⟩⟩
def tbOf (l : List Rw) : Tb := ⟨l.getD 0 default, l.getD 1 default, l.getD 2 default, l.getD 3 default⟩
/-- From the pairs on, so many of them to come. -/
def rdRest (l : List UInt8) (i : Int) (n a : Nat) (acc : List Pr) : Option (Im × Nat) :=
  match rdPairs l n a acc with
  | none => none
  | some (st, a3) => match rdRows l 4 a3 [] with
    | none => none
    | some (rs, a4) => some (⟨i, st, tbOf rs⟩, a4)
def rdAll (l : List UInt8) : Option (Im × Nat) :=
  match rdN l 0 6 with
  | none => none
  | some (i, a1) => match rdN l a1 1 with
    | none => none
    | some (n, a2) => rdRest l i n a2 []
def parseI (l : List UInt8) : Option Im :=
  match rdAll l with
  | none => none
  | some (m, a) => if a < l.length ∨ mayI m = false then none else some m

/-! What is read is what stands there. -/
theorem rdN_spec {l : List UInt8} {a k n a1 : Nat} (h : rdN l a k = some (n, a1)) : l.drop a = le k n ++ l.drop a1 ∧ a1 = a + k ∧ a1 ≤ l.length ∧ n < 256 ^ k := by
  unfold rdN at h
  split at h
  · rename_i hk
    injection h with h
    injection h with h1 h2
    subst h1 h2
    have hpl : ((l.drop a).take k).length = k := by rw [List.length_take, List.length_drop]; omega
    refine ⟨?_, rfl, hk, ?_⟩
    · have e := le_ofLe ((l.drop a).take k)
      rw [hpl] at e
      unfold getN
      rw [e, ← List.drop_drop, List.take_append_drop]
    · unfold getN
      have := ofLe_lt ((l.drop a).take k)
      rwa [hpl] at this
  · cases h
theorem rdT_spec {l : List UInt8} {a a1 : Nat} {s : Tx} (h : rdT l a = some (s, a1)) : l.drop a = txt s ++ l.drop a1 ∧ a ≤ a1 ∧ a1 ≤ l.length ∧ s.size < 256 := by
  unfold rdT at h
  split at h
  · cases h
  · rename_i n a2 h1
    obtain ⟨e1, e2, e3, e4⟩ := rdN_spec h1
    split at h
    · rename_i hn
      injection h with h
      injection h with h2 h3
      subst h2 h3
      have hsz : (txOf ((l.drop a2).take n)).size = n := by rw [txOf_size, List.length_take, List.length_drop]; omega
      refine ⟨?_, by omega, hn, by rw [hsz]; omega⟩
      unfold txt
      rw [hsz, txOf_list, e1, List.append_assoc]
      congr 1
      rw [← List.drop_drop, List.take_append_drop]
    · cases h
theorem rdF_spec {l : List UInt8} {a a1 : Nat} {f : Bool} (h : rdF l a = some (f, a1)) : l.drop a = le 1 (flagN f) ++ l.drop a1 ∧ a ≤ a1 ∧ a1 ≤ l.length := by
  unfold rdF at h
  split at h
  · cases h
  · rename_i n a2 h1
    obtain ⟨e1, e2, e3, e4⟩ := rdN_spec h1
    split at h
    · cases h
    · rename_i hn
      injection h with h
      injection h with h2 h3
      subst h2 h3
      refine ⟨?_, by omega, e3⟩
      rw [e1]
      have : n = 0 ∨ n = 1 := by omega
      rcases this with rfl | rfl <;> rfl
theorem rdRow_spec {l : List UInt8} {a a1 : Nat} {r : Rw} (h : rdRow l a = some (r, a1)) : l.drop a = rowB r ++ l.drop a1 ∧ a ≤ a1 ∧ a1 ≤ l.length := by
  unfold rdRow at h
  split at h
  · cases h
  · rename_i s b1 h1
    split at h
    · cases h
    · rename_i e b2 h2
      split at h
      · cases h
      · rename_i f b3 h3
        split at h
        · cases h
        · rename_i v b4 h4
          injection h with h
          injection h with hr ha
          subst hr ha
          obtain ⟨p1, p2, p3, p4⟩ := rdN_spec h1
          obtain ⟨q1, q2, q3, q4⟩ := rdN_spec h2
          obtain ⟨r1, r2, r3⟩ := rdF_spec h3
          obtain ⟨s1, s2, s3, s4⟩ := rdT_spec h4
          refine ⟨?_, by omega, s3⟩
          unfold rowB
          rw [p1, q1, r1, s1]
          simp only [Int.toNat_natCast, List.append_assoc]
theorem rdPairs_spec {l : List UInt8} : ∀ {n a a1 : Nat} {acc st : List Pr}, rdPairs l n a acc = some (st, a1) → a ≤ l.length → ∃ new, st = acc ++ new ∧ new.length = n ∧ l.drop a = pairsB new ++ l.drop a1 ∧ a ≤ a1 ∧ a1 ≤ l.length := by
  intro n
  induction n with
  | zero =>
    intro a a1 acc st h hl
    simp only [rdPairs] at h
    injection h with h
    injection h with h1 h2
    subst h1 h2
    exact ⟨[], by simp, rfl, by simp [pairsB], Nat.le_refl _, hl⟩
  | succ n ih =>
    intro a a1 acc st h hl
    simp only [rdPairs] at h
    split at h
    · cases h
    · rename_i k b1 h1
      split at h
      · cases h
      · rename_i v b2 h2
        obtain ⟨p1, p2, p3, p4⟩ := rdT_spec h1
        obtain ⟨q1, q2, q3, q4⟩ := rdT_spec h2
        obtain ⟨new, e1, e2, e3, e4, e5⟩ := ih h q3
        refine ⟨(k, v) :: new, by rw [e1]; simp, by simp [e2], ?_, by omega, e5⟩
        rw [p1, q1, e3]
        simp [pairsB, pairB]
theorem rdRows_spec {l : List UInt8} : ∀ {n a a1 : Nat} {acc rs : List Rw}, rdRows l n a acc = some (rs, a1) → a ≤ l.length → ∃ new, rs = acc ++ new ∧ new.length = n ∧ l.drop a = rowsB new ++ l.drop a1 ∧ a ≤ a1 ∧ a1 ≤ l.length := by
  intro n
  induction n with
  | zero =>
    intro a a1 acc rs h hl
    simp only [rdRows] at h
    injection h with h
    injection h with h1 h2
    subst h1 h2
    exact ⟨[], by simp, rfl, by simp [rowsB], Nat.le_refl _, hl⟩
  | succ n ih =>
    intro a a1 acc rs h hl
    simp only [rdRows] at h
    split at h
    · cases h
    · rename_i r b1 h1
      obtain ⟨p1, p2, p3⟩ := rdRow_spec h1
      obtain ⟨new, e1, e2, e3, e4, e5⟩ := ih h p3
      refine ⟨r :: new, by rw [e1]; simp, by simp [e2], ?_, by omega, e5⟩
      rw [p1, e3]
      simp [rowsB]
theorem rdAll_spec {l : List UInt8} {m : Im} {a : Nat} (h : rdAll l = some (m, a)) : l = imB m ++ l.drop a ∧ a ≤ l.length := by
  unfold rdAll at h
  split at h
  · cases h
  · rename_i i a1 h1
    split at h
    · cases h
    · rename_i n a2 h2
      unfold rdRest at h
      split at h
      · cases h
      · rename_i st a3 h3
        split at h
        · cases h
        · rename_i rs a4 h4
          injection h with h
          injection h with hm ha
          subst hm ha
          obtain ⟨p1, p2, p3, p4⟩ := rdN_spec h1
          obtain ⟨q1, q2, q3, q4⟩ := rdN_spec h2
          obtain ⟨new, e1, e2, e3, e4, e5⟩ := rdPairs_spec h3 q3
          obtain ⟨nr, f1, f2, f3, f4, f5⟩ := rdRows_spec h4 e5
          rw [List.nil_append] at e1 f1
          subst e1 f1
          refine ⟨?_, f5⟩
          have ht : (tbOf rs).list = rs := by
            match rs, f2 with
            | [r0, r1, r2, r3], _ => rfl
          unfold imB
          simp only [Int.toNat_natCast]
          rw [ht, e2]
          have hl0 : l = l.drop 0 := by simp
          conv => lhs; rw [hl0, p1, q1, e3, f3]
          simp only [List.append_assoc]
theorem parse_print {l : List UInt8} {m : Im} (h : parseI l = some m) : mayI m = true ∧ imB m = l := by
  unfold parseI at h
  split at h
  · cases h
  · rename_i m' a h1
    split at h
    · cases h
    · rename_i hn
      injection h with h
      subst h
      obtain ⟨e1, e2⟩ := rdAll_spec h1
      have ha : a = l.length := by omega
      subst ha
      rw [List.drop_length, List.append_nil] at e1
      refine ⟨?_, e1.symm⟩
      cases hm : mayI m' with
      | true => rfl
      | false => exact absurd (.inr hm) hn

/-! What stands there is read. -/
theorem getN_at {l pre post : List UInt8} {k n : Nat} (hl : l = pre ++ (le k n ++ post)) (hn : n < 256 ^ k) : getN l pre.length k = n := by
  subst hl
  unfold getN
  rw [List.drop_left]
  have : (le k n ++ post).take k = le k n := by
    have := List.take_left (l₁ := le k n) (l₂ := post)
    rwa [le_len] at this
  rw [this]
  exact ofLe_le k n hn
theorem rdN_at {l pre post : List UInt8} {k n : Nat} (hl : l = pre ++ (le k n ++ post)) (hn : n < 256 ^ k) : rdN l pre.length k = some (n, pre.length + k) := by
  unfold rdN
  rw [if_pos, getN_at hl hn]
  rw [hl]
  simp [le_len]
theorem rdT_at {l pre post : List UInt8} {s : Tx} (hl : l = pre ++ (txt s ++ post)) (hs : s.size < 256) : rdT l pre.length = some (s, pre.length + (txt s).length) := by
  have e1 : l = pre ++ (le 1 s.size ++ (s.toList ++ post)) := by rw [hl]; simp [txt]
  have hlen : (txt s).length = 1 + s.size := by simp [txt, le_len, tx_len]
  unfold rdT
  rw [rdN_at e1 (by omega)]
  simp only
  have e2 : l.drop (pre.length + 1) = s.toList ++ post := by
    rw [e1, ← List.append_assoc]
    have := List.drop_left (l₁ := pre ++ le 1 s.size) (l₂ := s.toList ++ post)
    rwa [List.length_append, le_len] at this
  rw [if_pos (by rw [e1]; simp [le_len, tx_len]; omega), e2]
  have e3 : (s.toList ++ post).take s.size = s.toList := by
    have := List.take_left (l₁ := s.toList) (l₂ := post)
    rwa [tx_len] at this
  rw [e3, txOf_of, hlen, Nat.add_assoc]
theorem rdF_at {l pre post : List UInt8} {f : Bool} (hl : l = pre ++ (le 1 (flagN f) ++ post)) : rdF l pre.length = some (f, pre.length + 1) := by
  unfold rdF
  rw [rdN_at hl (by cases f <;> decide)]
  cases f <;> rfl
theorem rdRow_at {l pre post : List UInt8} {r : Rw} (hl : l = pre ++ (rowB r ++ post)) (h1 : 0 ≤ r.seq) (h2 : r.seq ≤ 1099511627776) (h3 : 0 ≤ r.rep.err) (h4 : r.rep.err ≤ 999) (h5 : r.rep.val.size ≤ 16) :
    rdRow l pre.length = some (r, pre.length + (rowB r).length) := by
  obtain ⟨s, e, f, v⟩ := r
  simp only at h1 h2 h3 h4 h5
  have e1 : l = pre ++ (le 6 s.toNat ++ (le 2 e.toNat ++ (le 1 (flagN f) ++ (txt v ++ post)))) := by rw [hl]; simp [rowB]
  have e2 : l = (pre ++ le 6 s.toNat) ++ (le 2 e.toNat ++ (le 1 (flagN f) ++ (txt v ++ post))) := by rw [e1]; simp
  have e3 : l = (pre ++ le 6 s.toNat ++ le 2 e.toNat) ++ (le 1 (flagN f) ++ (txt v ++ post)) := by rw [e1]; simp
  have e4 : l = (pre ++ le 6 s.toNat ++ le 2 e.toNat ++ le 1 (flagN f)) ++ (txt v ++ post) := by rw [e1]; simp
  have r1 := rdN_at e1 (by omega)
  have r2 := rdN_at e2 (by omega)
  have r3 := rdF_at e3
  have r4 := rdT_at e4 (by omega)
  simp only [List.length_append, le_len] at r2 r3 r4
  unfold rdRow
  rw [r1]
  simp only
  rw [r2]
  simp only
  rw [r3]
  simp only
  rw [r4]
  simp only [rowB, List.length_append, le_len]
  congr 2
  · rw [Int.toNat_of_nonneg h1, Int.toNat_of_nonneg h3]
  · omega
theorem rdPairs_at {l : List UInt8} : ∀ (new : List Pr) (pre post : List UInt8) (acc : List Pr), l = pre ++ (pairsB new ++ post) → (∀ p ∈ new, p.1.size < 256 ∧ p.2.size < 256) →
    rdPairs l new.length pre.length acc = some (acc ++ new, pre.length + (pairsB new).length)
  | [], pre, post, acc, _, _ => by simp [rdPairs, pairsB]
  | p :: new, pre, post, acc, hl, hs => by
    have e1 : l = pre ++ (txt p.1 ++ (txt p.2 ++ (pairsB new ++ post))) := by rw [hl]; simp [pairsB, pairB]
    have e2 : l = (pre ++ txt p.1) ++ (txt p.2 ++ (pairsB new ++ post)) := by rw [e1]; simp
    have e3 : l = (pre ++ txt p.1 ++ txt p.2) ++ (pairsB new ++ post) := by rw [e1]; simp
    have h0 := hs p (by simp)
    have r1 := rdT_at e1 h0.1
    have r2 := rdT_at e2 h0.2
    have r3 := rdPairs_at new _ _ (acc ++ [(p.1, p.2)]) e3 (fun q hq => hs q (by simp [hq]))
    simp only [List.length_append] at r2 r3
    simp only [List.length_cons, rdPairs]
    rw [r1]
    simp only
    rw [r2]
    simp only
    rw [r3]
    simp only [pairsB, List.flatMap_cons, pairB, List.length_append, List.append_assoc, List.cons_append, List.nil_append]
    congr 2
    omega
theorem rdRows_at {l : List UInt8} : ∀ (new : List Rw) (pre post : List UInt8) (acc : List Rw), l = pre ++ (rowsB new ++ post) → (∀ r ∈ new, 0 ≤ r.seq ∧ r.seq ≤ 1099511627776 ∧ 0 ≤ r.rep.err ∧ r.rep.err ≤ 999 ∧ r.rep.val.size ≤ 16) →
    rdRows l new.length pre.length acc = some (acc ++ new, pre.length + (rowsB new).length)
  | [], pre, post, acc, _, _ => by simp [rdRows, rowsB]
  | r :: new, pre, post, acc, hl, hs => by
    have e1 : l = pre ++ (rowB r ++ (rowsB new ++ post)) := by rw [hl]; simp [rowsB]
    have e3 : l = (pre ++ rowB r) ++ (rowsB new ++ post) := by rw [e1]; simp
    obtain ⟨h1, h2, h3, h4, h5⟩ := hs r (by simp)
    have r1 := rdRow_at e1 h1 h2 h3 h4 h5
    have r3 := rdRows_at new _ _ (acc ++ [r]) e3 (fun q hq => hs q (by simp [hq]))
    simp only [List.length_append] at r3
    simp only [List.length_cons, rdRows]
    rw [r1]
    simp only
    rw [r3]
    simp only [rowsB, List.flatMap_cons, List.length_append, List.append_assoc, List.cons_append, List.nil_append]
    congr 2
    omega
theorem rows_ok {t : Tb} (h : mayT t = true) : ∀ r ∈ t.list, 0 ≤ r.seq ∧ r.seq ≤ 1099511627776 ∧ 0 ≤ r.rep.err ∧ r.rep.err ≤ 999 ∧ r.rep.val.size ≤ 16 := by
  rw [mayT_ref, Bool.not_eq_true', List.any_eq_false] at h
  intro r hr
  have := h r hr
  unfold oddRef badR big40 at this
  simp only [Bool.or_eq_true, decide_eq_true_eq, not_or] at this
  obtain ⟨⟨⟨a, b⟩, ⟨c, d⟩, e⟩, _⟩ := this
  omega
theorem pairs_ok {l : List Pr} (h : mayS l = true) : ∀ p ∈ l, p.1.size < 256 ∧ p.2.size < 256 := by
  intro p hp
  have := (may_spec h).2.2 p hp
  unfold keyOk valOk at this
  simp only [Bool.and_eq_true, decide_eq_true_eq] at this
  omega
theorem rdAll_at {m : Im} (h : mayI m = true) (post : List UInt8) : rdAll (imB m ++ post) = some (m, (imB m).length) := by
  obtain ⟨h1, h2, h3, h4⟩ := mayI_parts h
  have h8 := (may_spec h3).1
  have e1 : imB m ++ post = [] ++ (le 6 m.idx.toNat ++ (le 1 m.st.length ++ (pairsB m.st ++ (rowsB m.tb.list ++ post)))) := by simp [imB]
  have e2 : imB m ++ post = le 6 m.idx.toNat ++ (le 1 m.st.length ++ (pairsB m.st ++ (rowsB m.tb.list ++ post))) := by simp [imB]
  have e3 : imB m ++ post = (le 6 m.idx.toNat ++ le 1 m.st.length) ++ (pairsB m.st ++ (rowsB m.tb.list ++ post)) := by simp [imB]
  have e4 : imB m ++ post = (le 6 m.idx.toNat ++ le 1 m.st.length ++ pairsB m.st) ++ (rowsB m.tb.list ++ post) := by simp [imB]
  have r1 := rdN_at e1 (by omega)
  have r2 := rdN_at e2 (by omega)
  have r3 := rdPairs_at m.st _ _ [] e3 (pairs_ok h3)
  have r4 := rdRows_at m.tb.list _ _ [] e4 (rows_ok h4)
  simp only [List.length_append, le_len, List.length_nil, List.nil_append] at r1 r2 r3 r4
  unfold rdAll
  rw [r1]
  simp only [Nat.zero_add]
  rw [r2]
  simp only
  unfold rdRest
  rw [r3]
  simp only
  rw [show (4 : Nat) = m.tb.list.length from rfl, r4]
  simp only
  congr 2
  · obtain ⟨i, st, ⟨r0, r1, r2, r3⟩⟩ := m
    simp only at h1
    show (⟨_, _, _⟩ : Im) = _
    rw [Int.toNat_of_nonneg h1]
    rfl
  · simp [imB, le_len]
    omega
theorem print_parse {m : Im} (h : mayI m = true) : parseI (imB m) = some m := by
  have := rdAll_at h []
  rw [List.append_nil] at this
  unfold parseI
  rw [this]
  simp only
  rw [if_neg]
  rintro (h1 | h1)
  · omega
  · rw [h] at h1; cases h1
theorem parse_iff (l : List UInt8) (m : Im) : parseI l = some m ↔ (mayI m = true ∧ imB m = l) :=
  ⟨parse_print, fun ⟨h1, h2⟩ => by rw [← h2]; exact print_parse h1⟩
/-- Bytes that begin another image's are it. -/
theorem im_prefix {m n : Im} {post : List UInt8} (h1 : mayI m = true) (h2 : mayI n = true) (h : imB m = imB n ++ post) : post = [] := by
  have r1 := rdAll_at h1 []
  have r2 := rdAll_at h2 post
  rw [List.append_nil, h, r2] at r1
  injection r1 with r1
  injection r1 with _ r1
  rw [List.length_append] at r1
  exact List.eq_nil_of_length_eq_zero (by omega)
end Go.Proofs.Ytmnjmjbmnhppfaa

namespace Go.Proofs.Ytmnjmjbmnhppfaa
open Go.RowKit

theorem strCells_bys (s : Tx) : Lib.strCells s = bys s.toList := by
  rw [ByteArray.toList_eq]
  rfl

set_option maxRecDepth 100000 in
set_option maxHeartbeats 1000000 in
theorem text_any (s : Tx) (w : World) (hs : s.size ≤ 255) : Calls Try.prog 94 #[.string s] w fun e w' => OwnBytes w.heap.size (txt s) 0 e w' ∧ Below w.heap.size w w' := by
  obtain ⟨i0, hi, hz0, hz1, hz2⟩ := info_parts (show (Try.prog.info? 5).map (fun i => (i.zero, i.size, i.bytes)) = some (some (.int .u8 0), 1, 1) by kernel_rfl)
  go_enter Try.func94, Try.ntmps94
  refine wp_seq_k (fun K hK => ?_)
  have HK := Lib.hid hK
  clear hK
  go_wp2
  refine HK.out _ _ ?_
  clear HK
  refine wp_seq_k (fun K hK => ?_)
  have HK := Lib.hid hK
  clear hK
  go_wp2
  refine HK.out _ _ ?_
  clear HK
  refine wp_seq_k (fun K hK => ?_)
  have HK := Lib.hid hK
  clear hK
  have hown : (w.alloc (Obj.cells #[.int .u8 (s.size : Int)] 5)).ownsRow w.heap.size 5 1 (.slice (some ⟨w.heap.size, 0, none⟩) 1 1) 1 [.int .u8 (s.size : Int)] :=
    owns_of_cur (cur := [.int .u8 (s.size : Int)]) (heap_alloc_new w _) (Nat.le_refl _) (Nat.le_refl _) (by simp [maxLen]) (by simp) (by simp)
  have hb0 := blw w (Obj.cells #[.int .u8 (s.size : Int)] 5)
  go_wp2_with (at_builtin; refine Lib.wpList_append_own_string _ rfl _ _ 26 9 rfl w.heap.size 5 i0 Try.underlying26 Try.underlying9 hi hz0 hz1 hz2 _ _ _ rfl hown s rfl (by unfold maxLen; omega) (by omega) (by simp) ?_; intro v1 w1 hown1 hgr1 _)
  refine HK.out _ _ ?_
  clear HK
  go_wp2
  go_ret2
  have hbw : Below w.heap.size w w1 := hb0.grown hgr1 hb0.size (fun k e => (hown.lt k e).1)
  refine ⟨⟨_, rfl, ?_⟩, hbw⟩
  have e : txt s = UInt8.ofNat (s.size % 256) :: s.toList := rfl
  rw [e, List.length_cons, tx_len, Nat.add_comm]
  have e2 : bys (UInt8.ofNat (s.size % 256) :: s.toList) = [.int .u8 (s.size : Int)] ++ Lib.strCells s := by
    rw [strCells_bys]
    have := byv_low s.size
    simp only [bys, List.map_cons, List.singleton_append, this]
    congr 2
    omega
  rw [e2]
  exact hown1

theorem wpList_app_gb {P : Program} {w : World} {ops : Array Oper} {rest : List Oper} {o : Oper} {a : Act} {Q : Exit → Act → World → Prop} (hgd : o.guard = none) (s x : Operand) (t e : TypeId) {size bytes : Nat} (hT : ElemT P t e size bytes)
    (ho : o.op = .call { callee := .builtin .append, args := #[s, x], argTypes := #[t, t] })
    (base : Nat) (v : Value) (n : Nat) (xs : List Value) (hs : a.eval s = v) (hown : w.ownsRow base e size v n xs)
    (ad : Option Addr) (m c : Nat) (news : List Value) (hx : a.eval x = .slice ad m c) (hl : news.length = m * size) (hpos : 0 < news.length) (hrow : Row w ad news) (h1 : ∀ u ∈ news, u.oneCell' = true)
    (hn : n + m ≤ 4294967296) (hby : bytes ≤ 4096) (hbase : base ≤ w.heap.size)
    (h : ∀ v' w', w'.ownsRow base e size v' (n + m) (xs ++ news) → w.grownBy w' v.ownBlock → wpList P ops Q rest (a.put o.dst v') w') : wpList P ops Q (o :: rest) a w := by
  obtain ⟨i, z, ht, _⟩ := hT.ex
  obtain ⟨b, off, rfl, hc⟩ := hrow.at hpos
  refine wpList_appendN' hgd s x t t e e hT ht ho base v n xs hs hown ⟨b, off, none⟩ m c news hx hl (fun j u hj => ?_) h1 hn hby hbase h
  rw [addr_add]
  exact hc j u hj
theorem sl1_over (x : Value) (a : Option Addr) (n c : Nat) : 0 + 1 ≤ (#[x] : Array Value).size ∧ (Value.slice a n c).cells.size = 1 ∧ (∀ u ∈ (Value.slice a n c).cells.toList, u.oneCell' = true) ∧ ((#[x] : Array Value).toList.take 0 ++ (Value.slice a n c).cells.toList ++ (#[x] : Array Value).toList.drop (0 + 1)).toArray = #[.slice a n c] :=
  ⟨Nat.le_refl _, rfl, by simp [Value.cells, Value.oneCell'], rfl⟩

/-! The writer. -/
/-- All blocks but g, and but those of bytes, lie as they lay. -/
def KeepB (g : Nat) (w w' : World) : Prop := ∀ (j : Nat) (cs : Array Value) (T : TypeId), w.heap[j]? = some (.cells cs T (0, 0)) → j ≠ g → 5 ≠ T → w'.heap[j]? = some (.cells cs T (0, 0))
structure WrB (base g : Nat) (L : List UInt8) (w : World) : Prop where
  le : base ≤ g
  ex : ∃ v, w.heap[g]? = some (.cells #[v] 110 (0, 0)) ∧ w.ownsRow base 5 1 v L.length (bys L)
theorem WrB.lt {base g : Nat} {L : List UInt8} {w : World} (h : WrB base g L w) : g < w.heap.size := by
  obtain ⟨v, h, _⟩ := h.ex
  exact lt_blk h
theorem WrB.below {base g : Nat} {L : List UInt8} {w w' : World} (h : WrB base g L w) (hb : Below w.heap.size w w') : WrB base g L w' := by
  obtain ⟨v, h1, h2⟩ := h.ex
  exact ⟨h.le, v, tr_bl hb h1, owns_bl h2 hb⟩

set_option maxRecDepth 100000 in
set_option maxHeartbeats 1000000 in
theorem wnum_any (base g k n : Nat) (L : List UInt8) (w : World) (hw : WrB base g L w) (hf : fitsB k n = true) (hl : L.length ≤ 1000000) (hbase : base ≤ w.heap.size) :
    Calls Try.prog 61 #[.pointer (some ⟨g, 0, none⟩), .int .i64 k, .int .i64 n] w fun e w' => e = .returned (.tuple #[]) ∧ WrB base g (L ++ le k n) w' ∧ Below base w w' ∧ KeepB g w w' := by
  have hput : oputL k n = le k n := by unfold oputL; rw [if_pos hf]; rfl
  have hpe : oputE k n = 0 := by unfold oputE; rw [if_pos hf]
  obtain ⟨hk, _, _⟩ := fits_w hf
  have HF := Lib.hid hput
  have HE := Lib.hid hpe
  clear hput hpe hf
  go_enter Try.func61, Try.ntmps61
  refine wp_seq_k (fun K hK => ?_)
  have HK := Lib.hid hK
  clear hK
  go_wp2_with (go_at_call 55; refine (put_any _ _ _).mono ?_; rintro e w1 ⟨⟨b, rfl, hob⟩, hb1⟩; rw [HE.out]; rw [HF.out] at hob)
  refine HK.out _ _ ?_
  clear HK
  obtain ⟨v, B, ho⟩ := (hw.below hb1).ex
  have hle := hw.le
  have hlt := lt_blk B
  have hs1 := hb1.size
  rw [le_len] at hob
  obtain ⟨ma, mcap, rfl, hmr, _, _⟩ := Row.of_owns hob
  obtain ⟨va, vcap, rfl, _, _, _⟩ := Row.of_owns ho
  have c0 : w1.cell? ⟨g, 0, none⟩ = some (.slice va L.length vcap) := blk_cell B 0 _ rfl
  have hne := own_ne ho B (by decide)
  go_wp2_with (first
    | (at_builtin; refine wpList_app_gb rfl _ _ 26 5 elByte rfl base _ _ _ rfl ho _ _ _ _ rfl (by simp [bys_len, le_len]) (by simp [bys_len, le_len]; omega) hmr bys_one (by omega) (by omega) (by omega) ?_; intro v5 w5 hown5 hg5; have B5 := tr_gb hg5 B hne; obtain ⟨a5, cap5, rfl, _⟩ := Row.of_owns hown5)
    | ((first | (with_reducible refine wpList_stB 26 _ _ ?_) | (with_reducible refine wp_stB 26 _ _ ?_)); refine ⟨_, _, _, ⟨_, _, _, Try.sizeOf26, rfl, ‹_›, sl1_over _ _ _ _⟩, ?_⟩; intro w6 B6 g6; have ho6 := owns_ne hown5 g6 B5 (by decide)))
  go_end0
  have hbw1 : Below base w w1 := hb1.mono hbase
  have hbw5 : Below base w w5 := hbw1.grown hg5 (by omega) (fun k e => (ho.lt k e).1)
  refine ⟨rfl, ⟨hle, _, B6, ?_⟩, bl_st hbw5 g6 (by have := hg5.size; omega) hle, fun j cs T h hj hT => tr_st g6 (tr_gb hg5 (tr_bl hb1 h) (own_ne ho (tr_bl hb1 h) hT)) (fun e => hj e.symm)⟩
  rw [List.length_append, le_len, bys_app]
  exact ho6

set_option maxRecDepth 100000 in
set_option maxHeartbeats 1000000 in
theorem wtxt_any (base g : Nat) (s : Tx) (L : List UInt8) (w : World) (hw : WrB base g L w) (hf : s.size ≤ 255) (hl : L.length ≤ 1000000) (hbase : base ≤ w.heap.size) :
    Calls Try.prog 62 #[.pointer (some ⟨g, 0, none⟩), .string s] w fun e w' => e = .returned (.tuple #[]) ∧ WrB base g (L ++ txt s) w' ∧ Below base w w' ∧ KeepB g w w' := by
  have htl : (txt s).length = 1 + s.size := by simp [txt, le_len, tx_len]
  go_enter Try.func62, Try.ntmps62
  refine wp_seq_k (fun K hK => ?_)
  have HK := Lib.hid hK
  clear hK
  go_wp2_with (go_at_call 94; refine (text_any _ _ hf).mono ?_; rintro e w1 ⟨⟨b, rfl, hob⟩, hb1⟩)
  refine HK.out _ _ ?_
  clear HK
  obtain ⟨v, B, ho⟩ := (hw.below hb1).ex
  have hle := hw.le
  have hlt := lt_blk B
  have hs1 := hb1.size
  obtain ⟨ma, mcap, rfl, hmr, _, _⟩ := Row.of_owns hob
  obtain ⟨va, vcap, rfl, _, _, _⟩ := Row.of_owns ho
  have c0 : w1.cell? ⟨g, 0, none⟩ = some (.slice va L.length vcap) := blk_cell B 0 _ rfl
  have hne := own_ne ho B (by decide)
  have HTL := Lib.hid htl
  have htl2 : (txt s).length ≤ 256 := by omega
  have htl3 : 0 < (txt s).length := by omega
  clear htl
  go_wp2_with (first
    | (at_builtin; refine wpList_app_gb rfl _ _ 26 5 elByte rfl base _ _ _ rfl ho _ _ _ _ rfl (by simp [bys_len]) (by rw [bys_len]; exact htl3) hmr bys_one (by omega) (by omega) (by omega) ?_; intro v5 w5 hown5 hg5; have B5 := tr_gb hg5 B hne; obtain ⟨a5, cap5, rfl, _⟩ := Row.of_owns hown5)
    | ((first | (with_reducible refine wpList_stB 26 _ _ ?_) | (with_reducible refine wp_stB 26 _ _ ?_)); refine ⟨_, _, _, ⟨_, _, _, Try.sizeOf26, rfl, ‹_›, sl1_over _ _ _ _⟩, ?_⟩; intro w6 B6 g6; have ho6 := owns_ne hown5 g6 B5 (by decide)))
  go_end0
  have hbw1 : Below base w w1 := hb1.mono hbase
  have hbw5 : Below base w w5 := hbw1.grown hg5 (by omega) (fun k e => (ho.lt k e).1)
  refine ⟨rfl, ⟨hle, _, B6, ?_⟩, bl_st hbw5 g6 (by have := hg5.size; omega) hle, fun j cs T h hj hT => tr_st g6 (tr_gb hg5 (tr_bl hb1 h) (own_ne ho (tr_bl hb1 h) hT)) (fun e => hj e.symm)⟩
  rw [List.length_append, bys_app]
  exact ho6

/-- Bytes in a block of one's own, perhaps clipped. -/
structure OwB (base : Nat) (v : Value) (L : List UInt8) (w : World) : Prop where
  ex : ∃ g cap cur, v = .slice (some ⟨g, 0, none⟩) L.length cap ∧ base ≤ g ∧ w.heap[g]? = some (.cells cur 5 (0, 0)) ∧ L.length ≤ cap ∧ cap ≤ maxLen ∧ cap ≤ cur.size ∧ cur.toList.take L.length = bys L
theorem OwB.open {base : Nat} {v : Value} {L : List UInt8} {w : World} (h : OwB base v L w) : ∃ a cap, v = .slice a L.length cap ∧ SlB w a cap L := by
  obtain ⟨g, cap, cur, rfl, hb, hg, h1, h2, h3, h4⟩ := h.ex
  refine ⟨_, cap, rfl, ⟨.inr ⟨g, 0, rfl, fun i u hu => ?_⟩, h1, h2, fun e => by cases e⟩⟩
  have hi := (List.getElem?_eq_some_iff.1 hu).1
  rw [bys_len] at hi
  rw [← h4, List.getElem?_take_of_lt hi] at hu
  rw [Nat.zero_add]
  exact blk_cell hg i u (by rw [← Array.getElem?_toList]; exact hu)
theorem OwB.mono {base base' : Nat} {v : Value} {L : List UInt8} {w : World} (h : OwB base v L w) (hb : base' ≤ base) : OwB base' v L w := by
  obtain ⟨g, cap, cur, rfl, hb', r⟩ := h.ex
  exact ⟨g, cap, cur, rfl, Nat.le_trans hb hb', r⟩
theorem OwB.below {base : Nat} {v : Value} {L : List UInt8} {w w' : World} (h : OwB base v L w) (hb : Below w.heap.size w w') : OwB base v L w' := by
  obtain ⟨g, cap, cur, rfl, hb', hg, r⟩ := h.ex
  exact ⟨g, cap, cur, rfl, hb', tr_bl hb hg, r⟩

set_option maxRecDepth 100000 in
theorem clip_any (base : Nat) (v : Value) (L : List UInt8) (w : World) (ho : w.ownsRow base 5 1 v L.length (bys L)) (hl : L.length ≤ 1000000) (hp : 0 < L.length) :
    Calls Try.prog 63 #[v] w fun e w' => ∃ v', e = .returned v' ∧ OwB base v' L w ∧ w = w' := by
  obtain ⟨hlen, ⟨rfl, h0⟩ | ⟨g, cap, cur, rfl, hg, hc, hn, hm, hs, ht⟩⟩ := ho
  · omega
  · have hx := Lib.hid (show OwB base (.slice (some ⟨g, 0, none⟩) L.length L.length) L w from ⟨g, L.length, cur, rfl, hg, hc, Nat.le_refl _, by omega, by omega, by rw [← ht, Nat.mul_one]⟩)
    unfold maxLen at hm
    clear hc hs ht hlen
    go_enter Try.func63, Try.ntmps63
    go_wp2
    go_ret
    exact ⟨_, rfl, hx.out, rfl⟩
end Go.Proofs.Ytmnjmjbmnhppfaa

namespace Go.Proofs.Ytmnjmjbmnhppfaa
open Go.RowKit

theorem fits_6 {n : Nat} (h : n ≤ 1099511627776) : fitsB 6 n = true := by unfold fitsB manyI; simp; omega
theorem fits_2 {n : Nat} (h : n ≤ 999) : fitsB 2 n = true := by unfold fitsB manyI; simp; omega
theorem fits_1 {n : Nat} (h : n ≤ 255) : fitsB 1 n = true := by unfold fitsB manyI; simp; omega
theorem pairB_len (p : Pr) : (pairB p).length = 2 + p.1.size + p.2.size := by simp [pairB, txt, le_len, tx_len]; omega
theorem pairsB_le {l : List Pr} (h : ∀ p ∈ l, p.1.size < 256 ∧ p.2.size < 256) : (pairsB l).length ≤ 512 * l.length := by
  induction l with
  | nil => simp [pairsB]
  | cons p l ih =>
    have h0 := h p (by simp)
    have := ih (fun q hq => h q (by simp [hq]))
    simp only [pairsB, List.flatMap_cons, List.length_append, List.length_cons, pairB_len] at this ⊢
    omega
theorem rowB_len (r : Rw) : (rowB r).length = 10 + r.rep.val.size := by simp [rowB, txt, le_len, tx_len]; omega
theorem rowsB_le {l : List Rw} (h : ∀ r ∈ l, r.rep.val.size ≤ 16) : (rowsB l).length ≤ 26 * l.length := by
  induction l with
  | nil => simp [rowsB]
  | cons p l ih =>
    have h0 := h p (by simp)
    have := ih (fun q hq => h q (by simp [hq]))
    simp only [rowsB, List.flatMap_cons, List.length_append, List.length_cons, rowB_len] at this ⊢
    omega
theorem pairsB_snoc (l : List Pr) (p : Pr) : pairsB (l ++ [p]) = pairsB l ++ txt p.1 ++ txt p.2 := by simp [pairsB, pairB]
theorem rowsB_snoc (l : List Rw) (r : Rw) : rowsB (l ++ [r]) = rowsB l ++ le 6 r.seq.toNat ++ le 2 r.rep.err.toNat ++ le 1 (flagN r.rep.found) ++ txt r.rep.val := by simp [rowsB, rowB]
theorem rowA_nw (r : Rw) : (Value.agg (rowA r)).cells = rowA r ∧ (rowA r).size = 4 ∧ ∀ u ∈ (rowA r).toList, u.oneCell' = true := ⟨rfl, rfl, rowA_one r⟩
theorem txt_len (s : Tx) : (txt s).length = 1 + s.size := by simp [txt, le_len, tx_len]
theorem tr_be {B : Nat} {w w' : World} {j : Nat} {o : Obj} (hb : Below B w w') (h : w.heap[j]? = some o) (hj : j < B) : w'.heap[j]? = some o := (hb.block j hj).trans h
theorem index_tb (t : Tb) {k : Nat} (h : k < 4) (w : World) : (Instr.index 47 (.agg (tbA t)) (.int .i64 k)).run Try.prog w = .ok (.agg (rowA (t.at k))) w := by
  have u := Try.underlying47
  have ha := Try.isAgg45
  have hs := Try.sizeOf45
  rcases four_cases h with rfl | rfl | rfl | rfl
  all_goals
    simp [Instr.index, run_underlying u, asIntOf, part, ha, hs, tbA, go_sem]
    rfl
theorem row_at {t : Tb} {k : Nat} (h : k < 4) : t.list[k]? = some (t.at k) := by
  rcases four_cases h with rfl | rfl | rfl | rfl <;> rfl
def headB (m : Im) : List UInt8 := le 6 m.idx.toNat ++ le 1 m.st.length
theorem headB_len (m : Im) : (headB m).length = 7 := by simp [headB, le_len]

/-! The writer's numbers, their widths spelt. -/
section
variable (base g n : Nat) (L : List UInt8) (w : World) (hw : WrB base g L w) (hl : L.length ≤ 1000000) (hbase : base ≤ w.heap.size)
include hw hl hbase
theorem wnum6 (hf : fitsB 6 n = true) : Calls Try.prog 61 #[.pointer (some ⟨g, 0, none⟩), .int .i64 6, .int .i64 n] w fun e w' => e = .returned (.tuple #[]) ∧ WrB base g (L ++ le 6 n) w' ∧ Below base w w' ∧ KeepB g w w' := wnum_any base g 6 n L w hw hf hl hbase
theorem wnum2 (hf : fitsB 2 n = true) : Calls Try.prog 61 #[.pointer (some ⟨g, 0, none⟩), .int .i64 2, .int .i64 n] w fun e w' => e = .returned (.tuple #[]) ∧ WrB base g (L ++ le 2 n) w' ∧ Below base w w' ∧ KeepB g w w' := wnum_any base g 2 n L w hw hf hl hbase
theorem wflg0 : Calls Try.prog 61 #[.pointer (some ⟨g, 0, none⟩), .int .i64 1, .int .i64 0] w fun e w' => e = .returned (.tuple #[]) ∧ WrB base g (L ++ le 1 (flagN false)) w' ∧ Below base w w' ∧ KeepB g w w' := wnum_any base g 1 0 L w hw (by decide) hl hbase
theorem wflg1 : Calls Try.prog 61 #[.pointer (some ⟨g, 0, none⟩), .int .i64 1, .int .i64 1] w fun e w' => e = .returned (.tuple #[]) ∧ WrB base g (L ++ le 1 (flagN true)) w' ∧ Below base w w' ∧ KeepB g w w' := wnum_any base g 1 1 L w hw (by decide) hl hbase
end

def PrintRes (base : Nat) (m : Im) (e : Ending) (w' : World) : Prop :=
  if mayI m = true then ∃ v, e = .returned (.tuple #[v, .int .i64 0]) ∧ OwB base v (imB m) w' else e = .returned (.tuple #[.slice none 0 0, .int .i64 2])

set_option maxRecDepth 100000 in
set_option maxHeartbeats 4000000 in
theorem print_any (m : Im) (a : Option Addr) (cap : Nat) (w : World) (hs : SlP w a cap m.st) (hl : m.st.length ≤ 1000) :
    Calls Try.prog 24 #[.agg (imA m.idx (.slice a m.st.length cap) m.tb)] w fun e w' => PrintRes w.heap.size m e w' ∧ Below w.heap.size w w' := by
  have hb0 := blw w (Obj.cells (imA m.idx (.slice a m.st.length cap) m.tb) 49)
  have B1 := heap_alloc_new w (Obj.cells (imA m.idx (.slice a m.st.length cap) m.tb) 49)
  have hs0 := hs.below hb0
  have hsz0 : (w.alloc (Obj.cells (imA m.idx (.slice a m.st.length cap) m.tb) 49)).heap.size = w.heap.size + 1 := by simp
  unfold PrintRes
  cases hm : mayI m
  · simp only [Bool.false_eq_true, reduceIte]
    have HM := Lib.hid hm
    clear hm
    go_enter Try.func24, Try.ntmps24
    refine wp_seq_k (fun K hK => ?_)
    have HK := Lib.hid hK
    clear hK
    go_wp2
    refine HK.out _ _ ?_
    clear HK
    change Code.wp _ _ _ _ (w.alloc (Obj.cells (imA m.idx (.slice a m.st.length cap) m.tb) 49))
    generalize w.alloc (Obj.cells (imA m.idx (.slice a m.st.length cap) m.tb) 49) = w0 at *
    go_wp2_with (first
      | ((with_reducible refine wpList_ldB 49 _ ?_); refine ⟨rfl, _, ⟨_, _, _, _, _, Try.isAgg49, Try.sizeOf49, rfl, ‹_›, imA_all _ _ _⟩, ?_⟩)
      | (go_at_call 49; refine (imay_any _ _ _ _ _ _ hs0.row hl _ HM.out).mono ?_; rintro en w1 ⟨rfl, hb1⟩))
    go_ret2
    exact ⟨rfl, hb0.trans (hb1.mono (by omega))⟩
  · simp only [reduceIte]
    obtain ⟨hi0, hi1, hms, hmt⟩ := mayI_parts hm
    have h8 := (may_spec hms).1
    obtain ⟨ix, hix⟩ : ∃ n : Nat, m.idx = n := ⟨m.idx.toNat, by omega⟩
    have hpo := pairs_ok hms
    have hro := rows_ok hmt
    have hib : ix ≤ 1099511627776 := by omega
    have HIX := Lib.hid hix
    have HM := Lib.hid hm
    have HPO := Lib.hid hpo
    have HRO := Lib.hid hro
    clear hm hms hmt hpo hro hix
    go_enter Try.func24, Try.ntmps24
    refine wp_seq_k (fun K hK => ?_)
    have HK := Lib.hid hK
    clear hK
    go_wp2
    refine HK.out _ _ ?_
    clear HK
    change Code.wp _ _ _ _ (w.alloc (Obj.cells (imA m.idx (.slice a m.st.length cap) m.tb) 49))
    generalize w.alloc (Obj.cells (imA m.idx (.slice a m.st.length cap) m.tb) 49) = w0 at *
    refine wp_seq_k (fun K hK => ?_)
    have HK := Lib.hid hK
    clear hK
    go_wp2_with (first
          | ((with_reducible refine wpList_ldB 49 _ ?_); refine ⟨rfl, _, ⟨_, _, _, _, _, Try.isAgg49, Try.sizeOf49, rfl, ‹_›, imA_all _ _ _⟩, ?_⟩)
          | (go_at_call 49; refine (imay_any _ _ _ _ _ _ hs0.row hl _ HM.out).mono ?_; rintro en w1 ⟨rfl, hb1⟩))
    refine HK.out _ _ ?_
    clear HK
    have B1 := tr_bl hb1 B1
    have hs1 := hs0.below hb1
    have hbw := hb0.trans (hb1.mono (by omega))
    have hz1 : w.heap.size + 1 ≤ w1.heap.size := by have := hb1.size; omega
    refine wp_seq_k (fun K hK => ?_)
    have HK := Lib.hid hK
    clear hK
    go_wp2
    refine HK.out _ _ ?_
    clear HK
    have C1 := tr_al (Obj.cells #[.slice none 0 0] 110) B1
    have hw : WrB w1.heap.size w1.heap.size [] (w1.alloc (Obj.cells #[.slice none 0 0] 110)) := ⟨Nat.le_refl _, _, heap_alloc_new w1 (Obj.cells #[.slice none 0 0] 110), World.ownsRow_nil _ _ _ _⟩
    have hs2 := hs1.below (blw w1 (Obj.cells #[.slice none 0 0] 110))
    have hbw2 := hbw.trans ((blw w1 (Obj.cells #[.slice none 0 0] 110)).mono hbw.size)
    have hz2 : w1.heap.size + 1 = (w1.alloc (Obj.cells #[.slice none 0 0] 110)).heap.size := by simp
    clear B1 hs0 hs1 hb0 hb1 hbw
    generalize w1.alloc (Obj.cells #[.slice none 0 0] 110) = w2 at *
    obtain ⟨g, hg⟩ : ∃ g, w1.heap.size = g := ⟨_, rfl⟩
    simp only [hg] at hw hz2 hz1 ⊢
    clear hg
    have hz3 : g ≤ w2.heap.size := by omega
    clear hz2
    have hgN : w.heap.size < g := by omega
    have HSL : Hid (∀ w', Below g w2 w' → SlP w' a cap m.st) := Lib.hid (fun w' h => hs.below (hbw2.trans (h.mono (by omega))))
    have c0 := imA_c0 C1
    rw [HIX.out] at c0
    refine wp_seq_k (fun K hK => ?_)
    have HK := Lib.hid hK
    clear hK
    go_wp2_with (go_at_call 61; go_loud (refine (wnum_any g g 6 ix _ _ hw (fits_6 (by omega)) (by simp) hz3).mono ?_); rintro en w3 ⟨rfl, hw3, hb3, _⟩)
    refine HK.out _ _ ?_
    clear HK
    have C3 := tr_be hb3 C1 hgN
    have c1 := imA_c1 C3
    refine wp_seq_k (fun K hK => ?_)
    have HK := Lib.hid hK
    clear hK
    go_wp2_with (go_at_call 61; refine (wnum_any g g 1 m.st.length _ _ hw3 (fits_1 (by omega)) (by simp [le_len]) (Nat.le_of_lt hw3.lt)).mono ?_; rintro en w4 ⟨rfl, hw4, hb4, _⟩)
    refine HK.out _ _ ?_
    clear HK
    have hb24 : Below g w2 w4 := hb3.trans hb4
    have hw4' : WrB g g (headB m ++ pairsB (m.st.take 0)) w4 := by
      have : headB m ++ pairsB (m.st.take 0) = [] ++ le 6 ix ++ le 1 m.st.length := by
        unfold headB
        rw [HIX.out]
        simp [pairsB]
      rw [this]
      exact hw4
    have C4 := tr_be hb4 C3 hgN
    have c1 := imA_c1 C4
    clear hw hw3 hw4 c0 hb3 hb4 C3
    refine wp_seq_k (fun K hK => ?_)
    go_cut [] (fun wx => WrB g g (headB m ++ pairsB m.st) wx ∧ Below g w2 wx)
    case first =>
      go_wp2_with fail
      go_loopw [27] (fun i wr => ∃ q : Nat, q ≤ m.st.length ∧ i = .int .i64 q ∧ WrB g g (headB m ++ pairsB (m.st.take q)) wr ∧ Below g w2 wr) (fun i _ => m.st.length - (intOf i).toNat)
      case atStart => exact ⟨0, by omega, rfl, hw4', hb24⟩
      case round =>
        obtain ⟨q, hq, rfl, hw, hbr⟩ := hrel
        by_cases hlt : q < m.st.length
        · have hat : m.st[q]? = some m.st[q] := List.getElem?_eq_getElem hlt
          obtain ⟨bb, off, rfl, hblt, hcs⟩ := (HSL.out _ hbr).row.pair hat
          obtain ⟨d0, d1⟩ := hcs _ _ hat
          have hpq := HPO.out _ (List.getElem_mem hlt)
          have hsn : pairsB (m.st.take (q + 1)) = pairsB (m.st.take q) ++ txt m.st[q].1 ++ txt m.st[q].2 := by
            rw [List.take_add_one, hat]
            exact pairsB_snoc _ _
          have hlen : (pairsB (m.st.take q)).length ≤ 4096 := by
            have := pairsB_le (l := m.st.take q) (fun p hp => HPO.out p (List.mem_of_mem_take hp))
            rw [List.length_take] at this
            omega
          have HSN := Lib.hid hsn
          clear hsn hcs hat
          generalize m.st[q] = pr at *
          obtain ⟨pk, pv⟩ := pr
          simp only at hpq d0 d1
          have hwa := hw.below (blw wr (Obj.cells #[.string pk, .string pv] 74))
          have bx := heap_alloc_new wr (Obj.cells #[.string pk, .string pv] 74)
          have hgl := hw.lt
          have hne : wr.heap.size ≠ g := by omega
          go_wp2_with (first
            | (go_at_call 62; (with_reducible refine (wtxt_any g g pk _ _ hwa (by omega) (by simp only [List.length_append, headB_len]; omega) (by simp; omega)).mono ?_); rintro en w5 ⟨rfl, hw5, hb5, hk5⟩; have bx5 := hk5 _ _ _ bx hne (by decide); have e1 : w5.cell? ⟨wr.heap.size, 1, none⟩ = some (.string pv) := blk_cell bx5 1 _ rfl)
            | (go_at_call 62; refine (wtxt_any g g pv _ _ hw5 (by omega) (by simp only [List.length_append, headB_len, txt_len]; omega) (Nat.le_of_lt hw5.lt)).mono ?_; rintro en w6 ⟨rfl, hw6, hb6, hk6⟩))
          go_roundw
          case rel =>
            refine ⟨q + 1, by omega, by go_num, ?_, ((hbr.trans ((blw wr _).mono (Nat.le_of_lt hgl))).trans hb5).trans hb6⟩
            rw [HSN.out]
            simp only [← List.append_assoc]
            exact hw6
          case measure => simp [intOf]; omega
        · go_wp2
          go_meet
          obtain rfl : q = m.st.length := by omega
          rw [List.take_length] at hw
          exact ⟨hw, hbr⟩
    obtain ⟨hw5, hb25⟩ := hcut
    refine hK _ _ ?_; clear hK
    have C5 := tr_be hb25 C1 hgN
    refine wp_seq_k (fun K hK => ?_)
    go_cut [] (fun wx => WrB g g (headB m ++ pairsB m.st ++ rowsB m.tb.list) wx ∧ Below g w2 wx)
    case first =>
      have hplen : (pairsB m.st).length ≤ 4096 := by have := pairsB_le HPO.out; omega
      go_wp2_with ((with_reducible refine wpList_ldB 47 _ ?_); refine ⟨rfl, _, ⟨_, _, _, _, _, Try.isAgg47, Try.sizeOf47, rfl, ‹_›, imA_tb _ _ _⟩, ?_⟩)
      go_loopw [42, 9] (fun i _ wr => ∃ q : Nat, q ≤ 4 ∧ i = .int .i64 q ∧ WrB g g (headB m ++ pairsB m.st ++ rowsB (m.tb.list.take q)) wr ∧ Below g w2 wr) (fun i _ _ => 4 - (intOf i).toNat)
      case atStart => exact ⟨0, by omega, rfl, by simpa [rowsB] using hw5, hb25⟩
      case round =>
        obtain ⟨q, hq, rfl, hw, hbr⟩ := hrel
        by_cases hlt : q < 4
        · have hix := index_tb m.tb hlt
          obtain ⟨h1, h2, h3, h4, h5⟩ := HRO.out _ (List.mem_of_getElem? (row_at (t := m.tb) hlt))
          have hsn := congrArg rowsB (List.take_add_one (l := m.tb.list) (i := q))
          rw [row_at hlt] at hsn
          replace hsn := hsn.trans (rowsB_snoc _ _)
          have hlen : (rowsB (m.tb.list.take q)).length ≤ 104 := by
            have := rowsB_le (l := m.tb.list.take q) (fun r hr => (HRO.out r (List.mem_of_mem_take hr)).2.2.2.2)
            rw [List.length_take] at this
            omega
          have HSN := Lib.hid hsn
          have HIXT := Lib.hid hix
          clear hsn hix
          have hgl := hw.lt
          have hne : wr.heap.size ≠ g := by omega
          have hwa := hw.below (blw wr (Obj.cells (rowA (m.tb.at q)) 45))
          have bx := heap_alloc_new wr (Obj.cells (rowA (m.tb.at q)) 45)
          generalize m.tb.at q = r at *
          obtain ⟨sq, er, fo, va⟩ := r
          simp only at h1 h2 h3 h4 h5
          obtain ⟨sq, rfl⟩ : ∃ n : Nat, sq = n := ⟨sq.toNat, by omega⟩
          obtain ⟨er, rfl⟩ : ∃ n : Nat, er = n := ⟨er.toNat, by omega⟩
          have hix := HIXT.out
          have d0 : (wr.alloc (Obj.cells (rowA ⟨sq, ⟨er, fo, va⟩⟩) 45)).cell? ⟨wr.heap.size, 0, none⟩ = some (.int .i64 sq) := blk_cell bx 0 _ rfl
          cases fo
          all_goals
            go_wp2_with (first
              | ((first | (with_reducible refine wpList_stNew 45 _ _ ?_) | (with_reducible refine wp_stNew 45 _ _ ?_)); refine ⟨_, _, ⟨Try.sizeOf45, rfl, rowA_nw _⟩, rfl, ?_⟩)
              | (go_at_call 61; (with_reducible refine (wnum6 g g sq _ _ hwa (by simp only [List.length_append, headB_len]; omega) (by simp; omega) (fits_6 (by omega))).mono ?_); rintro en w6 ⟨rfl, hw6, hb6, hk6⟩; have bx6 := hk6 _ _ _ bx hne (by decide); have e1 : w6.cell? ⟨wr.heap.size, 1, none⟩ = some (.int .i64 er) := blk_cell bx6 1 _ rfl)
              | (go_at_call 61; (with_reducible refine (wnum2 g g er _ _ hw6 (by simp only [List.length_append, headB_len, le_len]; omega) (Nat.le_of_lt hw6.lt) (fits_2 (by omega))).mono ?_); rintro en w7 ⟨rfl, hw7, hb7, hk7⟩; have bx7 := hk7 _ _ _ bx6 hne (by decide); have e2 : w7.cell? ⟨wr.heap.size, 2, none⟩ = some (.bool _) := blk_cell bx7 2 _ rfl)
              | (go_at_call 61; (with_reducible refine (wflg0 g g _ _ hw7 (by simp only [List.length_append, headB_len, le_len]; omega) (Nat.le_of_lt hw7.lt)).mono ?_); rintro en w8 ⟨rfl, hw8, hb8, hk8⟩; have bx8 := hk8 _ _ _ bx7 hne (by decide); have e3 : w8.cell? ⟨wr.heap.size, 3, none⟩ = some (.string va) := blk_cell bx8 3 _ rfl)
              | (go_at_call 61; (with_reducible refine (wflg1 g g _ _ hw7 (by simp only [List.length_append, headB_len, le_len]; omega) (Nat.le_of_lt hw7.lt)).mono ?_); rintro en w8 ⟨rfl, hw8, hb8, hk8⟩; have bx8 := hk8 _ _ _ bx7 hne (by decide); have e3 : w8.cell? ⟨wr.heap.size, 3, none⟩ = some (.string va) := blk_cell bx8 3 _ rfl)
              | (go_at_call 62; refine (wtxt_any g g va _ _ hw8 (by omega) (by simp only [List.length_append, headB_len, le_len]; omega) (Nat.le_of_lt hw8.lt)).mono ?_; rintro en w9 ⟨rfl, hw9, hb9, hk9⟩))
            go_roundw
            case rel =>
              refine ⟨q + 1, by omega, by go_num, ?_, ((((hbr.trans ((blw wr _).mono (Nat.le_of_lt hgl))).trans hb6).trans hb7).trans hb8).trans hb9⟩
              rw [HSN.out]
              simp only [← List.append_assoc, Int.toNat_natCast]
              exact hw9
            case measure => simp [intOf]; omega
        · go_wp2
          go_meet
          obtain rfl : q = 4 := by omega
          exact ⟨by simpa [List.take_of_length_le (show m.tb.list.length ≤ 4 from Nat.le_refl _)] using hw, hbr⟩
    obtain ⟨hw6, hb26⟩ := hcut
    refine hK _ _ ?_; clear hK
    have hIB : headB m ++ pairsB m.st ++ rowsB m.tb.list = imB m := by simp [imB, headB]
    rw [hIB] at hw6
    obtain ⟨v, B6, ho6⟩ := hw6.ex
    have hil : (imB m).length ≤ 1000000 := by
      have := pairsB_le HPO.out
      have := rowsB_le (l := m.tb.list) (fun r hr => (HRO.out r hr).2.2.2.2)
      rw [← hIB]
      simp only [List.length_append, headB_len]
      have : m.tb.list.length = 4 := rfl
      omega
    have hip : 0 < (imB m).length := by simp [imB, le_len]; omega
    obtain ⟨va, vcap, rfl, _⟩ := Row.of_owns ho6
    have c0 : wc.cell? ⟨g, 0, none⟩ = some (.slice va (imB m).length vcap) := blk_cell B6 0 _ rfl
    clear hIB
    go_wp2_with (go_at_call 63; refine (clip_any g _ (imB m) _ ho6 hil hip).mono ?_; rintro en w7 ⟨v7, rfl, how, rfl⟩)
    go_ret2
    exact ⟨⟨_, rfl, how.mono (by omega)⟩, hbw2.trans (hb26.mono (by omega))⟩
end Go.Proofs.Ytmnjmjbmnhppfaa

namespace Go.Proofs.Ytmnjmjbmnhppfaa
open Go.RowKit

theorem wp_run {P : Program} {w w' : World} {v : Value} {o : Oper} {a : Act} {K : Act → World → Prop} {Q : Exit → Act → World → Prop} (hr : (execOp a.eval o).run P w = .ok (.value v) w') (h : K (a.put o.dst v) w') : o.wp P a w K Q := by
  unfold Oper.wp
  rw [hr]
  exact h

theorem conv_bytes (ad : Option Addr) (c : Nat) (p : List UInt8) (w : World) (h : Row w ad (bys p)) : (convert 26 9 (.slice ad p.length c)).run Try.prog w = .ok (.string (txOf p)) w := by
  cases ad with
  | none =>
    have hp : p = [] := by
      rcases h with h | ⟨b, off, ha, _⟩
      · have := congrArg List.length h
        rw [bys_len] at this
        exact List.eq_nil_of_length_eq_zero this
      · cases ha
    subst hp
    exact run_convert_bytes_nil w _ _ Try.underlying26 Try.underlying5 _ _ _ Try.underlying9
  | some ad =>
    refine run_convert_bytes_back (P := Try.prog) w _ _ 5 ad c p Try.underlying26 Try.underlying5 Try.underlying9 (fun j hj => ?_)
    obtain ⟨b, off, ha, hc⟩ := h.at (k := j) (by rw [bys_len]; exact hj)
    injection ha with ha
    subst ha
    rw [addr_add]
    exact hc j _ (by simp [bys, hj, byv])

theorem getE_short {len p k : Nat} (hk : k = 1 ∨ k = 2 ∨ k = 6) (hp : p ≤ len) (h : ¬ p + k ≤ len) : getE len p k = 10 := by
  unfold getE pieceE
  have hm : ¬ manyI k = 0 := by unfold manyI; rcases hk with rfl | rfl | rfl <;> simp
  rw [if_neg hm, if_neg (by omega), if_pos (by omega)]

def getV (l : List UInt8) (p k : Nat) : Value := match rdN l p k with | some (n, p1) => .tuple #[.int .i64 n, .int .i64 p1, .int .i64 0] | none => .tuple #[.int .i64 0, .int .i64 0, .int .i64 10]
theorem get_v (a : Option Addr) (cap : Nat) (l : List UInt8) (p k : Nat) (w : World) (hs : SlB w a cap l) (hp : p ≤ l.length) (hk : k = 1 ∨ k = 2 ∨ k = 6) :
    Calls Try.prog 57 #[.slice a l.length cap, .int .i64 p, .int .i64 k] w fun e w' => e = .returned (getV l p k) ∧ Below w.heap.size w w' := by
  unfold getV rdN
  by_cases h : p + k ≤ l.length
  · rw [if_pos h]
    refine (get_ok a cap l p k w hs (by omega) h).mono ?_
    rintro e w' ⟨rfl, hb⟩
    exact ⟨by simp, hb⟩
  · rw [if_neg h]
    have he := getE_short hk hp h
    refine (get_bad a l.length cap p k w (Nat.le_trans hs.le hs.max) (by rw [he]; decide)).mono ?_
    rintro e w' ⟨rfl, hb⟩
    exact ⟨by rw [he], hb⟩

def readV (l : List UInt8) (p : Nat) : Value := match rdT l p with | some (s, p1) => .tuple #[.string s, .int .i64 p1, .int .i64 0] | none => .tuple #[.string ⟨#[]⟩, .int .i64 0, .int .i64 10]
set_option maxRecDepth 100000 in
set_option maxHeartbeats 1000000 in
theorem read_v (a : Option Addr) (cap : Nat) (l : List UInt8) (p : Nat) (w : World) (hs : SlB w a cap l) (hp : p ≤ l.length) (hl : l.length ≤ 1000000) :
    Calls Try.prog 95 #[.slice a l.length cap, .int .i64 p] w fun e w' => e = .returned (readV l p) ∧ Below w.heap.size w w' := by
  unfold readV rdT
  cases h1 : rdN l p 1 with
  | none =>
    have hg : getV l p 1 = .tuple #[.int .i64 0, .int .i64 0, .int .i64 10] := by unfold getV; rw [h1]
    have HG := Lib.hid hg
    clear hg h1
    go_enter Try.func95, Try.ntmps95
    go_wp2_with (go_at_call 57; refine (get_v a cap l p 1 _ hs hp (.inl rfl)).mono ?_; rintro e w1 ⟨rfl, hb1⟩; rw [HG.out])
    go_ret3
    exact ⟨rfl, hb1⟩
  | some r =>
    obtain ⟨n, p1⟩ := r
    have hp1 := (rdN_spec h1).2.2.1
    have hg : getV l p 1 = .tuple #[.int .i64 n, .int .i64 p1, .int .i64 0] := by unfold getV; rw [h1]
    have HG := Lib.hid hg
    clear hg h1
    simp only
    have hmx := hs.max
    by_cases h2 : p1 + n ≤ l.length
    · rw [if_pos h2]
      have HS := Lib.hid hs
      go_enter Try.func95, Try.ntmps95
      refine wp_seq_k (fun K hK => ?_)
      have HK := Lib.hid hK
      clear hK
      go_wp2
      refine HK.out _ _ ?_
      clear HK
      refine wp_seq_k (fun K hK => ?_)
      have HK := Lib.hid hK
      clear hK
      go_wp2_with (go_at_call 57; refine (get_v a cap l p 1 _ hs hp (.inl rfl)).mono ?_; rintro e w1 ⟨rfl, hb1⟩; rw [HG.out])
      refine HK.out _ _ ?_
      clear HK
      have hs1 := HS.out.below hb1
      have hrow : Row w1 (pieceA a cap p1) (bys ((l.drop p1).take n)) := by
        have h1 := (hs1.row.drop (cap := cap) (by rw [bys_len]; exact hs.le) p1 (by rw [bys_len]; omega)).take n
        have e : bys ((l.drop p1).take n) = ((bys l).drop p1).take n := by simp [bys, List.map_take, List.map_drop]
        rw [e]; exact h1
      have hpl : ((l.drop p1).take n).length = n := by rw [List.length_take, List.length_drop]; omega
      have hcv := conv_bytes (pieceA a cap p1) (cap - p1) _ _ hrow
      rw [hpl] at hcv
      have hle := hs.le
      have hnil := hs.nil
      have HX := Lib.hid hpl
      clear hpl hrow hs1 hs
      refine wp_seq_k (fun K hK => ?_)
      have HK := Lib.hid hK
      clear hK
      go_wp2
      refine HK.out _ _ ?_
      clear HK
      refine wp_seq_k (fun K hK => ?_)
      have HK := Lib.hid hK
      clear hK
      go_wp2_with (go_at_call 92; refine (piece_ok a l.length cap p1 n _ hmx hle h2 hnil).mono ?_; rintro e w2 ⟨rfl, rfl⟩)
      refine HK.out _ _ ?_
      clear HK
      go_wp2
      go_ret3
      exact ⟨rfl, hb1⟩
    · rw [if_neg h2]
      have hpe : pieceE l.length p1 n = 10 := by unfold pieceE; rw [if_neg (by omega), if_pos (by omega)]
      have HP := Lib.hid hpe
      clear hpe
      go_enter Try.func95, Try.ntmps95
      go_wp2_with (first
        | (go_at_call 57; refine (get_v a cap l p 1 _ hs hp (.inl rfl)).mono ?_; rintro e w1 ⟨rfl, hb1⟩; rw [HG.out])
        | (go_at_call 92; refine (piece_bad a l.length cap p1 n _ (Nat.le_trans hs.le hmx) (by rw [HP.out]; decide)).mono ?_; rintro e w1 ⟨rfl, rfl⟩; rw [HP.out]))
      go_ret3
      exact ⟨rfl, hb1⟩

end Go.Proofs.Ytmnjmjbmnhppfaa

namespace Go.Proofs.Ytmnjmjbmnhppfaa
open Go.RowKit

def wrongP : PanicEntry := { v := .iface 116 (.agg #[]), recovered := false }
theorem im_over18 (A : Array Value) (hA : A.size = 18) (i : Int) (x : Option Addr) (n c : Nat) (t : Tb) : 0 + 18 ≤ A.size ∧ (Value.agg (imA i (.slice x n c) t)).cells.size = 18 ∧ (∀ u ∈ (Value.agg (imA i (.slice x n c) t)).cells.toList, u.oneCell' = true) ∧ (A.toList.take 0 ++ (Value.agg (imA i (.slice x n c) t)).cells.toList ++ A.toList.drop (0 + 18)).toArray = imA i (.slice x n c) t := by
  refine ⟨by omega, rfl, ?_, ?_⟩
  · intro u hu
    simp [Value.cells, imA] at hu
    rcases hu with h | h | h | h | h | h | h | h | h | h | h | h | h | h | h | h | h | h <;> subst h <;> rfl
  · rw [List.drop_of_length_le (by simp; omega)]
    simp [Value.cells]

theorem er_over (x y : Value) (hy : y.cells = #[y]) (h1 : y.oneCell' = true) : 0 + 1 ≤ (#[x] : Array Value).size ∧ y.cells.size = 1 ∧ (∀ u ∈ y.cells.toList, u.oneCell' = true) ∧ ((#[x] : Array Value).toList.take 0 ++ y.cells.toList ++ (#[x] : Array Value).toList.drop (0 + 1)).toArray = #[y] := by
  rw [hy]
  exact ⟨Nat.le_refl _, rfl, by simp [h1], rfl⟩
theorem assert_wrong (W : World) (v : Value) : (Instr.typeAssert (.iface 116 v) 20 116 true).run Try.prog W = .ok (.tuple #[v, .bool true]) W := by kernel_rfl

set_option maxRecDepth 100000 in
set_option maxHeartbeats 1000000 in
theorem close_panics (N : Nat) (A : Array Value) (x : Value) (w : World) (B2 : w.heap[N]? = some (.cells A 49 (0, 0))) (hA : A.size = 18) (B3 : w.heap[N + 1]? = some (.cells #[x] 28 (0, 0))) :
    CallsD Try.prog 66 #[.pointer (some ⟨N, 0, none⟩), .pointer (some ⟨N + 1, 0, none⟩)] (.panicking [wrongP]) w fun e u' w' =>
      e = .returned (.tuple #[]) ∧ u' = .panicking [{ wrongP with recovered := true }] ∧ w'.heap[N]? = some (.cells (imA 0 (.slice none 0 0) zeroT) 49 (0, 0)) ∧ w'.heap[N + 1]? = some (.cells #[.int .i64 230] 28 (0, 0)) ∧ Below N w w' := by
  unfold wrongP
  have hta := assert_wrong
  have hl := lt_blk B3
  refine callsD_of_wpS Try.func66 rfl fun c₀ cs hu => ?_
  apply wpS_seq
  apply wpS_region
  simp [wpOpsS, go_sem, recoverD, hu, Try.ntmps66, Exit.thenS]
  apply wpS_seq
  apply wpS_region
  simp [wpOpsS, go_sem, Exit.thenS]
  refine wpS_cond (t := true) (by simp [Act.eval, Array.replicate]) ?_
  simp only [if_true]
  refine wpS_of_wp ?_
  simp only [Array.replicate_succ, Array.replicate_zero, List.push_toArray, List.append_toArray, List.nil_append, List.cons_append, List.setIfInBounds_toArray, List.set_cons_succ, List.set_cons_zero]
  go_wp2_with (first
    | ((with_reducible refine wpList_stB 49 _ _ ?_); refine ⟨_, _, _, ⟨_, _, _, Try.sizeOf49, rfl, tr_al _ B2, im_over18 A hA 0 none 0 0 zeroT⟩, ?_⟩; intro w6 B6 g6; have B36 := tr_st g6 (tr_al _ B3) (by omega))
    | ((with_reducible refine wpList_stB 28 _ _ ?_); refine ⟨_, _, _, ⟨_, _, _, Try.sizeOf28, rfl, B36, er_over _ (.int .i64 230) rfl rfl⟩, ?_⟩; intro w7 B7 g7))
  have F2 := tr_st g7 B6 (by omega)
  have hz : w.heap.size ≤ (w.alloc (Obj.cells #[] 116)).heap.size := by simp
  have FB : Below N w w7 := bl_st (bl_st ((blw w _).mono (by omega)) g6 (by omega) (Nat.le_refl _)) g7 (by have := g6.size; omega) (by omega)
  clear g6 g7 B6 B36 B2 B3 hta hA hz hl
  cases c₀
  simp_all [bodyPostS, results, Try.results66]
set_option maxRecDepth 100000 in
theorem close_idle (N : Nat) (w : World) :
    CallsD Try.prog 66 #[.pointer (some ⟨N, 0, none⟩), .pointer (some ⟨N + 1, 0, none⟩)] .returning w fun e u' w' => e = .returned (.tuple #[]) ∧ u' = .returning ∧ w' = w := by
  refine callsD_of_wpS Try.func66 rfl fun c₀ cs hu => ?_
  apply wpS_seq
  apply wpS_region
  simp [wpOpsS, go_sem, recoverD, hu, Try.ntmps66, Exit.thenS]
  apply wpS_seq
  apply wpS_region
  simp [wpOpsS, go_sem, Exit.thenS]
  refine wpS_cond (t := false) (by simp [Act.eval, Array.replicate]) ?_
  simp only [Bool.false_eq_true, if_false]
  refine wpS_of_wp (wp_skip ?_)
  cases c₀
  simp_all [bodyPostS, results, Try.results66]
end Go.Proofs.Ytmnjmjbmnhppfaa

namespace Go.Proofs.Ytmnjmjbmnhppfaa
open Go.RowKit

/-! What is thrown. -/
theorem must_ok (w : World) : Calls Try.prog 70 #[.int .i64 0] w fun e w' => e = .returned (.tuple #[]) ∧ w = w' := by
  go_enter Try.func70, Try.ntmps70
  go_wp2
  go_end0
  exact ⟨rfl, rfl⟩
theorem must_bad (er : Int) (w : World) (h : (er != 0) = true) : Calls Try.prog 70 #[.int .i64 er] w fun e w' => e = .panicked [wrongP] ∧ w = w' := by
  unfold wrongP
  go_enter Try.func70, Try.ntmps70
  go_wp2
  exact ⟨rfl, rfl, rfl⟩

structure RdB (g : Nat) (a : Option Addr) (cap : Nat) (l : List UInt8) (p : Nat) (w : World) : Prop where
  blk : w.heap[g]? = some (.cells #[.slice a l.length cap, .int .i64 p] 120 (0, 0))
  sl : SlB w a cap l
  le : p ≤ l.length
  len : l.length ≤ 1000000
def NumRes (g : Nat) (a : Option Addr) (cap : Nat) (l : List UInt8) (p k : Nat) (w : World) (e : Ending) (w' : World) : Prop :=
  w.grownBy w' (some g) ∧ ((∃ n p1, rdN l p k = some (n, p1) ∧ e = .returned (.int .i64 n) ∧ w'.heap[g]? = some (.cells #[.slice a l.length cap, .int .i64 p1] 120 (0, 0))) ∨ (rdN l p k = none ∧ e = .panicked [wrongP]))
def TxtRes (g : Nat) (a : Option Addr) (cap : Nat) (l : List UInt8) (p : Nat) (w : World) (e : Ending) (w' : World) : Prop :=
  w.grownBy w' (some g) ∧ ((∃ s p1, rdT l p = some (s, p1) ∧ e = .returned (.string s) ∧ w'.heap[g]? = some (.cells #[.slice a l.length cap, .int .i64 p1] 120 (0, 0))) ∨ (rdT l p = none ∧ e = .panicked [wrongP]))
theorem rd_at (x y : Value) (n : Int) : 1 + 1 ≤ (#[x, y] : Array Value).size ∧ (Value.int .i64 n).cells.size = 1 ∧ (∀ u ∈ (Value.int .i64 n).cells.toList, u.oneCell' = true) ∧ ((#[x, y] : Array Value).toList.take 1 ++ (Value.int .i64 n).cells.toList ++ (#[x, y] : Array Value).toList.drop (1 + 1)).toArray = #[x, .int .i64 n] :=
  ⟨Nat.le_refl _, rfl, by simp [Value.cells, Value.oneCell'], rfl⟩

set_option maxRecDepth 100000 in
set_option maxHeartbeats 1000000 in
theorem rnum_any (g : Nat) (a : Option Addr) (cap : Nat) (l : List UInt8) (p k : Nat) (w : World) (hr : RdB g a cap l p w) (hk : k = 1 ∨ k = 2 ∨ k = 6) :
    Calls Try.prog 67 #[.pointer (some ⟨g, 0, none⟩), .int .i64 k] w (NumRes g a cap l p k w) := by
  have B := hr.blk
  have hget : ∀ w', Below w.heap.size w w' → Calls Try.prog 57 #[.slice a l.length cap, .int .i64 p, .int .i64 k] w' fun e w'' => e = .returned (getV l p k) ∧ Below w.heap.size w w'' := fun w' hb =>
    (get_v a cap l p k w' (hr.sl.below hb) hr.le hk).mono fun _ _ h => ⟨h.1, step_b hb h.2⟩
  have HGET := Lib.hid hget
  clear hget
  cases h1 : rdN l p k with
  | none =>
    have hg : getV l p k = .tuple #[.int .i64 0, .int .i64 0, .int .i64 10] := by unfold getV; rw [h1]
    have HG := Lib.hid hg
    have H1 := Lib.hid h1
    clear hg h1
    go_enter Try.func67, Try.ntmps67
    refine wp_seq_k (fun K hK => ?_)
    have HK := Lib.hid hK
    clear hK
    go_wp2
    refine HK.out _ _ ?_
    clear HK
    refine wp_seq_k (fun K hK => ?_)
    have HK := Lib.hid hK
    clear hK
    refine wp_region_cls (C := fun w' => Below w.heap.size w w') (by kernel_rfl) (by kernel_rfl) (Below.refl _ _).drew ?_
    refine wpQuiet_val (by rfl) ?_ ?_ ?_
    rotate_left
    · intro wS hSw
      go_simp
      (try with_reducible rfl)
    (try simp only [Act.put])
    (try simp only [List.setIfInBounds_toArray])
    (try simp only [List.set_cons_succ])
    (try simp only [List.set_cons_zero])
    refine wpQuiet_val (by rfl) ?_ ?_ ?_
    rotate_left
    · intro wS hSw
      go_simp
      (try with_reducible rfl)
    (try simp only [Act.put])
    (try simp only [List.setIfInBounds_toArray])
    (try simp only [List.set_cons_succ])
    (try simp only [List.set_cons_zero])
    refine wpQuiet_val (by rfl) ?_ ?_ ?_
    rotate_left
    · intro wS hSw
      go_simp
      (try with_reducible rfl)
    (try simp only [Act.put])
    (try simp only [List.setIfInBounds_toArray])
    (try simp only [List.set_cons_succ])
    (try simp only [List.set_cons_zero])
    refine wpQuiet_val (by rfl) ?_ ?_ ?_
    rotate_left
    · intro wS hSw
      have c := blk_cell (tr_bl hSw B) 0 _ rfl
      go_simp
      (try with_reducible rfl)
    (try simp only [Act.put])
    (try simp only [List.setIfInBounds_toArray])
    (try simp only [List.set_cons_succ])
    (try simp only [List.set_cons_zero])
    refine wpQuiet_val (by rfl) ?_ ?_ ?_
    rotate_left
    · intro wS hSw
      go_simp
      (try with_reducible rfl)
    (try simp only [Act.put])
    (try simp only [List.setIfInBounds_toArray])
    (try simp only [List.set_cons_succ])
    (try simp only [List.set_cons_zero])
    refine wpQuiet_val (by rfl) ?_ ?_ ?_
    rotate_left
    · intro wS hSw
      go_simp
      (try with_reducible rfl)
    (try simp only [Act.put])
    (try simp only [List.setIfInBounds_toArray])
    (try simp only [List.set_cons_succ])
    (try simp only [List.set_cons_zero])
    refine wpQuiet_val (by rfl) ?_ ?_ ?_
    rotate_left
    · intro wS hSw
      go_simp
      (try with_reducible rfl)
    (try simp only [Act.put])
    (try simp only [List.setIfInBounds_toArray])
    (try simp only [List.set_cons_succ])
    (try simp only [List.set_cons_zero])
    refine wpQuiet_val (by rfl) ?_ ?_ ?_
    rotate_left
    · intro wS hSw
      have c := blk_cell (tr_bl hSw B) 1 _ rfl
      go_simp
      (try with_reducible rfl)
    (try simp only [Act.put])
    (try simp only [List.setIfInBounds_toArray])
    (try simp only [List.set_cons_succ])
    (try simp only [List.set_cons_zero])
    refine wpQuiet_val (by rfl) ?_ ?_ ?_
    rotate_left
    · intro wS hSw
      go_simp
      (try with_reducible rfl)
    (try simp only [Act.put])
    (try simp only [List.setIfInBounds_toArray])
    (try simp only [List.set_cons_succ])
    (try simp only [List.set_cons_zero])
    refine wpQuiet_gen (by rfl) (.tuple #[.int .i64 0, .int .i64 0, .int .i64 10]) (fun wS hSw => ?_) ?_
    · unfold Oper.quietAt
      go_simp
      (try refine ⟨rfl, ?_⟩)
      rw [← HG.out]; exact HGET.out _ hSw
    (try simp only [Act.put])
    (try simp only [List.setIfInBounds_toArray])
    (try simp only [List.set_cons_succ])
    (try simp only [List.set_cons_zero])
    refine wpQuiet_val (by rfl) ?_ ?_ ?_
    rotate_left
    · intro wS hSw
      go_simp
      (try with_reducible rfl)
    (try simp only [Act.put])
    (try simp only [List.setIfInBounds_toArray])
    (try simp only [List.set_cons_succ])
    (try simp only [List.set_cons_zero])
    refine wpQuiet_val (by rfl) ?_ ?_ ?_
    rotate_left
    · intro wS hSw
      go_simp
      (try with_reducible rfl)
    (try simp only [Act.put])
    (try simp only [List.setIfInBounds_toArray])
    (try simp only [List.set_cons_succ])
    (try simp only [List.set_cons_zero])
    refine wpQuiet_val (by rfl) ?_ ?_ ?_
    rotate_left
    · intro wS hSw
      go_simp
      (try with_reducible rfl)
    (try simp only [Act.put])
    (try simp only [List.setIfInBounds_toArray])
    (try simp only [List.set_cons_succ])
    (try simp only [List.set_cons_zero])
    refine wpQuiet_val (by rfl) ?_ ?_ ?_
    rotate_left
    · intro wS hSw
      go_simp
      (try with_reducible rfl)
    (try simp only [Act.put])
    (try simp only [List.setIfInBounds_toArray])
    (try simp only [List.set_cons_succ])
    (try simp only [List.set_cons_zero])
    refine wpQuiet_val (by rfl) ?_ ?_ ?_
    rotate_left
    · intro wS hSw
      go_simp
      (try with_reducible rfl)
    (try simp only [Act.put])
    (try simp only [List.setIfInBounds_toArray])
    (try simp only [List.set_cons_succ])
    (try simp only [List.set_cons_zero])
    refine wpQuiet_val (by rfl) ?_ ?_ ?_
    rotate_left
    · intro wS hSw
      go_simp
      (try with_reducible rfl)
    (try simp only [Act.put])
    (try simp only [List.setIfInBounds_toArray])
    (try simp only [List.set_cons_succ])
    (try simp only [List.set_cons_zero])
    refine wpQuiet_val (by rfl) ?_ ?_ ?_
    rotate_left
    · intro wS hSw
      go_simp
      (try with_reducible rfl)
    (try simp only [Act.put])
    (try simp only [List.setIfInBounds_toArray])
    (try simp only [List.set_cons_succ])
    (try simp only [List.set_cons_zero])
    refine wpQuiet_nil ?_
    intro wE hE
    refine HK.out _ _ ?_
    clear HK
    go_wp2_with (go_at_call 70; refine (must_bad 10 _ rfl).mono ?_; rintro e w2 ⟨rfl, rfl⟩)
    exact ⟨rfl, gb_of_below hE _, .inr ⟨H1.out, rfl⟩⟩
  | some r =>
    obtain ⟨n, p1⟩ := r
    have hg : getV l p k = .tuple #[.int .i64 n, .int .i64 p1, .int .i64 0] := by unfold getV; rw [h1]
    have HG := Lib.hid hg
    have H1 := Lib.hid h1
    clear hg h1
    go_enter Try.func67, Try.ntmps67
    refine wp_seq_k (fun K hK => ?_)
    have HK := Lib.hid hK
    clear hK
    go_wp2
    refine HK.out _ _ ?_
    clear HK
    refine wp_seq_k (fun K hK => ?_)
    have HK := Lib.hid hK
    clear hK
    refine wp_region_cls (C := fun w' => Below w.heap.size w w') (by kernel_rfl) (by kernel_rfl) (Below.refl _ _).drew ?_
    refine wpQuiet_val (by rfl) ?_ ?_ ?_
    rotate_left
    · intro wS hSw
      go_simp
      (try with_reducible rfl)
    (try simp only [Act.put])
    (try simp only [List.setIfInBounds_toArray])
    (try simp only [List.set_cons_succ])
    (try simp only [List.set_cons_zero])
    refine wpQuiet_val (by rfl) ?_ ?_ ?_
    rotate_left
    · intro wS hSw
      go_simp
      (try with_reducible rfl)
    (try simp only [Act.put])
    (try simp only [List.setIfInBounds_toArray])
    (try simp only [List.set_cons_succ])
    (try simp only [List.set_cons_zero])
    refine wpQuiet_val (by rfl) ?_ ?_ ?_
    rotate_left
    · intro wS hSw
      go_simp
      (try with_reducible rfl)
    (try simp only [Act.put])
    (try simp only [List.setIfInBounds_toArray])
    (try simp only [List.set_cons_succ])
    (try simp only [List.set_cons_zero])
    refine wpQuiet_val (by rfl) ?_ ?_ ?_
    rotate_left
    · intro wS hSw
      have c := blk_cell (tr_bl hSw B) 0 _ rfl
      go_simp
      (try with_reducible rfl)
    (try simp only [Act.put])
    (try simp only [List.setIfInBounds_toArray])
    (try simp only [List.set_cons_succ])
    (try simp only [List.set_cons_zero])
    refine wpQuiet_val (by rfl) ?_ ?_ ?_
    rotate_left
    · intro wS hSw
      go_simp
      (try with_reducible rfl)
    (try simp only [Act.put])
    (try simp only [List.setIfInBounds_toArray])
    (try simp only [List.set_cons_succ])
    (try simp only [List.set_cons_zero])
    refine wpQuiet_val (by rfl) ?_ ?_ ?_
    rotate_left
    · intro wS hSw
      go_simp
      (try with_reducible rfl)
    (try simp only [Act.put])
    (try simp only [List.setIfInBounds_toArray])
    (try simp only [List.set_cons_succ])
    (try simp only [List.set_cons_zero])
    refine wpQuiet_val (by rfl) ?_ ?_ ?_
    rotate_left
    · intro wS hSw
      go_simp
      (try with_reducible rfl)
    (try simp only [Act.put])
    (try simp only [List.setIfInBounds_toArray])
    (try simp only [List.set_cons_succ])
    (try simp only [List.set_cons_zero])
    refine wpQuiet_val (by rfl) ?_ ?_ ?_
    rotate_left
    · intro wS hSw
      have c := blk_cell (tr_bl hSw B) 1 _ rfl
      go_simp
      (try with_reducible rfl)
    (try simp only [Act.put])
    (try simp only [List.setIfInBounds_toArray])
    (try simp only [List.set_cons_succ])
    (try simp only [List.set_cons_zero])
    refine wpQuiet_val (by rfl) ?_ ?_ ?_
    rotate_left
    · intro wS hSw
      go_simp
      (try with_reducible rfl)
    (try simp only [Act.put])
    (try simp only [List.setIfInBounds_toArray])
    (try simp only [List.set_cons_succ])
    (try simp only [List.set_cons_zero])
    refine wpQuiet_gen (by rfl) (.tuple #[.int .i64 n, .int .i64 p1, .int .i64 0]) (fun wS hSw => ?_) ?_
    · unfold Oper.quietAt
      go_simp
      (try refine ⟨rfl, ?_⟩)
      rw [← HG.out]; exact HGET.out _ hSw
    (try simp only [Act.put])
    (try simp only [List.setIfInBounds_toArray])
    (try simp only [List.set_cons_succ])
    (try simp only [List.set_cons_zero])
    refine wpQuiet_val (by rfl) ?_ ?_ ?_
    rotate_left
    · intro wS hSw
      go_simp
      (try with_reducible rfl)
    (try simp only [Act.put])
    (try simp only [List.setIfInBounds_toArray])
    (try simp only [List.set_cons_succ])
    (try simp only [List.set_cons_zero])
    refine wpQuiet_val (by rfl) ?_ ?_ ?_
    rotate_left
    · intro wS hSw
      go_simp
      (try with_reducible rfl)
    (try simp only [Act.put])
    (try simp only [List.setIfInBounds_toArray])
    (try simp only [List.set_cons_succ])
    (try simp only [List.set_cons_zero])
    refine wpQuiet_val (by rfl) ?_ ?_ ?_
    rotate_left
    · intro wS hSw
      go_simp
      (try with_reducible rfl)
    (try simp only [Act.put])
    (try simp only [List.setIfInBounds_toArray])
    (try simp only [List.set_cons_succ])
    (try simp only [List.set_cons_zero])
    refine wpQuiet_val (by rfl) ?_ ?_ ?_
    rotate_left
    · intro wS hSw
      go_simp
      (try with_reducible rfl)
    (try simp only [Act.put])
    (try simp only [List.setIfInBounds_toArray])
    (try simp only [List.set_cons_succ])
    (try simp only [List.set_cons_zero])
    refine wpQuiet_val (by rfl) ?_ ?_ ?_
    rotate_left
    · intro wS hSw
      go_simp
      (try with_reducible rfl)
    (try simp only [Act.put])
    (try simp only [List.setIfInBounds_toArray])
    (try simp only [List.set_cons_succ])
    (try simp only [List.set_cons_zero])
    refine wpQuiet_val (by rfl) ?_ ?_ ?_
    rotate_left
    · intro wS hSw
      go_simp
      (try with_reducible rfl)
    (try simp only [Act.put])
    (try simp only [List.setIfInBounds_toArray])
    (try simp only [List.set_cons_succ])
    (try simp only [List.set_cons_zero])
    refine wpQuiet_val (by rfl) ?_ ?_ ?_
    rotate_left
    · intro wS hSw
      go_simp
      (try with_reducible rfl)
    (try simp only [Act.put])
    (try simp only [List.setIfInBounds_toArray])
    (try simp only [List.set_cons_succ])
    (try simp only [List.set_cons_zero])
    refine wpQuiet_nil ?_
    intro wE hE
    refine HK.out _ _ ?_
    clear HK
    have BE := tr_bl hE B
    go_wp2_with (first
      | (go_at_call 70; refine (must_ok _).mono ?_; rintro e w2 ⟨rfl, rfl⟩)
      | ((first | (with_reducible refine wpList_stB 3 _ _ ?_) | (with_reducible refine wp_stB 3 _ _ ?_)); refine ⟨_, _, _, ⟨_, _, _, Try.sizeOf3, rfl, ‹_›, rd_at _ _ _⟩, ?_⟩; intro w3 B3 g3))
    go_ret
    exact ⟨gb_trans (gb_of_below hE _) g3 (fun _ e => .inr e), .inl ⟨n, p1, H1.out, rfl, B3⟩⟩
set_option maxRecDepth 100000 in
set_option maxHeartbeats 1000000 in
theorem rtxt_any (g : Nat) (a : Option Addr) (cap : Nat) (l : List UInt8) (p : Nat) (w : World) (hr : RdB g a cap l p w) :
    Calls Try.prog 68 #[.pointer (some ⟨g, 0, none⟩)] w (TxtRes g a cap l p w) := by
  have B := hr.blk
  have hget : ∀ w', Below w.heap.size w w' → Calls Try.prog 95 #[.slice a l.length cap, .int .i64 p] w' fun e w'' => e = .returned (readV l p) ∧ Below w.heap.size w w'' := fun w' hb =>
    (read_v a cap l p w' (hr.sl.below hb) hr.le hr.len).mono fun _ _ h => ⟨h.1, step_b hb h.2⟩
  have HGET := Lib.hid hget
  clear hget
  cases h1 : rdT l p with
  | none =>
    have hg : readV l p = .tuple #[.string ⟨#[]⟩, .int .i64 0, .int .i64 10] := by unfold readV; rw [h1]
    have HG := Lib.hid hg
    have H1 := Lib.hid h1
    clear hg h1
    go_enter Try.func68, Try.ntmps68
    refine wp_seq_k (fun K hK => ?_)
    have HK := Lib.hid hK
    clear hK
    go_wp2
    refine HK.out _ _ ?_
    clear HK
    refine wp_seq_k (fun K hK => ?_)
    have HK := Lib.hid hK
    clear hK
    refine wp_region_cls (C := fun w' => Below w.heap.size w w') (by kernel_rfl) (by kernel_rfl) (Below.refl _ _).drew ?_
    refine wpQuiet_val (by rfl) ?_ ?_ ?_
    rotate_left
    · intro wS hSw
      go_simp
      (try with_reducible rfl)
    (try simp only [Act.put])
    (try simp only [List.setIfInBounds_toArray])
    (try simp only [List.set_cons_succ])
    (try simp only [List.set_cons_zero])
    refine wpQuiet_val (by rfl) ?_ ?_ ?_
    rotate_left
    · intro wS hSw
      go_simp
      (try with_reducible rfl)
    (try simp only [Act.put])
    (try simp only [List.setIfInBounds_toArray])
    (try simp only [List.set_cons_succ])
    (try simp only [List.set_cons_zero])
    refine wpQuiet_val (by rfl) ?_ ?_ ?_
    rotate_left
    · intro wS hSw
      go_simp
      (try with_reducible rfl)
    (try simp only [Act.put])
    (try simp only [List.setIfInBounds_toArray])
    (try simp only [List.set_cons_succ])
    (try simp only [List.set_cons_zero])
    refine wpQuiet_val (by rfl) ?_ ?_ ?_
    rotate_left
    · intro wS hSw
      have c := blk_cell (tr_bl hSw B) 0 _ rfl
      go_simp
      (try with_reducible rfl)
    (try simp only [Act.put])
    (try simp only [List.setIfInBounds_toArray])
    (try simp only [List.set_cons_succ])
    (try simp only [List.set_cons_zero])
    refine wpQuiet_val (by rfl) ?_ ?_ ?_
    rotate_left
    · intro wS hSw
      go_simp
      (try with_reducible rfl)
    (try simp only [Act.put])
    (try simp only [List.setIfInBounds_toArray])
    (try simp only [List.set_cons_succ])
    (try simp only [List.set_cons_zero])
    refine wpQuiet_val (by rfl) ?_ ?_ ?_
    rotate_left
    · intro wS hSw
      go_simp
      (try with_reducible rfl)
    (try simp only [Act.put])
    (try simp only [List.setIfInBounds_toArray])
    (try simp only [List.set_cons_succ])
    (try simp only [List.set_cons_zero])
    refine wpQuiet_val (by rfl) ?_ ?_ ?_
    rotate_left
    · intro wS hSw
      go_simp
      (try with_reducible rfl)
    (try simp only [Act.put])
    (try simp only [List.setIfInBounds_toArray])
    (try simp only [List.set_cons_succ])
    (try simp only [List.set_cons_zero])
    refine wpQuiet_val (by rfl) ?_ ?_ ?_
    rotate_left
    · intro wS hSw
      have c := blk_cell (tr_bl hSw B) 1 _ rfl
      go_simp
      (try with_reducible rfl)
    (try simp only [Act.put])
    (try simp only [List.setIfInBounds_toArray])
    (try simp only [List.set_cons_succ])
    (try simp only [List.set_cons_zero])
    refine wpQuiet_gen (by rfl) (.tuple #[.string ⟨#[]⟩, .int .i64 0, .int .i64 10]) (fun wS hSw => ?_) ?_
    · unfold Oper.quietAt
      go_simp
      (try refine ⟨rfl, ?_⟩)
      rw [← HG.out]; exact HGET.out _ hSw
    (try simp only [Act.put])
    (try simp only [List.setIfInBounds_toArray])
    (try simp only [List.set_cons_succ])
    (try simp only [List.set_cons_zero])
    refine wpQuiet_val (by rfl) ?_ ?_ ?_
    rotate_left
    · intro wS hSw
      go_simp
      (try with_reducible rfl)
    (try simp only [Act.put])
    (try simp only [List.setIfInBounds_toArray])
    (try simp only [List.set_cons_succ])
    (try simp only [List.set_cons_zero])
    refine wpQuiet_val (by rfl) ?_ ?_ ?_
    rotate_left
    · intro wS hSw
      go_simp
      (try with_reducible rfl)
    (try simp only [Act.put])
    (try simp only [List.setIfInBounds_toArray])
    (try simp only [List.set_cons_succ])
    (try simp only [List.set_cons_zero])
    refine wpQuiet_val (by rfl) ?_ ?_ ?_
    rotate_left
    · intro wS hSw
      go_simp
      (try with_reducible rfl)
    (try simp only [Act.put])
    (try simp only [List.setIfInBounds_toArray])
    (try simp only [List.set_cons_succ])
    (try simp only [List.set_cons_zero])
    refine wpQuiet_val (by rfl) ?_ ?_ ?_
    rotate_left
    · intro wS hSw
      go_simp
      (try with_reducible rfl)
    (try simp only [Act.put])
    (try simp only [List.setIfInBounds_toArray])
    (try simp only [List.set_cons_succ])
    (try simp only [List.set_cons_zero])
    refine wpQuiet_val (by rfl) ?_ ?_ ?_
    rotate_left
    · intro wS hSw
      go_simp
      (try with_reducible rfl)
    (try simp only [Act.put])
    (try simp only [List.setIfInBounds_toArray])
    (try simp only [List.set_cons_succ])
    (try simp only [List.set_cons_zero])
    refine wpQuiet_val (by rfl) ?_ ?_ ?_
    rotate_left
    · intro wS hSw
      go_simp
      (try with_reducible rfl)
    (try simp only [Act.put])
    (try simp only [List.setIfInBounds_toArray])
    (try simp only [List.set_cons_succ])
    (try simp only [List.set_cons_zero])
    refine wpQuiet_val (by rfl) ?_ ?_ ?_
    rotate_left
    · intro wS hSw
      go_simp
      (try with_reducible rfl)
    (try simp only [Act.put])
    (try simp only [List.setIfInBounds_toArray])
    (try simp only [List.set_cons_succ])
    (try simp only [List.set_cons_zero])
    refine wpQuiet_nil ?_
    intro wE hE
    refine HK.out _ _ ?_
    clear HK
    go_wp2_with (go_at_call 70; refine (must_bad 10 _ rfl).mono ?_; rintro e w2 ⟨rfl, rfl⟩)
    exact ⟨rfl, gb_of_below hE _, .inr ⟨H1.out, rfl⟩⟩
  | some r =>
    obtain ⟨s, p1⟩ := r
    have hg : readV l p = .tuple #[.string s, .int .i64 p1, .int .i64 0] := by unfold readV; rw [h1]
    have HG := Lib.hid hg
    have H1 := Lib.hid h1
    clear hg h1
    go_enter Try.func68, Try.ntmps68
    refine wp_seq_k (fun K hK => ?_)
    have HK := Lib.hid hK
    clear hK
    go_wp2
    refine HK.out _ _ ?_
    clear HK
    refine wp_seq_k (fun K hK => ?_)
    have HK := Lib.hid hK
    clear hK
    refine wp_region_cls (C := fun w' => Below w.heap.size w w') (by kernel_rfl) (by kernel_rfl) (Below.refl _ _).drew ?_
    refine wpQuiet_val (by rfl) ?_ ?_ ?_
    rotate_left
    · intro wS hSw
      go_simp
      (try with_reducible rfl)
    (try simp only [Act.put])
    (try simp only [List.setIfInBounds_toArray])
    (try simp only [List.set_cons_succ])
    (try simp only [List.set_cons_zero])
    refine wpQuiet_val (by rfl) ?_ ?_ ?_
    rotate_left
    · intro wS hSw
      go_simp
      (try with_reducible rfl)
    (try simp only [Act.put])
    (try simp only [List.setIfInBounds_toArray])
    (try simp only [List.set_cons_succ])
    (try simp only [List.set_cons_zero])
    refine wpQuiet_val (by rfl) ?_ ?_ ?_
    rotate_left
    · intro wS hSw
      go_simp
      (try with_reducible rfl)
    (try simp only [Act.put])
    (try simp only [List.setIfInBounds_toArray])
    (try simp only [List.set_cons_succ])
    (try simp only [List.set_cons_zero])
    refine wpQuiet_val (by rfl) ?_ ?_ ?_
    rotate_left
    · intro wS hSw
      have c := blk_cell (tr_bl hSw B) 0 _ rfl
      go_simp
      (try with_reducible rfl)
    (try simp only [Act.put])
    (try simp only [List.setIfInBounds_toArray])
    (try simp only [List.set_cons_succ])
    (try simp only [List.set_cons_zero])
    refine wpQuiet_val (by rfl) ?_ ?_ ?_
    rotate_left
    · intro wS hSw
      go_simp
      (try with_reducible rfl)
    (try simp only [Act.put])
    (try simp only [List.setIfInBounds_toArray])
    (try simp only [List.set_cons_succ])
    (try simp only [List.set_cons_zero])
    refine wpQuiet_val (by rfl) ?_ ?_ ?_
    rotate_left
    · intro wS hSw
      go_simp
      (try with_reducible rfl)
    (try simp only [Act.put])
    (try simp only [List.setIfInBounds_toArray])
    (try simp only [List.set_cons_succ])
    (try simp only [List.set_cons_zero])
    refine wpQuiet_val (by rfl) ?_ ?_ ?_
    rotate_left
    · intro wS hSw
      go_simp
      (try with_reducible rfl)
    (try simp only [Act.put])
    (try simp only [List.setIfInBounds_toArray])
    (try simp only [List.set_cons_succ])
    (try simp only [List.set_cons_zero])
    refine wpQuiet_val (by rfl) ?_ ?_ ?_
    rotate_left
    · intro wS hSw
      have c := blk_cell (tr_bl hSw B) 1 _ rfl
      go_simp
      (try with_reducible rfl)
    (try simp only [Act.put])
    (try simp only [List.setIfInBounds_toArray])
    (try simp only [List.set_cons_succ])
    (try simp only [List.set_cons_zero])
    refine wpQuiet_gen (by rfl) (.tuple #[.string s, .int .i64 p1, .int .i64 0]) (fun wS hSw => ?_) ?_
    · unfold Oper.quietAt
      go_simp
      (try refine ⟨rfl, ?_⟩)
      rw [← HG.out]; exact HGET.out _ hSw
    (try simp only [Act.put])
    (try simp only [List.setIfInBounds_toArray])
    (try simp only [List.set_cons_succ])
    (try simp only [List.set_cons_zero])
    refine wpQuiet_val (by rfl) ?_ ?_ ?_
    rotate_left
    · intro wS hSw
      go_simp
      (try with_reducible rfl)
    (try simp only [Act.put])
    (try simp only [List.setIfInBounds_toArray])
    (try simp only [List.set_cons_succ])
    (try simp only [List.set_cons_zero])
    refine wpQuiet_val (by rfl) ?_ ?_ ?_
    rotate_left
    · intro wS hSw
      go_simp
      (try with_reducible rfl)
    (try simp only [Act.put])
    (try simp only [List.setIfInBounds_toArray])
    (try simp only [List.set_cons_succ])
    (try simp only [List.set_cons_zero])
    refine wpQuiet_val (by rfl) ?_ ?_ ?_
    rotate_left
    · intro wS hSw
      go_simp
      (try with_reducible rfl)
    (try simp only [Act.put])
    (try simp only [List.setIfInBounds_toArray])
    (try simp only [List.set_cons_succ])
    (try simp only [List.set_cons_zero])
    refine wpQuiet_val (by rfl) ?_ ?_ ?_
    rotate_left
    · intro wS hSw
      go_simp
      (try with_reducible rfl)
    (try simp only [Act.put])
    (try simp only [List.setIfInBounds_toArray])
    (try simp only [List.set_cons_succ])
    (try simp only [List.set_cons_zero])
    refine wpQuiet_val (by rfl) ?_ ?_ ?_
    rotate_left
    · intro wS hSw
      go_simp
      (try with_reducible rfl)
    (try simp only [Act.put])
    (try simp only [List.setIfInBounds_toArray])
    (try simp only [List.set_cons_succ])
    (try simp only [List.set_cons_zero])
    refine wpQuiet_val (by rfl) ?_ ?_ ?_
    rotate_left
    · intro wS hSw
      go_simp
      (try with_reducible rfl)
    (try simp only [Act.put])
    (try simp only [List.setIfInBounds_toArray])
    (try simp only [List.set_cons_succ])
    (try simp only [List.set_cons_zero])
    refine wpQuiet_val (by rfl) ?_ ?_ ?_
    rotate_left
    · intro wS hSw
      go_simp
      (try with_reducible rfl)
    (try simp only [Act.put])
    (try simp only [List.setIfInBounds_toArray])
    (try simp only [List.set_cons_succ])
    (try simp only [List.set_cons_zero])
    refine wpQuiet_nil ?_
    intro wE hE
    refine HK.out _ _ ?_
    clear HK
    have BE := tr_bl hE B
    go_wp2_with (first
      | (go_at_call 70; refine (must_ok _).mono ?_; rintro e w2 ⟨rfl, rfl⟩)
      | ((first | (with_reducible refine wpList_stB 3 _ _ ?_) | (with_reducible refine wp_stB 3 _ _ ?_)); refine ⟨_, _, _, ⟨_, _, _, Try.sizeOf3, rfl, ‹_›, rd_at _ _ _⟩, ?_⟩; intro w3 B3 g3))
    go_ret
    exact ⟨gb_trans (gb_of_below hE _) g3 (fun _ e => .inr e), .inl ⟨s, p1, H1.out, rfl, B3⟩⟩

def FlgRes (g : Nat) (a : Option Addr) (cap : Nat) (l : List UInt8) (p : Nat) (w : World) (e : Ending) (w' : World) : Prop :=
  w.grownBy w' (some g) ∧ ((∃ f p1, rdF l p = some (f, p1) ∧ e = .returned (.bool f) ∧ w'.heap[g]? = some (.cells #[.slice a l.length cap, .int .i64 p1] 120 (0, 0))) ∨ (rdF l p = none ∧ e = .panicked [wrongP]))
section
variable {g : Nat} {a : Option Addr} {cap : Nat} {l : List UInt8} {p k : Nat} {w : World}
theorem rnum_ok {n p1 : Nat} (hr : RdB g a cap l p w) (hk : k = 1 ∨ k = 2 ∨ k = 6) (h : rdN l p k = some (n, p1)) :
    Calls Try.prog 67 #[.pointer (some ⟨g, 0, none⟩), .int .i64 k] w fun e w' => e = .returned (.int .i64 n) ∧ w'.heap[g]? = some (.cells #[.slice a l.length cap, .int .i64 p1] 120 (0, 0)) ∧ w.grownBy w' (some g) := by
  refine (rnum_any g a cap l p k w hr hk).mono ?_
  rintro e w' ⟨hg, ⟨n', p', hn, rfl, hB⟩ | ⟨hn, _⟩⟩
  · rw [h] at hn
    cases hn
    exact ⟨rfl, hB, hg⟩
  · rw [h] at hn
    cases hn
theorem rnum_no (hr : RdB g a cap l p w) (hk : k = 1 ∨ k = 2 ∨ k = 6) (h : rdN l p k = none) :
    Calls Try.prog 67 #[.pointer (some ⟨g, 0, none⟩), .int .i64 k] w fun e w' => e = .panicked [wrongP] ∧ w.grownBy w' (some g) := by
  refine (rnum_any g a cap l p k w hr hk).mono ?_
  rintro e w' ⟨hg, ⟨n', p', hn, _⟩ | ⟨_, he⟩⟩
  · rw [h] at hn
    cases hn
  · exact ⟨he, hg⟩
theorem rtxt_ok {s : Tx} {p1 : Nat} (hr : RdB g a cap l p w) (h : rdT l p = some (s, p1)) :
    Calls Try.prog 68 #[.pointer (some ⟨g, 0, none⟩)] w fun e w' => e = .returned (.string s) ∧ w'.heap[g]? = some (.cells #[.slice a l.length cap, .int .i64 p1] 120 (0, 0)) ∧ w.grownBy w' (some g) := by
  refine (rtxt_any g a cap l p w hr).mono ?_
  rintro e w' ⟨hg, ⟨n', p', hn, rfl, hB⟩ | ⟨hn, _⟩⟩
  · rw [h] at hn
    cases hn
    exact ⟨rfl, hB, hg⟩
  · rw [h] at hn
    cases hn
theorem rtxt_no (hr : RdB g a cap l p w) (h : rdT l p = none) :
    Calls Try.prog 68 #[.pointer (some ⟨g, 0, none⟩)] w fun e w' => e = .panicked [wrongP] ∧ w.grownBy w' (some g) := by
  refine (rtxt_any g a cap l p w hr).mono ?_
  rintro e w' ⟨hg, ⟨n', p', hn, _⟩ | ⟨_, he⟩⟩
  · rw [h] at hn
    cases hn
  · exact ⟨he, hg⟩
end
theorem SlB.gb {w w' : World} {a : Option Addr} {cap : Nat} {l : List UInt8} {r : Option Nat} (h : SlB w a cap l) (hg : w.grownBy w' r) (hne : ∀ b o, a = some ⟨b, o, none⟩ → r ≠ some b) : SlB w' a cap l := by
  refine ⟨?_, h.le, h.max, h.nil⟩
  rcases h.row with h0 | ⟨b, off, ha, hc⟩
  · exact .inl h0
  · refine .inr ⟨b, off, ha, fun i u hu => ?_⟩
    have h1 := hc i u hu
    rw [World.cell?_of_block (hg.block b (World.block_lt_of_cell? _ _ h1) (fun e => hne b off ha e.symm))]
    exact h1
set_option maxRecDepth 100000 in
set_option maxHeartbeats 1000000 in
theorem rflg_ok {g : Nat} {a : Option Addr} {cap : Nat} {l : List UInt8} {p p1 : Nat} {f : Bool} {w : World} (hr : RdB g a cap l p w) (h : rdF l p = some (f, p1)) :
    Calls Try.prog 69 #[.pointer (some ⟨g, 0, none⟩)] w fun e w' => e = .returned (.bool f) ∧ w'.heap[g]? = some (.cells #[.slice a l.length cap, .int .i64 p1] 120 (0, 0)) ∧ w.grownBy w' (some g) := by
  unfold rdF at h
  cases h1 : rdN l p 1 with
  | none => rw [h1] at h; cases h
  | some r =>
    obtain ⟨n, q⟩ := r
    rw [h1] at h
    simp only at h
    by_cases hn : 1 < n
    · rw [if_pos hn] at h; cases h
    · rw [if_neg hn] at h
      injection h with h
      injection h with hf hp
      subst hf hp
      have H1 := Lib.hid h1
      clear h1
      have hns : n = 0 ∨ n = 1 := by omega
      rcases hns with rfl | rfl
      all_goals
        go_enter Try.func69, Try.ntmps69
        go_wp2_with (go_at_call 67; refine (rnum_ok hr (.inl rfl) H1.out).mono ?_; rintro e w1 ⟨rfl, B1, hg1⟩)
        go_ret
        exact ⟨rfl, B1, hg1⟩
set_option maxRecDepth 100000 in
set_option maxHeartbeats 1000000 in
theorem rflg_no {g : Nat} {a : Option Addr} {cap : Nat} {l : List UInt8} {p : Nat} {w : World} (hr : RdB g a cap l p w) (h : rdF l p = none) :
    Calls Try.prog 69 #[.pointer (some ⟨g, 0, none⟩)] w fun e w' => e = .panicked [wrongP] ∧ w.grownBy w' (some g) := by
  unfold rdF at h
  cases h1 : rdN l p 1 with
  | none =>
    have H1 := Lib.hid h1
    clear h1 h
    go_enter Try.func69, Try.ntmps69
    go_wp2_with (go_at_call 67; refine (rnum_no hr (.inl rfl) H1.out).mono ?_; rintro e w1 ⟨rfl, hg1⟩)
    exact ⟨rfl, rfl, hg1⟩
  | some r =>
    obtain ⟨n, q⟩ := r
    rw [h1] at h
    simp only at h
    by_cases hn : 1 < n
    · have H1 := Lib.hid h1
      clear h1 h
      have hnb : (1 : Int) < (n : Int) := by omega
      go_enter Try.func69, Try.ntmps69
      go_wp2_with (first
        | (go_at_call 67; refine (rnum_ok hr (.inl rfl) H1.out).mono ?_; rintro e w1 ⟨rfl, B1, hg1⟩)
        | (go_at_call 70; refine (must_bad 230 _ rfl).mono ?_; rintro e w2 ⟨rfl, rfl⟩))
      exact ⟨rfl, rfl, hg1⟩
    · rw [if_neg hn] at h; cases h
end Go.Proofs.Ytmnjmjbmnhppfaa

namespace Go.Proofs.Ytmnjmjbmnhppfaa

/-! Plain: reading on, step by step. -/
def fin (l : List UInt8) : Option (Im × Nat) → Option Im
  | none => none
  | some (m, a) => if a < l.length ∨ mayI m = false then none else some m
theorem parse_fin (l : List UInt8) : parseI l = fin l (rdAll l) := by
  unfold parseI fin
  cases rdAll l with
  | none => rfl
  | some r => rfl
def rdTail (l : List UInt8) (i : Int) (st : List Pr) (n p : Nat) (rs : List Rw) : Option (Im × Nat) :=
  match rdRows l n p rs with
  | none => none
  | some (rs', a4) => some (⟨i, st, tbOf rs'⟩, a4)
theorem rest_zero (l : List UInt8) (i : Int) (p : Nat) (st : List Pr) : rdRest l i 0 p st = rdTail l i st 4 p [] := rfl
theorem rest_ok {l : List UInt8} {i : Int} {n p p1 p2 : Nat} {st : List Pr} {k v : Tx} (h1 : rdT l p = some (k, p1)) (h2 : rdT l p1 = some (v, p2)) : rdRest l i (n + 1) p st = rdRest l i n p2 (st ++ [(k, v)]) := by
  unfold rdRest
  simp only [rdPairs, h1, h2]
theorem rest_no1 {l : List UInt8} {i : Int} {n p : Nat} {st : List Pr} (h1 : rdT l p = none) : rdRest l i (n + 1) p st = none := by
  unfold rdRest
  simp only [rdPairs, h1]
theorem rest_no2 {l : List UInt8} {i : Int} {n p p1 : Nat} {st : List Pr} {k : Tx} (h1 : rdT l p = some (k, p1)) (h2 : rdT l p1 = none) : rdRest l i (n + 1) p st = none := by
  unfold rdRest
  simp only [rdPairs, h1, h2]
theorem tail_zero (l : List UInt8) (i : Int) (st : List Pr) (p : Nat) (rs : List Rw) : rdTail l i st 0 p rs = some (⟨i, st, tbOf rs⟩, p) := rfl
theorem tail_ok {l : List UInt8} {i : Int} {st : List Pr} {n p p1 : Nat} {rs : List Rw} {r : Rw} (h : rdRow l p = some (r, p1)) : rdTail l i st (n + 1) p rs = rdTail l i st n p1 (rs ++ [r]) := by
  unfold rdTail
  simp only [rdRows, h]
theorem tail_no {l : List UInt8} {i : Int} {st : List Pr} {n p : Nat} {rs : List Rw} (h : rdRow l p = none) : rdTail l i st (n + 1) p rs = none := by
  unfold rdTail
  simp only [rdRows, h]

def stSeq (t : Tb) (q : Nat) (x : Int) : Tb := t.put q { t.at q with seq := x }
def stErr (t : Tb) (q : Nat) (x : Int) : Tb := t.put q { t.at q with rep := { (t.at q).rep with err := x } }
def stFnd (t : Tb) (q : Nat) (x : Bool) : Tb := t.put q { t.at q with rep := { (t.at q).rep with found := x } }
def stVal (t : Tb) (q : Nat) (x : Tx) : Tb := t.put q { t.at q with rep := { (t.at q).rep with val := x } }
/-! One cell of a row of an image's table. -/
theorem fld_seq (i : Int) (s : Value) (t : Tb) (x : Int) {q : Nat} (h : q < 4) : 2 + q * 4 + 1 ≤ (imA i s t).size ∧ (Value.int .i64 x).cells.size = 1 ∧ (∀ u ∈ (Value.int .i64 x).cells.toList, u.oneCell' = true) ∧ ((imA i s t).toList.take (2 + q * 4) ++ (Value.int .i64 x).cells.toList ++ (imA i s t).toList.drop (2 + q * 4 + 1)).toArray = imA i s (stSeq t q x) := by
  rcases four_cases h with rfl | rfl | rfl | rfl
  all_goals exact ⟨by show _ ≤ 18; omega, rfl, by simp [Value.cells, Value.oneCell'], by simp [imA, stSeq, Tb.put, Tb.at, Value.cells]⟩
theorem fld_err (i : Int) (s : Value) (t : Tb) (x : Int) {q : Nat} (h : q < 4) : 2 + q * 4 + 1 + 1 ≤ (imA i s t).size ∧ (Value.int .i64 x).cells.size = 1 ∧ (∀ u ∈ (Value.int .i64 x).cells.toList, u.oneCell' = true) ∧ ((imA i s t).toList.take (2 + q * 4 + 1) ++ (Value.int .i64 x).cells.toList ++ (imA i s t).toList.drop (2 + q * 4 + 1 + 1)).toArray = imA i s (stErr t q x) := by
  rcases four_cases h with rfl | rfl | rfl | rfl
  all_goals exact ⟨by show _ ≤ 18; omega, rfl, by simp [Value.cells, Value.oneCell'], by simp [imA, stErr, Tb.put, Tb.at, Value.cells]⟩
theorem fld_found (i : Int) (s : Value) (t : Tb) (x : Bool) {q : Nat} (h : q < 4) : 2 + q * 4 + 2 + 1 ≤ (imA i s t).size ∧ (Value.bool x).cells.size = 1 ∧ (∀ u ∈ (Value.bool x).cells.toList, u.oneCell' = true) ∧ ((imA i s t).toList.take (2 + q * 4 + 2) ++ (Value.bool x).cells.toList ++ (imA i s t).toList.drop (2 + q * 4 + 2 + 1)).toArray = imA i s (stFnd t q x) := by
  rcases four_cases h with rfl | rfl | rfl | rfl
  all_goals exact ⟨by show _ ≤ 18; omega, rfl, by simp [Value.cells, Value.oneCell'], by simp [imA, stFnd, Tb.put, Tb.at, Value.cells]⟩
theorem fld_val (i : Int) (s : Value) (t : Tb) (x : Tx) {q : Nat} (h : q < 4) : 2 + q * 4 + 3 + 1 ≤ (imA i s t).size ∧ (Value.string x).cells.size = 1 ∧ (∀ u ∈ (Value.string x).cells.toList, u.oneCell' = true) ∧ ((imA i s t).toList.take (2 + q * 4 + 3) ++ (Value.string x).cells.toList ++ (imA i s t).toList.drop (2 + q * 4 + 3 + 1)).toArray = imA i s (stVal t q x) := by
  rcases four_cases h with rfl | rfl | rfl | rfl
  all_goals exact ⟨by show _ ≤ 18; omega, rfl, by simp [Value.cells, Value.oneCell'], by simp [imA, stVal, Tb.put, Tb.at, Value.cells]⟩
theorem st_four (t : Tb) {q : Nat} (h : q < 4) (s e : Int) (f : Bool) (v : Tx) : stVal (stFnd (stErr (stSeq t q s) q e) q f) q v = t.put q ⟨s, ⟨e, f, v⟩⟩ := by
  rcases four_cases h with rfl | rfl | rfl | rfl <;> simp [stVal, stFnd, stErr, stSeq, Tb.put, Tb.at]
theorem tbOf_snoc {rs : List Rw} {q : Nat} (hr : rs.length = q) (h : q < 4) (r : Rw) : tbOf (rs ++ [r]) = (tbOf rs).put q r := by
  subst hr
  match rs, h with
  | [], _ => rfl
  | [a], _ => rfl
  | [a, b], _ => rfl
  | [a, b, c], _ => rfl
  | a :: b :: c :: d :: l, h => simp at h; omega
theorem tbOf_nil : tbOf [] = zeroT := rfl
end Go.Proofs.Ytmnjmjbmnhppfaa

namespace Go.Proofs.Ytmnjmjbmnhppfaa
open Go.RowKit

theorem wp_appN {P : Program} {w : World} {o : Oper} {a : Act} {K : Act → World → Prop} {Q : Exit → Act → World → Prop} (s x : Operand) (t t' e e' : TypeId) {size bytes : Nat} (hT : ElemT P t e size bytes) (ht' : P.underlying t' = some (.slice e'))
    (ho : o.op = .call { callee := .builtin .append, args := #[s, x], argTypes := #[t, t'] })
    (base : Nat) (v : Value) (n : Nat) (xs : List Value) (hs : a.eval s = v) (hown : w.ownsRow base e size v n xs)
    (ad : Addr) (m c : Nat) (news : List Value) (hx : a.eval x = .slice (some ad) m c) (hl : news.length = m * size) (hnews : ∀ j u, news[j]? = some u → w.cell? (ad.add j) = some u) (h1 : ∀ u ∈ news, u.oneCell' = true)
    (hn : n + m ≤ 4294967296) (hby : bytes ≤ 4096) (hbase : base ≤ w.heap.size)
    (h : ∀ v' w', w'.ownsRow base e size v' (n + m) (xs ++ news) → w.grownBy w' v.ownBlock → K (a.put o.dst v') w') : o.wp P a w K Q := by
  obtain ⟨i, z, ht, hi, hz, hsize, hbytes, hzs, hsz⟩ := hT.ex
  obtain ⟨b0, c0, hv0, _⟩ := Row.of_owns hown
  have hb1 : (n + m) * bytes ≤ 4294967296 * 4096 := Nat.mul_le_mul hn hby
  obtain ⟨v', w', hr, h2, h3, _⟩ := run_append_own (P := P) (w := w) base t o.type e i z size bytes ht hi hz hsize hbytes hzs hsz v n xs hown ad m c news hl hnews h1 (by unfold maxLen; omega) (by omega) hbase
  have he : (execOp a.eval { o with op := .call { callee := .builtin .append, args := #[s, x], argTypes := #[t, t] } }).run P w = .ok (.value v') w' := exec_append (o := { o with op := .call { callee := .builtin .append, args := #[s, x], argTypes := #[t, t] } }) s x t t rfl _ _ hs hx hr
  exact wp_run ((exec_append_mixed ht ht' ho (hs.trans hv0) hx).trans he) (h v' w' h2 h3)
theorem results_c2 {P : Program} {fn : Func} {p t p2 t2 : Nat} {tmps : Array Value} {w : World} {A A2 : Addr} {v v2 : Value} (hf : fn.results = #[.cell p t, .cell p2 t2]) (hp : tmps.getD p undef = .pointer (some A)) (hl : (loadVar t A).run P w = .ok v w)
    (hp2 : tmps.getD p2 undef = .pointer (some A2)) (hl2 : (loadVar t2 A2).run P w = .ok v2 w) : (results fn tmps).run P w = .ok (.tuple #[v, v2]) w := by
  have hp' : tmps[p]?.getD undef = .pointer (some A) := by simpa using hp
  have hp2' : tmps[p2]?.getD undef = .pointer (some A2) := by simpa using hp2
  simp [results, hf, hp', hp2', asAddr, hl, hl2]
theorem load_errno {w : World} {g : Nat} {x : Value} (B : w.heap[g]? = some (.cells #[x] 28 (0, 0))) : (loadVar 28 ⟨g, 0, none⟩).run Try.prog w = .ok x w := by
  have c := blk_cell B 0 _ rfl
  have ha := Try.isAgg28
  simp [loadVar, Sem.run_bind, ha, go_sem, c]

theorem results_same2 {fn : Func} {p t p2 t2 : Nat} {tmps tmps' : Array Value} (hf : fn.results = #[.cell p t, .cell p2 t2]) (h : tmps.getD p undef = tmps'.getD p undef) (h2 : tmps.getD p2 undef = tmps'.getD p2 undef) : results fn tmps = results fn tmps' := by
  have h' : tmps[p]?.getD undef = tmps'[p]?.getD undef := by simpa using h
  have h2' : tmps[p2]?.getD undef = tmps'[p2]?.getD undef := by simpa using h2
  simp [results, hf, h', h2']
theorem leaves_same {P : Program} {fn : Func} {tmps tmps' : Array Value} {R : Ending → World → Prop} (h : results fn tmps = results fn tmps') : ∀ (ds : List Deferred) (u : FrameMode) (w : World), Leaves P fn tmps R ds u w → Leaves P fn tmps' R ds u w
  | [], .returning, w, hl => by
    obtain ⟨v, hr, hR⟩ := hl
    exact ⟨v, by rw [← h]; exact hr, hR⟩
  | [], .panicking _, w, hl => hl
  | [], .run, w, hl => hl.elim
  | d :: ds, u, w, hl => by
    obtain ⟨hu, fv, cap, f, args, h1, h2, hc⟩ := hl
    refine ⟨hu, fv, cap, f, args, h1, h2, hc.mono ?_⟩
    intro e u' w' hq
    cases e with
    | returned v => exact leaves_same h ds _ _ hq
    | panicked ch => exact leaves_same h ds _ _ hq
    | outgrown => exact hq
theorem putQ {P : Program} {fn : Func} {p t p2 t2 d : Nat} {v : Value} {R : Ending → World → Prop} {c : List PanicEntry} {a : Act} {w : World} (hf : fn.results = #[.cell p t, .cell p2 t2]) (h1 : p ≠ d) (h2 : p2 ≠ d) (h : bodyPostD P fn R (.panic c) (a.put (some d) v) w) : bodyPostD P fn R (.panic c) a w := by
  refine leaves_same (results_same2 hf ?_ ?_) _ _ _ h
  · simp [Act.put, h1.symm]
  · simp [Act.put, h2.symm]

/-! The reader's numbers, their widths spelt. -/
section
variable {g : Nat} {a : Option Addr} {cap : Nat} {l : List UInt8} {p n p1 : Nat} {w : World}
theorem rnum6_ok (hr : RdB g a cap l p w) (h : rdN l p 6 = some (n, p1)) :
    Calls Try.prog 67 #[.pointer (some ⟨g, 0, none⟩), .int .i64 6] w fun e w' => e = .returned (.int .i64 n) ∧ w'.heap[g]? = some (.cells #[.slice a l.length cap, .int .i64 p1] 120 (0, 0)) ∧ w.grownBy w' (some g) := rnum_ok hr (.inr (.inr rfl)) h
theorem rnum6_no (hr : RdB g a cap l p w) (h : rdN l p 6 = none) :
    Calls Try.prog 67 #[.pointer (some ⟨g, 0, none⟩), .int .i64 6] w fun e w' => e = .panicked [wrongP] ∧ w.grownBy w' (some g) := rnum_no hr (.inr (.inr rfl)) h
theorem rnum2_ok (hr : RdB g a cap l p w) (h : rdN l p 2 = some (n, p1)) :
    Calls Try.prog 67 #[.pointer (some ⟨g, 0, none⟩), .int .i64 2] w fun e w' => e = .returned (.int .i64 n) ∧ w'.heap[g]? = some (.cells #[.slice a l.length cap, .int .i64 p1] 120 (0, 0)) ∧ w.grownBy w' (some g) := rnum_ok hr (.inr (.inl rfl)) h
theorem rnum2_no (hr : RdB g a cap l p w) (h : rdN l p 2 = none) :
    Calls Try.prog 67 #[.pointer (some ⟨g, 0, none⟩), .int .i64 2] w fun e w' => e = .panicked [wrongP] ∧ w.grownBy w' (some g) := rnum_no hr (.inr (.inl rfl)) h
theorem rnum1_ok (hr : RdB g a cap l p w) (h : rdN l p 1 = some (n, p1)) :
    Calls Try.prog 67 #[.pointer (some ⟨g, 0, none⟩), .int .i64 1] w fun e w' => e = .returned (.int .i64 n) ∧ w'.heap[g]? = some (.cells #[.slice a l.length cap, .int .i64 p1] 120 (0, 0)) ∧ w.grownBy w' (some g) := rnum_ok hr (.inl rfl) h
theorem rnum1_no (hr : RdB g a cap l p w) (h : rdN l p 1 = none) :
    Calls Try.prog 67 #[.pointer (some ⟨g, 0, none⟩), .int .i64 1] w fun e w' => e = .panicked [wrongP] ∧ w.grownBy w' (some g) := rnum_no hr (.inl rfl) h
end

def ParseRes (base : Nat) (l : List UInt8) (e : Ending) (w' : World) : Prop :=
  match parseI l with
  | none => e = .returned (.tuple #[.agg (imA 0 (.slice none 0 0) zeroT), .int .i64 230])
  | some m => ∃ a' cap', e = .returned (.tuple #[.agg (imA m.idx (.slice a' m.st.length cap') m.tb), .int .i64 0]) ∧ w'.ownsRow base 74 2 (.slice a' m.st.length cap') m.st.length (prs m.st)

/-! The ways out. -/
theorem leave_bad (N : Nat) (l : List UInt8) (w0 w : World) (tmps : Array Value) (A : Array Value) (x : Value) (hp : parseI l = none) (B2 : w.heap[N]? = some (.cells A 49 (0, 0))) (hA : A.size = 18) (B3 : w.heap[N + 1]? = some (.cells #[x] 28 (0, 0))) (hb : Below N w0 w)
    (h2 : tmps.getD 2 undef = .pointer (some ⟨N, 0, none⟩)) (h3 : tmps.getD 3 undef = .pointer (some ⟨N + 1, 0, none⟩)) :
    Leaves Try.prog Try.f26 tmps (fun e w' => ParseRes N l e w' ∧ Below N w0 w') [({ target := .fn (.func 66) #[.pointer (some ⟨N, 0, none⟩), .pointer (some ⟨N + 1, 0, none⟩)], args := #[] } : Deferred)] (.panicking [wrongP]) w := by
  refine leaves_cons (f := 66) (args := #[.pointer (some ⟨N, 0, none⟩), .pointer (some ⟨N + 1, 0, none⟩)]) (by simp) (by simp [go_sem]) ?_
  refine (close_panics N A x w B2 hA B3).mono ?_
  rintro e u' w' ⟨rfl, rfl, C2, C3, hb'⟩
  refine ⟨_, results_c2 rfl h2 (run_loadVar_all Try.isAgg49 Try.sizeOf49 C2 rfl) h3 (load_errno C3), ?_⟩
  unfold ParseRes
  rw [hp]
  exact ⟨rfl, hb.trans hb'⟩
theorem leave_ok (N : Nat) (l : List UInt8) (w0 w : World) (tmps : Array Value) (m : Im) (a' : Option Addr) (cap' : Nat) (hp : parseI l = some m) (B2 : w.heap[N]? = some (.cells (imA m.idx (.slice a' m.st.length cap') m.tb) 49 (0, 0))) (B3 : w.heap[N + 1]? = some (.cells #[.int .i64 0] 28 (0, 0)))
    (ho : w.ownsRow N 74 2 (.slice a' m.st.length cap') m.st.length (prs m.st)) (hb : Below N w0 w) (h2 : tmps.getD 2 undef = .pointer (some ⟨N, 0, none⟩)) (h3 : tmps.getD 3 undef = .pointer (some ⟨N + 1, 0, none⟩)) :
    Leaves Try.prog Try.f26 tmps (fun e w' => ParseRes N l e w' ∧ Below N w0 w') [({ target := .fn (.func 66) #[.pointer (some ⟨N, 0, none⟩), .pointer (some ⟨N + 1, 0, none⟩)], args := #[] } : Deferred)] .returning w := by
  refine leaves_cons (f := 66) (args := #[.pointer (some ⟨N, 0, none⟩), .pointer (some ⟨N + 1, 0, none⟩)]) (by simp) (by simp [go_sem]) ?_
  refine (close_idle N w).mono ?_
  rintro e u' w' ⟨rfl, rfl, rfl⟩
  refine ⟨_, results_c2 rfl h2 (run_loadVar_all Try.isAgg49 Try.sizeOf49 B2 rfl) h3 (load_errno B3), ?_⟩
  unfold ParseRes
  rw [hp]
  exact ⟨⟨_, _, rfl, ho⟩, hb⟩

/-- The blocks that Parse holds: the image so far, no error, the reader. -/
structure PaB (N : Nat) (a : Option Addr) (cap : Nat) (l : List UInt8) (p : Nat) (i : Int) (a' : Option Addr) (cap' : Nat) (st : List Pr) (t : Tb) (w0 w : World) : Prop where
  im : w.heap[N]? = some (.cells (imA i (.slice a' st.length cap') t) 49 (0, 0))
  own : w.ownsRow (N + 3) 74 2 (.slice a' st.length cap') st.length (prs st)
  er : w.heap[N + 1]? = some (.cells #[.int .i64 0] 28 (0, 0))
  rd : w.heap[N + 2]? = some (.cells #[.slice a l.length cap, .int .i64 p] 120 (0, 0))
  le : p ≤ l.length
  bl : Below N w0 w
section
variable {N : Nat} {a : Option Addr} {cap : Nat} {l : List UInt8} {p p1 : Nat} {i j : Int} {a' : Option Addr} {cap' : Nat} {st : List Pr} {t u : Tb} {w0 w w' : World} {tmps : Array Value}
theorem PaB.size (h : PaB N a cap l p i a' cap' st t w0 w) : N + 3 ≤ w.heap.size := lt_blk h.rd
theorem PaB.rdB (h : PaB N a cap l p i a' cap' st t w0 w) (hs : Hid (∀ w', Below N w0 w' → SlB w' a cap l)) (hl : l.length ≤ 1000000) : RdB (N + 2) a cap l p w := ⟨h.rd, hs.out _ h.bl, h.le, hl⟩
theorem PaB.read (h : PaB N a cap l p i a' cap' st t w0 w) (B : w'.heap[N + 2]? = some (.cells #[.slice a l.length cap, .int .i64 p1] 120 (0, 0))) (hg : w.grownBy w' (some (N + 2))) (hp : p1 ≤ l.length) : PaB N a cap l p1 i a' cap' st t w0 w' :=
  ⟨tr_st hg h.im (by omega), owns_st h.own hg (by omega), tr_st hg h.er (by omega), B, hp, bl_st h.bl hg (by have := h.size; omega) (by omega)⟩
theorem PaB.turn (h : PaB N a cap l p i a' cap' st t w0 w) (B : w'.heap[N]? = some (.cells (imA j (.slice a' st.length cap') u) 49 (0, 0))) (hg : w.grownBy w' (some N)) : PaB N a cap l p j a' cap' st u w0 w' :=
  ⟨B, owns_st h.own hg (by omega), tr_st hg h.er (by omega), tr_st hg h.rd (by omega), h.le, bl_st h.bl hg (by have := h.size; omega) (by omega)⟩
theorem PaB.drew (h : PaB N a cap l p i a' cap' st t w0 w) : PaB N a cap l p i a' cap' st t w0 w.drew := ⟨h.im, h.own, h.er, h.rd, h.le, h.bl.drew⟩
theorem PaB.alloc (o : Obj) (h : PaB N a cap l p i a' cap' st t w0 w) : PaB N a cap l p i a' cap' st t w0 (w.alloc o) :=
  ⟨tr_al o h.im, owns_bl h.own (blw w o), tr_al o h.er, tr_al o h.rd, h.le, h.bl.trans ((blw w o).mono (by have := h.size; omega))⟩
theorem PaB.below (h : PaB N a cap l p i a' cap' st t w0 w) (hb : Below w.heap.size w w') : PaB N a cap l p i a' cap' st t w0 w' :=
  ⟨tr_bl hb h.im, owns_bl h.own hb, tr_bl hb h.er, tr_bl hb h.rd, h.le, h.bl.trans (hb.mono (by have := h.size; omega))⟩
theorem PaB.row (h : PaB N a cap l p i a' cap' st t w0 w) : Row w a' (prs st) := by
  obtain ⟨x, c, hv, hr, _⟩ := Row.of_owns h.own
  injection hv with h1
  rw [h1]
  exact hr
theorem PaB.bad0 (h : PaB N a cap l p i a' cap' st t w0 w) (hp : parseI l = none) (h2 : tmps.getD 2 undef = .pointer (some ⟨N, 0, none⟩)) (h3 : tmps.getD 3 undef = .pointer (some ⟨N + 1, 0, none⟩)) :
    Leaves Try.prog Try.f26 tmps (fun e w' => ParseRes N l e w' ∧ Below N w0 w') [({ target := .fn (.func 66) #[.pointer (some ⟨N, 0, none⟩), .pointer (some ⟨N + 1, 0, none⟩)], args := #[] } : Deferred)] (.panicking [wrongP]) w := leave_bad N l w0 w tmps _ _ hp h.im rfl h.er h.bl h2 h3
theorem PaB.bad (h : PaB N a cap l p i a' cap' st t w0 w) (hg : w.grownBy w' (some (N + 2))) (hp : parseI l = none) (h2 : tmps.getD 2 undef = .pointer (some ⟨N, 0, none⟩)) (h3 : tmps.getD 3 undef = .pointer (some ⟨N + 1, 0, none⟩)) :
    Leaves Try.prog Try.f26 tmps (fun e w' => ParseRes N l e w' ∧ Below N w0 w') [({ target := .fn (.func 66) #[.pointer (some ⟨N, 0, none⟩), .pointer (some ⟨N + 1, 0, none⟩)], args := #[] } : Deferred)] (.panicking [wrongP]) w' :=
  leave_bad N l w0 w' tmps _ _ hp (tr_st hg h.im (by omega)) rfl (tr_st hg h.er (by omega)) (bl_st h.bl hg (by have := h.size; omega) (by omega)) h2 h3
end

set_option maxRecDepth 100000 in
set_option maxHeartbeats 4000000 in
theorem parse_any (a : Option Addr) (cap : Nat) (l : List UInt8) (w : World) (hs : SlB w a cap l) (hl : l.length ≤ 1000000) :
    Calls Try.prog 26 #[.slice a l.length cap] w fun e w' => ParseRes w.heap.size l e w' ∧ Below w.heap.size w w' := by
  have hmf : ∀ (fn : Fn) (first cap : Array Value) (w : World), (Instr.makeFunc fn first cap).run Try.prog w = .ok (.func fn first cap) w := fun _ _ _ _ => rfl
  obtain ⟨N, hN⟩ : ∃ N, w.heap.size = N := ⟨_, rfl⟩
  have hb0 : Below w.heap.size w (((w.alloc (Obj.cells (imA 0 (.slice none 0 0) zeroT) 49)).alloc (Obj.cells #[.int .i64 0] 28)).alloc (Obj.cells #[.slice a l.length cap, .int .i64 0] 120)) := (((Below.refl _ _).alloc (Nat.le_refl _) _).alloc (by simp) _).alloc (by simp; omega) _
  have B2 := tr_al (Obj.cells #[.slice a l.length cap, .int .i64 0] 120) (tr_al (Obj.cells #[.int .i64 0] 28) (heap_alloc_new w (Obj.cells (imA 0 (.slice none 0 0) zeroT) 49)))
  have B3 := tr_al (Obj.cells #[.slice a l.length cap, .int .i64 0] 120) (heap_alloc2_new w (Obj.cells (imA 0 (.slice none 0 0) zeroT) 49) (Obj.cells #[.int .i64 0] 28))
  have B4 := heap_alloc2_new (w.alloc (Obj.cells (imA 0 (.slice none 0 0) zeroT) 49)) (Obj.cells #[.int .i64 0] 28) (Obj.cells #[.slice a l.length cap, .int .i64 0] 120)
  have HSL : Hid (∀ w', Below N w w' → SlB w' a cap l) := Lib.hid (fun w' h => hs.below (by rw [hN]; exact h))
  simp only [World.size_alloc] at B2 B3 B4
  have hpf := parse_fin l
  unfold rdAll at hpf
  have HPF := Lib.hid hpf
  clear hpf hs
  go_enter_defers Try.func26, Try.ntmps26
  refine wp_seq_k (fun K hK => ?_)
  have HK := Lib.hid hK
  clear hK
  go_wp2
  refine HK.out _ _ ?_
  clear HK
  refine wp_seq_k (fun K hK => ?_)
  have HK := Lib.hid hK
  clear hK
  go_wp2
  refine HK.out _ _ ?_
  clear HK
  refine wp_seq_k (fun K hK => ?_)
  have HK := Lib.hid hK
  clear hK
  go_wp2
  refine HK.out _ _ ?_
  clear HK
  change Code.wp _ _ _ _ (((w.alloc (Obj.cells (imA 0 (.slice none 0 0) zeroT) 49)).alloc (Obj.cells #[.int .i64 0] 28)).alloc (Obj.cells #[.slice a l.length cap, .int .i64 0] 120))
  generalize ((w.alloc (Obj.cells (imA 0 (.slice none 0 0) zeroT) 49)).alloc (Obj.cells #[.int .i64 0] 28)).alloc (Obj.cells #[.slice a l.length cap, .int .i64 0] 120) = w0 at *
  simp only [hN] at *
  have hpa : PaB N a cap l 0 0 none 0 [] zeroT w w0 := ⟨B2, World.ownsRow_nil _ _ _ _, B3, B4, Nat.zero_le _, hb0⟩
  clear B2 B3 B4 hb0 hN
  have HRN : ∀ {p i a' cap' st t w'}, PaB N a cap l p i a' cap' st t w w' → RdB (N + 2) a cap l p w' := fun h => h.rdB HSL hl
  cases h6 : rdN l 0 6 with
  | none =>
    have hp : parseI l = none := by rw [HPF.out, h6]; rfl
    have H6 := Lib.hid h6
    have HP := Lib.hid hp
    clear h6 hp HPF
    go_wp2_with (go_at_call 67; (with_reducible refine (rnum6_no (HRN hpa) H6.out).mono ?_); rintro en w1 ⟨rfl, hg1⟩)
    exact hpa.bad hg1 HP.out rfl rfl
  | some r6 =>
  obtain ⟨ix, p1⟩ := r6
  have hp1 := (rdN_spec h6).2.2.1
  have hpf := HPF.out
  rw [h6] at hpf
  simp only at hpf
  have H6 := Lib.hid h6
  have HPF := Lib.hid hpf
  clear h6 hpf
  refine wp_seq_k (fun K hK => ?_)
  have HK := Lib.hid hK
  clear hK
  go_wp2_with (first
      | (go_at_call 67; (with_reducible refine (rnum6_ok (HRN hpa) H6.out).mono ?_); rintro en w1 ⟨rfl, C1, hg1⟩; have hpa1 := hpa.read C1 hg1 hp1; have B1 := hpa1.im)
      | ((first | (with_reducible refine wpList_stB 3 _ _ ?_) | (with_reducible refine wp_stB 3 _ _ ?_)); refine ⟨_, _, _, ⟨_, _, _, Try.sizeOf3, rfl, ‹_›, imA_idx _ _ _ _⟩, ?_⟩; intro w2 C2 hg2; have hpa2 := hpa1.turn C2 hg2))
  refine HK.out _ _ ?_
  clear HK
  clear hpa hpa1 C1 hg1 C2 hg2 B1 H6
  cases h7 : rdN l p1 1 with
  | none =>
    have hp : parseI l = none := by rw [HPF.out, h7]; rfl
    have H6 := Lib.hid h7
    have HP := Lib.hid hp
    clear h7 hp HPF
    go_wp2_with (go_at_call 67; (with_reducible refine (rnum1_no (HRN hpa2) H6.out).mono ?_); rintro en w3 ⟨rfl, hg3⟩)
    exact hpa2.bad hg3 HP.out rfl rfl
  | some r7 =>
  obtain ⟨n, p2⟩ := r7
  have hp2 := (rdN_spec h7).2.2.1
  have hn := (rdN_spec h7).2.2.2
  have hpf := HPF.out
  rw [h7] at hpf
  simp only at hpf
  have H6 := Lib.hid h7
  have HPF := Lib.hid hpf
  clear h7 hpf
  refine wp_seq_k (fun K hK => ?_)
  go_cut [5] from 15 to 31 (fun _ wx => ∃ p st a' cap', PaB N a cap l p ix a' cap' st zeroT w wx ∧ st.length ≤ 255 ∧ parseI l = fin l (rdRest l ix 0 p st))
  case first =>
    go_wp2_with (go_at_call 67; (with_reducible refine (rnum1_ok (HRN hpa2) H6.out).mono ?_); rintro en w3 ⟨rfl, C3, hg3⟩; have hpa3 := hpa2.read C3 hg3 hp2)
    clear hpa2 C3 hg3 H6
    go_loopw [17, 5] (fun k _ wr => ∃ q p st a' cap', q ≤ n ∧ st.length = q ∧ k = .int .i64 (q : Nat) ∧ PaB N a cap l p ix a' cap' st zeroT w wr ∧ Hid (parseI l = fin l (rdRest l ix (n - q) p st))) (fun k _ _ => n - (intOf k).toNat)
    case atStart => exact ⟨0, p2, [], none, 0, by omega, rfl, rfl, hpa3, HPF⟩
    case round =>
      obtain ⟨q, p, st, a', cap', hq, hsl, rfl, hpa, HPF⟩ := hrel
      have HSQ := Lib.hid hsl
      clear hsl
      by_cases hlt : q < n
      · obtain ⟨m, hm⟩ : ∃ m, n - q = m + 1 := ⟨n - q - 1, by omega⟩
        have hpf := HPF.out
        rw [hm] at hpf
        clear HPF
        cases hk1 : rdT l p with
        | none =>
          have hp : parseI l = none := by rw [hpf, rest_no1 hk1]; rfl
          have H6 := Lib.hid hk1
          have HP := Lib.hid hp
          clear hk1 hp hpf hm
          go_wp2_with (go_at_call 68; (with_reducible refine (rtxt_no (HRN hpa) H6.out).mono ?_); rintro en w4 ⟨rfl, hg4⟩)
          exact hpa.bad hg4 HP.out rfl rfl
        | some r8 =>
        obtain ⟨ke, p3⟩ := r8
        have hp3 := (rdT_spec hk1).2.2.1
        have H6 := Lib.hid hk1
        have HM := Lib.hid hm
        cases hv1 : rdT l p3 with
        | none =>
          have hp : parseI l = none := by rw [hpf, rest_no2 hk1 hv1]; rfl
          have H7 := Lib.hid hv1
          have HP := Lib.hid hp
          clear hk1 hp hpf hm hv1
          go_wp2_with (go_at_call 68; (with_reducible refine (rtxt_ok (HRN hpa) H6.out).mono ?_); rintro en w4 ⟨rfl, C4, hg4⟩; have hpa4 := hpa.read C4 hg4 hp3)
          clear hpa C4 hg4
          refine wp_region_held_drew (S := fun _ => True) (by kernel_rfl) trivial (fun _ => ?_)
          have hpaD := hpa4.drew
          clear hpa4
          refine wpAnyH_take (i := 0) (oi := ⟨_, _, _, _, _, _⟩) (v := ?_) rfl (by kernel_rfl) (by kernel_rfl) (by kernel_rfl) (fun _ _ _ h => putQ rfl (by decide) (by decide) h) (Or.inl ⟨by rfl, ?_⟩) (by assumption) ?_
          rotate_left
          · intro wS hSw
            go_simp; (try with_reducible rfl)
          (try simp only [Act.put])
          (try simp only [List.setIfInBounds_toArray])
          (try simp only [List.set_cons_succ])
          (try simp only [List.set_cons_zero])
          refine wpAnyH_take (i := 2) (oi := ⟨_, _, _, _, _, _⟩) (v := ?_) rfl (by kernel_rfl) (by kernel_rfl) (by kernel_rfl) (fun _ _ _ h => putQ rfl (by decide) (by decide) h) (Or.inl ⟨by rfl, ?_⟩) (by assumption) ?_
          rotate_left
          · intro wS hSw
            go_simp; (try with_reducible rfl)
          (try simp only [Act.put])
          (try simp only [List.setIfInBounds_toArray])
          (try simp only [List.set_cons_succ])
          (try simp only [List.set_cons_zero])
          refine wpAnyH_take (i := 3) (oi := ⟨_, _, _, _, _, _⟩) (v := ?_) rfl (by kernel_rfl) (by kernel_rfl) (by kernel_rfl) (fun _ _ _ h => putQ rfl (by decide) (by decide) h) (Or.inl ⟨by rfl, ?_⟩) (by assumption) ?_
          rotate_left
          · intro wS hSw
            go_simp; (try with_reducible rfl)
          (try simp only [Act.put])
          (try simp only [List.setIfInBounds_toArray])
          (try simp only [List.set_cons_succ])
          (try simp only [List.set_cons_zero])
          refine wpAnyH_ready (rs := [1, 4]) (by kernel_rfl) (by simp) ?_
          refine AllReadyH.cons (o := ⟨_, _, _, _, _, _⟩) rfl (fun K' hK' => ?_) (AllReadyH.cons (o := ⟨_, _, _, _, _, _⟩) rfl (fun K' hK' => ?_) (AllReadyH.nil))
          · refine (if_pos (by rfl)).mpr ?_
            have c := imA_c1 hpaD.im
            go_simp
            clear c
            refine hK'.out _ _ trivial (fun _ => ?_)
            refine wpAnyH_ready (rs := [4]) (by kernel_rfl) (by simp) ?_
            refine AllReadyH.cons (o := ⟨_, _, _, _, _, _⟩) rfl (fun K' hK' => ?_) (AllReadyH.nil)
            · refine (if_pos (by rfl)).mpr ?_
              go_simp
              refine (rtxt_no (HRN hpaD) H7.out).mono ?_
              rintro en w5 ⟨rfl, hg5⟩
              exact hpaD.bad hg5 HP.out rfl rfl
          · refine (if_pos (by rfl)).mpr ?_
            go_simp
            refine (rtxt_no (HRN hpaD) H7.out).mono ?_
            rintro en w5 ⟨rfl, hg5⟩
            exact hpaD.bad hg5 HP.out rfl rfl
        | some r9 =>
        obtain ⟨va, p4⟩ := r9
        have hp4 := (rdT_spec hv1).2.2.1
        rw [rest_ok hk1 hv1] at hpf
        have H7 := Lib.hid hv1
        have HPF := Lib.hid hpf
        clear hk1 hpf hm hv1
        go_wp2_with (go_at_call 68; (with_reducible refine (rtxt_ok (HRN hpa) H6.out).mono ?_); rintro en w4 ⟨rfl, C4, hg4⟩; have hpa4 := hpa.read C4 hg4 hp3)
        clear hpa C4 hg4
        refine wp_region_held_drew (S := fun _ => True) (by kernel_rfl) trivial (fun _ => ?_)
        have hpaD := hpa4.drew
        clear hpa4
        refine wpAnyH_take (i := 0) (oi := ⟨_, _, _, _, _, _⟩) (v := ?_) rfl (by kernel_rfl) (by kernel_rfl) (by kernel_rfl) (fun _ _ _ h => putQ rfl (by decide) (by decide) h) (Or.inl ⟨by rfl, ?_⟩) (by assumption) ?_
        rotate_left
        · intro wS hSw
          go_simp; (try with_reducible rfl)
        (try simp only [Act.put])
        (try simp only [List.setIfInBounds_toArray])
        (try simp only [List.set_cons_succ])
        (try simp only [List.set_cons_zero])
        refine wpAnyH_take (i := 2) (oi := ⟨_, _, _, _, _, _⟩) (v := ?_) rfl (by kernel_rfl) (by kernel_rfl) (by kernel_rfl) (fun _ _ _ h => putQ rfl (by decide) (by decide) h) (Or.inl ⟨by rfl, ?_⟩) (by assumption) ?_
        rotate_left
        · intro wS hSw
          go_simp; (try with_reducible rfl)
        (try simp only [Act.put])
        (try simp only [List.setIfInBounds_toArray])
        (try simp only [List.set_cons_succ])
        (try simp only [List.set_cons_zero])
        refine wpAnyH_take (i := 3) (oi := ⟨_, _, _, _, _, _⟩) (v := ?_) rfl (by kernel_rfl) (by kernel_rfl) (by kernel_rfl) (fun _ _ _ h => putQ rfl (by decide) (by decide) h) (Or.inl ⟨by rfl, ?_⟩) (by assumption) ?_
        rotate_left
        · intro wS hSw
          go_simp; (try with_reducible rfl)
        (try simp only [Act.put])
        (try simp only [List.setIfInBounds_toArray])
        (try simp only [List.set_cons_succ])
        (try simp only [List.set_cons_zero])
        refine wpAnyH_ready (rs := [1, 4]) (by kernel_rfl) (by simp) ?_
        refine AllReadyH.cons (o := ⟨_, _, _, _, _, _⟩) rfl (fun K' hK' => ?_) (AllReadyH.cons (o := ⟨_, _, _, _, _, _⟩) rfl (fun K' hK' => ?_) (AllReadyH.nil))
        · refine (if_pos (by rfl)).mpr ?_
          have c := imA_c1 hpaD.im
          go_simp
          clear c
          refine hK'.out _ _ trivial (fun _ => ?_)
          refine wpAnyH_ready (rs := [4]) (by kernel_rfl) (by simp) ?_
          refine AllReadyH.cons (o := ⟨_, _, _, _, _, _⟩) rfl (fun K' hK' => ?_) (AllReadyH.nil)
          · refine (if_pos (by rfl)).mpr ?_
            go_simp
            refine (rtxt_ok (HRN hpaD) H7.out).mono ?_
            rintro en w5 ⟨rfl, C5, hg5⟩
            have hpa5 := hpaD.read C5 hg5 hp4
            clear C5 hg5
            refine hK'.out _ _ trivial (fun _ => ?_)
            refine wpAnyH_take (i := 5) (oi := ⟨_, _, _, _, _, _⟩) (v := ?_) rfl (by kernel_rfl) (by kernel_rfl) (by kernel_rfl) (fun _ _ _ h => putQ rfl (by decide) (by decide) h) (Or.inl ⟨by rfl, ?_⟩) (by assumption) ?_
            rotate_left
            · intro wS hSw
              go_simp; (try with_reducible rfl)
            (try simp only [Act.put])
            (try simp only [List.setIfInBounds_toArray])
            (try simp only [List.set_cons_succ])
            (try simp only [List.set_cons_zero])
            refine wpAnyH_ready (rs := [6]) (by kernel_rfl) (by simp) ?_
            refine AllReadyH.cons (o := ⟨_, _, _, _, _, _⟩) rfl (fun K' hK' => ?_) (AllReadyH.nil)
            · refine (if_pos (by rfl)).mpr ?_
              go_simp
              change K' _ (World.alloc _ (Obj.cells #[.string ke, .string va] 74))
              have hpa6 := hpa5.alloc (Obj.cells #[.string ke, .string va] 74)
              have Bn := heap_alloc_new w5 (Obj.cells #[.string ke, .string va] 74)
              obtain ⟨M, hM⟩ : ∃ M, w5.heap.size = M := ⟨_, rfl⟩
              refine hK'.out _ _ trivial (fun _ => ?_)
              rw [hM] at Bn
              simp only [hM]
              clear hM
              generalize w5.alloc (Obj.cells #[.string ke, .string va] 74) = w6 at *
              refine wpAnyH_ready (rs := [7]) (by kernel_rfl) (by simp) ?_
              refine AllReadyH.cons (o := ⟨_, _, _, _, _, _⟩) rfl (fun K' hK' => ?_) (AllReadyH.nil)
              · refine (if_pos (by rfl)).mpr ?_
                refine wp_appN _ _ 41 41 74 74 elPair Try.underlying41 rfl (N + 3) _ _ _ rfl hpa6.own ⟨M, 0, none⟩ 1 1 [.string ke, .string va] rfl rfl (fun j u hu => ?_) (by simp [Value.oneCell']) (by have := HSQ.out; omega) (by omega) (Nat.le_trans (Nat.le_refl _) hpa6.size) ?_
                · rw [addr_add]
                  exact blk_cell Bn _ u (by rw [Nat.zero_add]; simpa using hu)
                intro v7 w7 ho7 hg7
                have hne7 : Value.ownBlock (.slice a' st.length cap') ≠ some N := fun e => by have := (hpa6.own.lt N e).1; omega
                have hne8 : Value.ownBlock (.slice a' st.length cap') ≠ some (N + 1) := fun e => by have := (hpa6.own.lt (N + 1) e).1; omega
                have hne9 : Value.ownBlock (.slice a' st.length cap') ≠ some (N + 2) := fun e => by have := (hpa6.own.lt (N + 2) e).1; omega
                have B7 := tr_gb hg7 hpa6.im hne7
                have E7 := tr_gb hg7 hpa6.er hne8
                have R7 := tr_gb hg7 hpa6.rd hne9
                have hbl7 : Below N w w7 := hpa6.bl.grown hg7 (by have := hpa6.size; omega) (fun k e => by have := (hpa6.own.lt k e).1; omega)
                obtain ⟨a7, cap7, rfl, _⟩ := Row.of_owns ho7
                have hz7 := lt_blk R7
                clear hne7 hne8 hne9 Bn hpa6 hg7
                refine hK'.out _ _ trivial (fun _ => ?_)
                refine wpAnyH_take (i := 8) (oi := ⟨_, _, _, _, _, _⟩) (v := ?_) rfl (by kernel_rfl) (by kernel_rfl) (by kernel_rfl) (fun _ _ _ h => putQ rfl (by decide) (by decide) h) (Or.inl ⟨by rfl, ?_⟩) (by assumption) ?_
                rotate_left
                · intro wS hSw
                  go_simp; (try with_reducible rfl)
                (try simp only [Act.put])
                (try simp only [List.setIfInBounds_toArray])
                (try simp only [List.set_cons_succ])
                (try simp only [List.set_cons_zero])
                refine wpAnyH_ready (rs := [9]) (by kernel_rfl) (by simp) ?_
                refine AllReadyH.cons (o := ⟨_, _, _, _, _, _⟩) rfl (fun K' hK' => ?_) (AllReadyH.nil)
                · refine (if_pos (by rfl)).mpr ?_
                  refine wp_stB 41 _ _ ?_
                  refine ⟨_, _, _, ⟨_, _, _, Try.sizeOf41, rfl, B7, imA_sv _ _ _ _ _ _⟩, ?_⟩
                  intro w8 B8 hg8
                  have hlen : st.length + 1 = (st ++ [(ke, va)]).length := by simp
                  have hpa8 : PaB N a cap l p4 ix a7 cap7 (st ++ [(ke, va)]) zeroT w w8 :=
                    ⟨by rw [← hlen]; exact B8, by rw [← hlen, prs_app]; exact owns_st ho7 hg8 (by omega), tr_st hg8 E7 (by omega), tr_st hg8 R7 (by omega), hp4, bl_st hbl7 hg8 (by omega) (by omega)⟩
                  refine hK'.out _ _ trivial (fun _ => ?_)
                  refine wpAnyH_done (by kernel_rfl) ?_ _
                  clear hK' B8 hg8 ho7 B7 E7 R7
                  (try simp only [List.set_cons_succ, List.set_cons_zero])
                  go_wp2
                  go_roundw
                  case rel =>
                    have hm := HM.out
                    refine ⟨q + 1, p4, st ++ [(ke, va)], a7, cap7, by omega, by rw [← hlen, HSQ.out], by go_num, hpa8, ?_⟩
                    rw [show n - (q + 1) = m from by omega]
                    exact HPF
                  case measure => simp [intOf]; omega
        · refine (if_pos (by rfl)).mpr ?_
          go_simp
          refine (rtxt_ok (HRN hpaD) H7.out).mono ?_
          rintro en w5 ⟨rfl, C5, hg5⟩
          have hpa5 := hpaD.read C5 hg5 hp4
          clear C5 hg5
          refine hK'.out _ _ trivial (fun _ => ?_)
          refine wpAnyH_take (i := 5) (oi := ⟨_, _, _, _, _, _⟩) (v := ?_) rfl (by kernel_rfl) (by kernel_rfl) (by kernel_rfl) (fun _ _ _ h => putQ rfl (by decide) (by decide) h) (Or.inl ⟨by rfl, ?_⟩) (by assumption) ?_
          rotate_left
          · intro wS hSw
            go_simp; (try with_reducible rfl)
          (try simp only [Act.put])
          (try simp only [List.setIfInBounds_toArray])
          (try simp only [List.set_cons_succ])
          (try simp only [List.set_cons_zero])
          refine wpAnyH_ready (rs := [1, 6]) (by kernel_rfl) (by simp) ?_
          refine AllReadyH.cons (o := ⟨_, _, _, _, _, _⟩) rfl (fun K' hK' => ?_) (AllReadyH.cons (o := ⟨_, _, _, _, _, _⟩) rfl (fun K' hK' => ?_) (AllReadyH.nil))
          · refine (if_pos (by rfl)).mpr ?_
            have c := imA_c1 hpa5.im
            go_simp
            clear c
            refine hK'.out _ _ trivial (fun _ => ?_)
            refine wpAnyH_ready (rs := [6]) (by kernel_rfl) (by simp) ?_
            refine AllReadyH.cons (o := ⟨_, _, _, _, _, _⟩) rfl (fun K' hK' => ?_) (AllReadyH.nil)
            · refine (if_pos (by rfl)).mpr ?_
              go_simp
              change K' _ (World.alloc _ (Obj.cells #[.string ke, .string va] 74))
              have hpa6 := hpa5.alloc (Obj.cells #[.string ke, .string va] 74)
              have Bn := heap_alloc_new w5 (Obj.cells #[.string ke, .string va] 74)
              obtain ⟨M, hM⟩ : ∃ M, w5.heap.size = M := ⟨_, rfl⟩
              refine hK'.out _ _ trivial (fun _ => ?_)
              rw [hM] at Bn
              simp only [hM]
              clear hM
              generalize w5.alloc (Obj.cells #[.string ke, .string va] 74) = w6 at *
              refine wpAnyH_ready (rs := [7]) (by kernel_rfl) (by simp) ?_
              refine AllReadyH.cons (o := ⟨_, _, _, _, _, _⟩) rfl (fun K' hK' => ?_) (AllReadyH.nil)
              · refine (if_pos (by rfl)).mpr ?_
                refine wp_appN _ _ 41 41 74 74 elPair Try.underlying41 rfl (N + 3) _ _ _ rfl hpa6.own ⟨M, 0, none⟩ 1 1 [.string ke, .string va] rfl rfl (fun j u hu => ?_) (by simp [Value.oneCell']) (by have := HSQ.out; omega) (by omega) (Nat.le_trans (Nat.le_refl _) hpa6.size) ?_
                · rw [addr_add]
                  exact blk_cell Bn _ u (by rw [Nat.zero_add]; simpa using hu)
                intro v7 w7 ho7 hg7
                have hne7 : Value.ownBlock (.slice a' st.length cap') ≠ some N := fun e => by have := (hpa6.own.lt N e).1; omega
                have hne8 : Value.ownBlock (.slice a' st.length cap') ≠ some (N + 1) := fun e => by have := (hpa6.own.lt (N + 1) e).1; omega
                have hne9 : Value.ownBlock (.slice a' st.length cap') ≠ some (N + 2) := fun e => by have := (hpa6.own.lt (N + 2) e).1; omega
                have B7 := tr_gb hg7 hpa6.im hne7
                have E7 := tr_gb hg7 hpa6.er hne8
                have R7 := tr_gb hg7 hpa6.rd hne9
                have hbl7 : Below N w w7 := hpa6.bl.grown hg7 (by have := hpa6.size; omega) (fun k e => by have := (hpa6.own.lt k e).1; omega)
                obtain ⟨a7, cap7, rfl, _⟩ := Row.of_owns ho7
                have hz7 := lt_blk R7
                clear hne7 hne8 hne9 Bn hpa6 hg7
                refine hK'.out _ _ trivial (fun _ => ?_)
                refine wpAnyH_take (i := 8) (oi := ⟨_, _, _, _, _, _⟩) (v := ?_) rfl (by kernel_rfl) (by kernel_rfl) (by kernel_rfl) (fun _ _ _ h => putQ rfl (by decide) (by decide) h) (Or.inl ⟨by rfl, ?_⟩) (by assumption) ?_
                rotate_left
                · intro wS hSw
                  go_simp; (try with_reducible rfl)
                (try simp only [Act.put])
                (try simp only [List.setIfInBounds_toArray])
                (try simp only [List.set_cons_succ])
                (try simp only [List.set_cons_zero])
                refine wpAnyH_ready (rs := [9]) (by kernel_rfl) (by simp) ?_
                refine AllReadyH.cons (o := ⟨_, _, _, _, _, _⟩) rfl (fun K' hK' => ?_) (AllReadyH.nil)
                · refine (if_pos (by rfl)).mpr ?_
                  refine wp_stB 41 _ _ ?_
                  refine ⟨_, _, _, ⟨_, _, _, Try.sizeOf41, rfl, B7, imA_sv _ _ _ _ _ _⟩, ?_⟩
                  intro w8 B8 hg8
                  have hlen : st.length + 1 = (st ++ [(ke, va)]).length := by simp
                  have hpa8 : PaB N a cap l p4 ix a7 cap7 (st ++ [(ke, va)]) zeroT w w8 :=
                    ⟨by rw [← hlen]; exact B8, by rw [← hlen, prs_app]; exact owns_st ho7 hg8 (by omega), tr_st hg8 E7 (by omega), tr_st hg8 R7 (by omega), hp4, bl_st hbl7 hg8 (by omega) (by omega)⟩
                  refine hK'.out _ _ trivial (fun _ => ?_)
                  refine wpAnyH_done (by kernel_rfl) ?_ _
                  clear hK' B8 hg8 ho7 B7 E7 R7
                  (try simp only [List.set_cons_succ, List.set_cons_zero])
                  go_wp2
                  go_roundw
                  case rel =>
                    have hm := HM.out
                    refine ⟨q + 1, p4, st ++ [(ke, va)], a7, cap7, by omega, by rw [← hlen, HSQ.out], by go_num, hpa8, ?_⟩
                    rw [show n - (q + 1) = m from by omega]
                    exact HPF
                  case measure => simp [intOf]; omega
          · refine (if_pos (by rfl)).mpr ?_
            go_simp
            change K' _ (World.alloc _ (Obj.cells #[.string ke, .string va] 74))
            have hpa6 := hpa5.alloc (Obj.cells #[.string ke, .string va] 74)
            have Bn := heap_alloc_new w5 (Obj.cells #[.string ke, .string va] 74)
            obtain ⟨M, hM⟩ : ∃ M, w5.heap.size = M := ⟨_, rfl⟩
            refine hK'.out _ _ trivial (fun _ => ?_)
            rw [hM] at Bn
            simp only [hM]
            clear hM
            generalize w5.alloc (Obj.cells #[.string ke, .string va] 74) = w6 at *
            refine wpAnyH_ready (rs := [1]) (by kernel_rfl) (by simp) ?_
            refine AllReadyH.cons (o := ⟨_, _, _, _, _, _⟩) rfl (fun K' hK' => ?_) (AllReadyH.nil)
            · refine (if_pos (by rfl)).mpr ?_
              have c := imA_c1 hpa6.im
              go_simp
              clear c
              refine hK'.out _ _ trivial (fun _ => ?_)
              refine wpAnyH_ready (rs := [7]) (by kernel_rfl) (by simp) ?_
              refine AllReadyH.cons (o := ⟨_, _, _, _, _, _⟩) rfl (fun K' hK' => ?_) (AllReadyH.nil)
              · refine (if_pos (by rfl)).mpr ?_
                refine wp_appN _ _ 41 41 74 74 elPair Try.underlying41 rfl (N + 3) _ _ _ rfl hpa6.own ⟨M, 0, none⟩ 1 1 [.string ke, .string va] rfl rfl (fun j u hu => ?_) (by simp [Value.oneCell']) (by have := HSQ.out; omega) (by omega) (Nat.le_trans (Nat.le_refl _) hpa6.size) ?_
                · rw [addr_add]
                  exact blk_cell Bn _ u (by rw [Nat.zero_add]; simpa using hu)
                intro v7 w7 ho7 hg7
                have hne7 : Value.ownBlock (.slice a' st.length cap') ≠ some N := fun e => by have := (hpa6.own.lt N e).1; omega
                have hne8 : Value.ownBlock (.slice a' st.length cap') ≠ some (N + 1) := fun e => by have := (hpa6.own.lt (N + 1) e).1; omega
                have hne9 : Value.ownBlock (.slice a' st.length cap') ≠ some (N + 2) := fun e => by have := (hpa6.own.lt (N + 2) e).1; omega
                have B7 := tr_gb hg7 hpa6.im hne7
                have E7 := tr_gb hg7 hpa6.er hne8
                have R7 := tr_gb hg7 hpa6.rd hne9
                have hbl7 : Below N w w7 := hpa6.bl.grown hg7 (by have := hpa6.size; omega) (fun k e => by have := (hpa6.own.lt k e).1; omega)
                obtain ⟨a7, cap7, rfl, _⟩ := Row.of_owns ho7
                have hz7 := lt_blk R7
                clear hne7 hne8 hne9 Bn hpa6 hg7
                refine hK'.out _ _ trivial (fun _ => ?_)
                refine wpAnyH_take (i := 8) (oi := ⟨_, _, _, _, _, _⟩) (v := ?_) rfl (by kernel_rfl) (by kernel_rfl) (by kernel_rfl) (fun _ _ _ h => putQ rfl (by decide) (by decide) h) (Or.inl ⟨by rfl, ?_⟩) (by assumption) ?_
                rotate_left
                · intro wS hSw
                  go_simp; (try with_reducible rfl)
                (try simp only [Act.put])
                (try simp only [List.setIfInBounds_toArray])
                (try simp only [List.set_cons_succ])
                (try simp only [List.set_cons_zero])
                refine wpAnyH_ready (rs := [9]) (by kernel_rfl) (by simp) ?_
                refine AllReadyH.cons (o := ⟨_, _, _, _, _, _⟩) rfl (fun K' hK' => ?_) (AllReadyH.nil)
                · refine (if_pos (by rfl)).mpr ?_
                  refine wp_stB 41 _ _ ?_
                  refine ⟨_, _, _, ⟨_, _, _, Try.sizeOf41, rfl, B7, imA_sv _ _ _ _ _ _⟩, ?_⟩
                  intro w8 B8 hg8
                  have hlen : st.length + 1 = (st ++ [(ke, va)]).length := by simp
                  have hpa8 : PaB N a cap l p4 ix a7 cap7 (st ++ [(ke, va)]) zeroT w w8 :=
                    ⟨by rw [← hlen]; exact B8, by rw [← hlen, prs_app]; exact owns_st ho7 hg8 (by omega), tr_st hg8 E7 (by omega), tr_st hg8 R7 (by omega), hp4, bl_st hbl7 hg8 (by omega) (by omega)⟩
                  refine hK'.out _ _ trivial (fun _ => ?_)
                  refine wpAnyH_done (by kernel_rfl) ?_ _
                  clear hK' B8 hg8 ho7 B7 E7 R7
                  (try simp only [List.set_cons_succ, List.set_cons_zero])
                  go_wp2
                  go_roundw
                  case rel =>
                    have hm := HM.out
                    refine ⟨q + 1, p4, st ++ [(ke, va)], a7, cap7, by omega, by rw [← hlen, HSQ.out], by go_num, hpa8, ?_⟩
                    rw [show n - (q + 1) = m from by omega]
                    exact HPF
                  case measure => simp [intOf]; omega
      · go_wp2
        go_meet
        obtain rfl : q = n := by omega
        refine ⟨p, st, a', cap', hpa, by have := HSQ.out; omega, ?_⟩
        have := HPF.out
        rwa [Nat.sub_self] at this
  obtain ⟨p, st, a', cap', hpa, hsl, hpf⟩ := hcut
  refine hK _ _ ?_; clear hK
  rw [rest_zero] at hpf
  have HPF := Lib.hid hpf
  clear hpf hpa2 H6 hp1 hp2 hn
  refine wp_seq_k (fun K hK => ?_)
  go_cut [6, 7] from 31 to 61 (fun _ _ wx => ∃ p rs, PaB N a cap l p ix a' cap' st (tbOf rs) w wx ∧ parseI l = fin l (rdTail l ix st 0 p rs))
  case first =>
    go_wp2_with fail
    go_loopw [31, 6, 7] (fun k _ _ wr => ∃ q p rs, q ≤ 4 ∧ Hid (rs.length = q) ∧ k = .int .i64 (q : Nat) ∧ PaB N a cap l p ix a' cap' st (tbOf rs) w wr ∧ Hid (parseI l = fin l (rdTail l ix st (4 - q) p rs))) (fun k _ _ _ => 4 - (intOf k).toNat)
    case atStart => exact ⟨0, p, [], by omega, Lib.hid rfl, rfl, hpa, HPF⟩
    case round =>
      obtain ⟨q, p, rs, hq, HSQ, rfl, hpa, HPF⟩ := hrel
      by_cases hlt : q < 4
      · obtain ⟨m, hm⟩ : ∃ m, 4 - q = m + 1 := ⟨4 - q - 1, by omega⟩
        have hpf := HPF.out
        rw [hm] at hpf
        have HM := Lib.hid hm
        clear HPF hm
        have HT : Hid (∀ r, (tbOf rs).put q r = tbOf (rs ++ [r])) := Lib.hid (fun r => (tbOf_snoc HSQ.out hlt r).symm)
        generalize tbOf rs = t at *
        cases r1 : rdN l p 6 with
        | none =>
          have HP := Lib.hid (show parseI l = none from by rw [hpf, tail_no (by unfold rdRow; rw [r1])]; rfl)
          have H1 := Lib.hid r1
          clear r1 hpf
          go_wp2_with (first
            | (go_at_call 67; (with_reducible refine (rnum6_no (HRN hpa) H1.out).mono ?_); rintro en wb ⟨rfl, hgb⟩))
          exact hpa.bad hgb HP.out rfl rfl
        | some x1 =>
        obtain ⟨s, q1⟩ := x1
        have hq1 := (rdN_spec r1).2.2.1
        have H1 := Lib.hid r1
        cases r2 : rdN l q1 2 with
        | none =>
          have HP := Lib.hid (show parseI l = none from by rw [hpf, tail_no (by unfold rdRow; rw [r1]; simp only; rw [r2])]; rfl)
          have H2 := Lib.hid r2
          clear r1 r2 hpf
          go_wp2_with (first
            | (go_at_call 67; (with_reducible refine (rnum6_ok (HRN hpa) H1.out).mono ?_); rintro en w5 ⟨rfl, C5, hg5⟩; have hpa5 := hpa.read C5 hg5 hq1; have B5 := hpa5.im)
            | ((first | (with_reducible refine wpList_stB 3 _ _ ?_) | (with_reducible refine wp_stB 3 _ _ ?_)); refine ⟨_, _, _, ⟨_, _, _, Try.sizeOf3, rfl, ‹_›, fld_seq _ _ _ _ hlt⟩, ?_⟩; intro w6 C6 hg6; have hpa6 := hpa5.turn C6 hg6)
            | (go_at_call 67; (with_reducible refine (rnum2_no (HRN hpa6) H2.out).mono ?_); rintro en wb ⟨rfl, hgb⟩))
          exact hpa6.bad hgb HP.out rfl rfl
        | some x2 =>
        obtain ⟨ev, q2⟩ := x2
        have hq2 := (rdN_spec r2).2.2.1
        have H2 := Lib.hid r2
        cases r3 : rdF l q2 with
        | none =>
          have HP := Lib.hid (show parseI l = none from by rw [hpf, tail_no (by unfold rdRow; rw [r1]; simp only; rw [r2]; simp only; rw [r3])]; rfl)
          have H3 := Lib.hid r3
          clear r1 r2 r3 hpf
          go_wp2_with (first
            | (go_at_call 67; (with_reducible refine (rnum6_ok (HRN hpa) H1.out).mono ?_); rintro en w5 ⟨rfl, C5, hg5⟩; have hpa5 := hpa.read C5 hg5 hq1; have B5 := hpa5.im)
            | ((first | (with_reducible refine wpList_stB 3 _ _ ?_) | (with_reducible refine wp_stB 3 _ _ ?_)); refine ⟨_, _, _, ⟨_, _, _, Try.sizeOf3, rfl, ‹_›, fld_seq _ _ _ _ hlt⟩, ?_⟩; intro w6 C6 hg6; have hpa6 := hpa5.turn C6 hg6)
            | (go_at_call 67; (with_reducible refine (rnum2_ok (HRN hpa6) H2.out).mono ?_); rintro en w7 ⟨rfl, C7, hg7⟩; have hpa7 := hpa6.read C7 hg7 hq2; have B7 := hpa7.im)
            | ((first | (with_reducible refine wpList_stB 28 _ _ ?_) | (with_reducible refine wp_stB 28 _ _ ?_)); refine ⟨_, _, _, ⟨_, _, _, Try.sizeOf28, rfl, ‹_›, fld_err _ _ _ _ hlt⟩, ?_⟩; intro w8 C8 hg8; have hpa8 := hpa7.turn C8 hg8)
            | (go_at_call 69; (with_reducible refine (rflg_no (HRN hpa8) H3.out).mono ?_); rintro en wb ⟨rfl, hgb⟩))
          exact hpa8.bad hgb HP.out rfl rfl
        | some x3 =>
        obtain ⟨fo, q3⟩ := x3
        have hq3 := (rdF_spec r3).2.2
        have H3 := Lib.hid r3
        cases r4 : rdT l q3 with
        | none =>
          have HP := Lib.hid (show parseI l = none from by rw [hpf, tail_no (by unfold rdRow; rw [r1]; simp only; rw [r2]; simp only; rw [r3]; simp only; rw [r4])]; rfl)
          have H4 := Lib.hid r4
          clear r1 r2 r3 r4 hpf
          go_wp2_with (first
            | (go_at_call 67; (with_reducible refine (rnum6_ok (HRN hpa) H1.out).mono ?_); rintro en w5 ⟨rfl, C5, hg5⟩; have hpa5 := hpa.read C5 hg5 hq1; have B5 := hpa5.im)
            | ((first | (with_reducible refine wpList_stB 3 _ _ ?_) | (with_reducible refine wp_stB 3 _ _ ?_)); refine ⟨_, _, _, ⟨_, _, _, Try.sizeOf3, rfl, ‹_›, fld_seq _ _ _ _ hlt⟩, ?_⟩; intro w6 C6 hg6; have hpa6 := hpa5.turn C6 hg6)
            | (go_at_call 67; (with_reducible refine (rnum2_ok (HRN hpa6) H2.out).mono ?_); rintro en w7 ⟨rfl, C7, hg7⟩; have hpa7 := hpa6.read C7 hg7 hq2; have B7 := hpa7.im)
            | ((first | (with_reducible refine wpList_stB 28 _ _ ?_) | (with_reducible refine wp_stB 28 _ _ ?_)); refine ⟨_, _, _, ⟨_, _, _, Try.sizeOf28, rfl, ‹_›, fld_err _ _ _ _ hlt⟩, ?_⟩; intro w8 C8 hg8; have hpa8 := hpa7.turn C8 hg8)
            | (go_at_call 69; (with_reducible refine (rflg_ok (HRN hpa8) H3.out).mono ?_); rintro en w9 ⟨rfl, C9, hg9⟩; have hpa9 := hpa8.read C9 hg9 hq3; have B9 := hpa9.im)
            | ((first | (with_reducible refine wpList_stB 4 _ _ ?_) | (with_reducible refine wp_stB 4 _ _ ?_)); refine ⟨_, _, _, ⟨_, _, _, Try.sizeOf4, rfl, ‹_›, fld_found _ _ _ _ hlt⟩, ?_⟩; intro w10 C10 hg10; have hpa10 := hpa9.turn C10 hg10)
            | (go_at_call 68; (with_reducible refine (rtxt_no (HRN hpa10) H4.out).mono ?_); rintro en wb ⟨rfl, hgb⟩))
          exact hpa10.bad hgb HP.out rfl rfl
        | some x4 =>
        obtain ⟨va, q4⟩ := x4
        have hq4 := (rdT_spec r4).2.2.1
        have H4 := Lib.hid r4
        have hrow : rdRow l p = some (⟨s, ⟨ev, fo, va⟩⟩, q4) := by unfold rdRow; rw [r1]; simp only; rw [r2]; simp only; rw [r3]; simp only; rw [r4]
        rw [tail_ok hrow] at hpf
        have HPF := Lib.hid hpf
        clear r1 r2 r3 r4 hpf hrow
        go_wp2_with (first
          | (go_at_call 67; (with_reducible refine (rnum6_ok (HRN hpa) H1.out).mono ?_); rintro en w5 ⟨rfl, C5, hg5⟩; have hpa5 := hpa.read C5 hg5 hq1; have B5 := hpa5.im)
          | ((first | (with_reducible refine wpList_stB 3 _ _ ?_) | (with_reducible refine wp_stB 3 _ _ ?_)); refine ⟨_, _, _, ⟨_, _, _, Try.sizeOf3, rfl, ‹_›, fld_seq _ _ _ _ hlt⟩, ?_⟩; intro w6 C6 hg6; have hpa6 := hpa5.turn C6 hg6)
          | (go_at_call 67; (with_reducible refine (rnum2_ok (HRN hpa6) H2.out).mono ?_); rintro en w7 ⟨rfl, C7, hg7⟩; have hpa7 := hpa6.read C7 hg7 hq2; have B7 := hpa7.im)
          | ((first | (with_reducible refine wpList_stB 28 _ _ ?_) | (with_reducible refine wp_stB 28 _ _ ?_)); refine ⟨_, _, _, ⟨_, _, _, Try.sizeOf28, rfl, ‹_›, fld_err _ _ _ _ hlt⟩, ?_⟩; intro w8 C8 hg8; have hpa8 := hpa7.turn C8 hg8)
          | (go_at_call 69; (with_reducible refine (rflg_ok (HRN hpa8) H3.out).mono ?_); rintro en w9 ⟨rfl, C9, hg9⟩; have hpa9 := hpa8.read C9 hg9 hq3; have B9 := hpa9.im)
          | ((first | (with_reducible refine wpList_stB 4 _ _ ?_) | (with_reducible refine wp_stB 4 _ _ ?_)); refine ⟨_, _, _, ⟨_, _, _, Try.sizeOf4, rfl, ‹_›, fld_found _ _ _ _ hlt⟩, ?_⟩; intro w10 C10 hg10; have hpa10 := hpa9.turn C10 hg10)
          | (go_at_call 68; (with_reducible refine (rtxt_ok (HRN hpa10) H4.out).mono ?_); rintro en w11 ⟨rfl, C11, hg11⟩; have hpa11 := hpa10.read C11 hg11 hq4; have B11 := hpa11.im)
          | ((first | (with_reducible refine wpList_stB 9 _ _ ?_) | (with_reducible refine wp_stB 9 _ _ ?_)); refine ⟨_, _, _, ⟨_, _, _, Try.sizeOf9, rfl, ‹_›, fld_val _ _ _ _ hlt⟩, ?_⟩; intro w12 C12 hg12; have hpa12 := hpa11.turn C12 hg12))
        rw [st_four _ hlt, HT.out] at hpa12
        go_roundw
        case rel =>
          have hm := HM.out
          refine ⟨q + 1, q4, _, by omega, Lib.hid (by rw [List.length_append, HSQ.out]; rfl), by go_num, hpa12, ?_⟩
          rw [show 4 - (q + 1) = m from by omega]
          exact HPF
        case measure => simp [intOf]; omega
      · go_wp2
        go_meet
        obtain rfl : q = 4 := by omega
        refine ⟨p, rs, hpa, ?_⟩
        have := HPF.out
        rwa [Nat.sub_self] at this
  clear hpa HPF
  obtain ⟨p, rs, hpa, hpf⟩ := hcut
  refine hK _ _ ?_; clear hK
  rw [tail_zero] at hpf
  generalize tbOf rs = t at *
  simp only [fin] at hpf
  have c := blk_cell hpa.rd 1 _ rfl
  by_cases hlt : p < l.length
  · rw [if_pos (.inl hlt)] at hpf
    have HP := Lib.hid hpf
    clear hpf
    go_wp2_with (go_at_call 70; refine (must_bad 230 _ rfl).mono ?_; rintro e w2 ⟨rfl, rfl⟩)
    exact hpa.bad0 HP.out rfl rfl
  · have hnl : ¬ (p : Int) < l.length := by omega
    cases hm : mayI ⟨ix, st, t⟩ with
    | false =>
      rw [if_pos (.inr hm)] at hpf
      have HP := Lib.hid hpf
      have HM := Lib.hid hm
      clear hpf hm
      have B := hpa.im
      go_wp2_with (first
        | ((with_reducible refine wpList_ldB 49 _ ?_); refine ⟨rfl, _, ⟨_, _, _, _, _, Try.isAgg49, Try.sizeOf49, rfl, ‹_›, imA_all _ _ _⟩, ?_⟩)
        | (go_at_call 49; refine (imay_any _ _ _ _ _ _ hpa.row (by omega) _ HM.out).mono ?_; rintro en w5 ⟨rfl, hb5⟩; have hpa5 := hpa.below hb5)
        | (go_at_call 70; refine (must_bad 230 _ rfl).mono ?_; rintro e w2 ⟨rfl, rfl⟩))
      exact hpa5.bad0 HP.out rfl rfl
    | true =>
      rw [if_neg (by rintro (h | h); exact hlt h; rw [hm] at h; cases h)] at hpf
      have HP := Lib.hid hpf
      have HM := Lib.hid hm
      clear hpf hm
      have B := hpa.im
      go_wp2_with (first
        | ((with_reducible refine wpList_ldB 49 _ ?_); refine ⟨rfl, _, ⟨_, _, _, _, _, Try.isAgg49, Try.sizeOf49, rfl, ‹_›, imA_all _ _ _⟩, ?_⟩)
        | (go_at_call 49; refine (imay_any _ _ _ _ _ _ hpa.row (by omega) _ HM.out).mono ?_; rintro en w5 ⟨rfl, hb5⟩; have hpa5 := hpa.below hb5; have B5 := hpa5.im)
        | ((first | (with_reducible refine wpList_stB 49 _ _ ?_) | (with_reducible refine wp_stB 49 _ _ ?_)); refine ⟨_, _, _, ⟨_, _, _, Try.sizeOf49, rfl, ‹_›, imA_over _ _ _ _ _ _ _ _⟩, ?_⟩; intro w6 B6 hg6; have hpa6 := hpa5.turn B6 hg6; have E6 := hpa6.er)
        | ((first | (with_reducible refine wpList_stB 28 _ _ ?_) | (with_reducible refine wp_stB 28 _ _ ?_)); refine ⟨_, _, _, ⟨_, _, _, Try.sizeOf28, rfl, ‹_›, er_over _ (.int .i64 0) rfl rfl⟩, ?_⟩; intro w7 B7 hg7))
      exact leave_ok N l w _ _ ⟨ix, st, t⟩ a' cap' HP.out (tr_st hg7 hpa6.im (by omega)) B7 (owns_mono (owns_st hpa6.own hg7 (by omega)) (by omega)) (bl_st hpa6.bl hg7 (by have := hpa6.size; omega) (by omega)) rfl rfl
end Go.Proofs.Ytmnjmjbmnhppfaa

namespace Go.Proofs.Ytmnjmjbmnhppfaa
open Go.RowKit

def kT : Tx := ⟨#[107]⟩
def vT : Tx := ⟨#[118]⟩
def kvL : List Pr := [(kT, vT)]
def putE (s : Int) : En := ⟨2, 2, s, ⟨2, kT, ⟨#[]⟩, vT⟩⟩
def lastE : En := ⟨2, 2, 2, ⟨3, kT, ⟨#[]⟩, ⟨#[]⟩⟩⟩
def noopE : En := ⟨1, 0, 0, ⟨0, ⟨#[]⟩, ⟨#[]⟩, ⟨#[]⟩⟩⟩
def oldR : Rp := ⟨220, false, ⟨#[]⟩⟩
def t1T : Tb := zeroT.put 2 ⟨3, zeroR⟩
theorem enA_new (e : En) : (Value.agg (enA e)).cells = enA e ∧ (enA e).size = 7 ∧ ∀ u ∈ (enA e).toList, u.oneCell' = true := ⟨rfl, rfl, by simp [enA, Value.oneCell']⟩
theorem bl_two {w x y : World} {o1 o2 : Obj} (g1 : ((w.alloc o1).alloc o2).grownBy x (some w.heap.size)) (g2 : x.grownBy y (some (w.heap.size + 1))) : Below w.heap.size w y := by
  have h0 : Below w.heap.size w ((w.alloc o1).alloc o2) := (blw w o1).trans ((blw _ o2).mono (by simp))
  have h1 := bl_st h0 g1 h0.size (Nat.le_refl _)
  exact bl_st h1 g2 h1.size (by omega)

theorem do_kv : doP [] (putE 3).op = (kvL, zeroR) := by
  have h1 : mayS [] = true := by decide +kernel
  have h2 : mayO (putE 3).op = true := by decide +kernel
  have h3 : look [] kT = none := by decide +kernel
  rw [doP_ok h1 h2]
  simp [putE, kvL, kT, vT, zeroR, putL]
  have h4 : look [] (⟨#[107]⟩ : Tx) = none := h3
  exact ⟨by simp [lo, hi], by unfold wasR; rw [h4]⟩
theorem ap1 : applyP zeroI 1 (putE 3) = (⟨1, kvL, t1T⟩, zeroR, 0) := by
  rw [applyP_fresh (by decide +kernel) (by decide +kernel) (by decide +kernel)]
  show (Im.mk 1 (doP [] (putE 3).op).1 (zeroT.put 2 ⟨3, (doP [] (putE 3).op).2⟩), (doP [] (putE 3).op).2, (0 : Int)) = _
  rw [do_kv]
  rfl
theorem ap2 : applyP ⟨1, kvL, t1T⟩ 2 (putE 3) = (⟨2, kvL, t1T⟩, zeroR, 0) := by
  rw [applyP_same (by decide +kernel) (by decide +kernel) (by decide +kernel)]
  rfl
theorem ap3 : applyP ⟨2, kvL, t1T⟩ 3 lastE = (⟨3, kvL, t1T⟩, oldR, 0) := by
  rw [applyP_old (by decide +kernel) (by decide +kernel) (by decide +kernel)]
  rfl
theorem ap4 : applyP ⟨3, kvL, t1T⟩ 5 noopE = (zeroI, zeroR, 2) := badAp_yes (by decide +kernel)
theorem nilP (w : World) : SlP w none 0 [] := ⟨.inl rfl, by simp, by simp [maxLen], fun _ => rfl⟩
theorem nilB (w : World) : SlB w none 0 [] := ⟨.inl rfl, by simp, by simp [maxLen], fun _ => rfl⟩

def ApW (base : Nat) (i : Int) (n : Nat) (st : List Pr) (t : Tb) (r : Rp) (er : Int) (en : Ending) (w' : World) : Prop :=
  ∃ a c, en = .returned (.tuple #[.agg (imA i (.slice a n c) t), .agg (rpA r), .int .i64 er]) ∧ w'.ownsRow base 74 2 (.slice a n c) n (prs st)

theorem apply1 (w : World) : Calls Try.prog 48 #[.agg (imA 0 (.slice none 0 0) zeroT), .int .i64 1, .agg (enA (putE 3))] w fun en w' => ApW w.heap.size 1 1 kvL t1T zeroR 0 en w' ∧ Below w.heap.size w w' := by
  refine (apply_any zeroI none 0 1 (putE 3) w (nilP w) (by decide +kernel)).mono ?_
  intro en w' h
  rw [ap1] at h
  exact h
theorem apply2 (a : Option Addr) (c : Nat) (w : World) (hs : SlP w a c kvL) : Calls Try.prog 48 #[.agg (imA 1 (.slice a 1 c) t1T), .int .i64 2, .agg (enA (putE 3))] w fun en w' => ApW w.heap.size 2 1 kvL t1T zeroR 0 en w' ∧ Below w.heap.size w w' := by
  refine (apply_any ⟨1, kvL, t1T⟩ a c 2 (putE 3) w hs (by decide +kernel)).mono ?_
  intro en w' h
  rw [ap2] at h
  exact h
theorem apply3 (a : Option Addr) (c : Nat) (w : World) (hs : SlP w a c kvL) : Calls Try.prog 48 #[.agg (imA 2 (.slice a 1 c) t1T), .int .i64 3, .agg (enA lastE)] w fun en w' => ApW w.heap.size 3 1 kvL t1T oldR 0 en w' ∧ Below w.heap.size w w' := by
  refine (apply_any ⟨2, kvL, t1T⟩ a c 3 lastE w hs (by decide +kernel)).mono ?_
  intro en w' h
  rw [ap3] at h
  exact h
theorem apply4 (a : Option Addr) (c : Nat) (w : World) (hs : SlP w a c kvL) : Calls Try.prog 48 #[.agg (imA 3 (.slice a 1 c) t1T), .int .i64 5, .agg (enA noopE)] w fun en w' => ApW w.heap.size 0 0 [] zeroT zeroR 2 en w' ∧ Below w.heap.size w w' := by
  refine (apply_any ⟨3, kvL, t1T⟩ a c 5 noopE w hs (by decide +kernel)).mono ?_
  intro en w' h
  rw [ap4] at h
  exact h

def zerosB (n : Nat) : List UInt8 := List.replicate n 0
theorem im_zero : imB zeroI = zerosB 47 := by decide +kernel
theorem print0 (w : World) : Calls Try.prog 24 #[.agg (imA 0 (.slice none 0 0) zeroT)] w fun en w' => (∃ a c, en = .returned (.tuple #[.slice a 47 c, .int .i64 0]) ∧ SlB w' a c (zerosB 47)) ∧ Below w.heap.size w w' := by
  refine (print_any zeroI none 0 w (nilP w) (by decide +kernel)).mono ?_
  rintro en w' ⟨h, hb⟩
  unfold PrintRes at h
  rw [if_pos (by decide +kernel), im_zero] at h
  obtain ⟨v, rfl, ho⟩ := h
  obtain ⟨a, c, rfl, hs⟩ := ho.open
  exact ⟨⟨a, c, rfl, hs⟩, hb⟩
theorem parse46_none : parseI (zerosB 46) = none := by
  cases h : parseI (zerosB 46) with
  | none => rfl
  | some m =>
    have : (parseI (zerosB 46)).isNone = true := by decide +kernel
    rw [h] at this
    cases this
theorem parse46 (a : Option Addr) (c : Nat) (w : World) (hs : SlB w a c (zerosB 46)) : Calls Try.prog 26 #[.slice a 46 c] w fun en w' => en = .returned (.tuple #[.agg (imA 0 (.slice none 0 0) zeroT), .int .i64 230]) ∧ Below w.heap.size w w' := by
  refine (parse_any a c (zerosB 46) w hs (by decide +kernel)).mono ?_
  rintro en w' ⟨h, hb⟩
  unfold ParseRes at h
  rw [parse46_none] at h
  exact ⟨h, hb⟩

set_option maxRecDepth 100000 in
set_option maxHeartbeats 4000000 in
theorem putE_any (s : Int) (w : World) : Calls Try.prog 88 #[.int .i64 s] w fun en w' => en = .returned (.agg (enA (putE s))) ∧ Below w.heap.size w w' := by
  have B := heap_alloc_new w (Obj.cells (enA (putE s)) 80)
  go_enter Try.func88, Try.ntmps88
  refine wp_seq_k (fun K hK => ?_)
  have HK := Lib.hid hK
  clear hK
  go_wp2
  refine HK.out _ _ ?_
  clear HK
  go_wp2_with ((first | (with_reducible refine wpList_stNew 80 _ _ ?_) | (with_reducible refine wp_stNew 80 _ _ ?_)); refine ⟨_, _, ⟨Try.sizeOf80, rfl, enA_new (putE s)⟩, rfl, ?_⟩)
  go_wp2
  refine bodyPost_ret (results_c1 rfl rfl (run_loadVar_all Try.isAgg80 Try.sizeOf80 B rfl)) rfl ⟨rfl, blw w (Obj.cells (enA (putE s)) 80)⟩
end Go.Proofs.Ytmnjmjbmnhppfaa

