/- octet: piece, Get, walked. -/
import Derived.Test.YtmnjmjbmnhppfaaO1
import Derived.Test.YtmnjmjbmnhppfaaRows
import Derived.WalkKit
import Derived.WalkSpells
import Derived.WalkLawsBesides
import Derived.Handy
import Derived.Deep.QuietTactic
import Derived.BigQuiet
import Derived.Deep.DeepCutAuto
import Derived.Lib.Hide
import Derived.RegionTactic
import Derived.ChangeAlike
namespace Go.Proofs.Ytmnjmjbmnhppfaa
open Go.RowKit

/-- Where a piece of a row lies: Go keeps the old address where nothing is left. -/
def pieceA (a : Option Addr) (cap at_ : Nat) : Option Addr := if cap = at_ then a else a.map (fun x => x.add at_)

theorem Row.drop {w : World} {a : Option Addr} {xs : List Value} (h : Row w a xs) {cap : Nat} (hc : xs.length ≤ cap) (k : Nat) (hk : k ≤ xs.length) : Row w (pieceA a cap k) (xs.drop k) := by
  by_cases he : xs.length = k
  · left; rw [List.drop_of_length_le (by omega)]
  · obtain ⟨b, off, rfl, hcell⟩ := h.at (k := k) (by omega)
    right
    refine ⟨b, off + k, ?_, fun i u hu => ?_⟩
    · unfold pieceA
      rw [if_neg (by omega)]
      simp [addr_add]
    · rw [Nat.add_assoc]
      exact hcell (k + i) u (by rw [List.getElem?_drop] at hu; exact hu)
theorem Row.take {w : World} {a : Option Addr} {xs : List Value} (h : Row w a xs) (n : Nat) : Row w a (xs.take n) := by
  rcases h with h | ⟨b, off, ha, hc⟩
  · left; simp [h]
  · refine .inr ⟨b, off, ha, fun i u hu => hc i u ?_⟩
    have hi := (List.getElem?_eq_some_iff.1 hu).1
    rw [List.length_take] at hi
    rwa [List.getElem?_take_of_lt (by omega)] at hu

def pieceE (len : Nat) (at_ n : Int) : Int := if at_ < 0 ∨ len < at_ then 2 else if len - at_ < n then 10 else 0

set_option maxHeartbeats 1000000 in
theorem piece_bad (a : Option Addr) (len cap : Nat) (at_ n : Int) (w : World) (hm : len ≤ maxLen) (h : pieceE len at_ n ≠ 0) :
    Calls Try.prog 92 #[.slice a len cap, .int .i64 at_, .int .i64 n] w fun e w' => e = .returned (.tuple #[.slice none 0 0, .int .i64 (pieceE len at_ n)]) ∧ w = w' := by
  unfold maxLen at hm
  unfold pieceE at h ⊢
  by_cases h1 : at_ < 0
  · rw [if_pos (.inl h1)]
    go_enter Try.func92, Try.ntmps92
    go_wp2
    go_ret2
    exact ⟨rfl, rfl⟩
  · by_cases h2 : (len : Int) < at_
    · rw [if_pos (.inr h2)]
      go_enter Try.func92, Try.ntmps92
      go_wp2
      go_ret2
      exact ⟨rfl, rfl⟩
    · rw [if_neg (by omega)] at h ⊢
      by_cases h3 : (len : Int) - at_ < n
      · rw [if_pos h3]
        go_enter Try.func92, Try.ntmps92
        go_wp2
        go_ret2
        exact ⟨rfl, rfl⟩
      · rw [if_neg h3] at h
        exact absurd rfl h

set_option maxHeartbeats 1000000 in
theorem piece_ok (a : Option Addr) (len cap at_ n : Nat) (w : World) (hm : cap ≤ maxLen) (hlc : len ≤ cap) (h : at_ + n ≤ len) (ha : a = none → cap = 0) :
    Calls Try.prog 92 #[.slice a len cap, .int .i64 at_, .int .i64 n] w fun e w' => e = .returned (.tuple #[.slice (pieceA a cap at_) n (cap - at_), .int .i64 0]) ∧ w = w' := by
  unfold maxLen at hm
  have hs : at_ + n - at_ = n := by omega
  by_cases hc : cap = at_
  · subst hc
    go_enter Try.func92, Try.ntmps92
    go_wp2
    go_ret2
    refine ⟨?_, rfl⟩
    unfold pieceA
    rw [if_pos rfl, hs, Nat.sub_self]
    rfl
  · cases a with
    | none =>
      have := ha rfl
      omega
    | some ad =>
      have hw1 : ¬ cap = at_ := hc
      go_enter Try.func92, Try.ntmps92
      go_wp2
      go_ret2
      refine ⟨?_, rfl⟩
      unfold pieceA
      rw [if_neg hc, hs]
      rfl

/-- A slice of bytes that is read. -/
structure SlB (w : World) (a : Option Addr) (cap : Nat) (l : List UInt8) : Prop where
  row : Row w a (bys l)
  le : l.length ≤ cap
  max : cap ≤ maxLen
  nil : a = none → cap = 0
theorem SlB.below {w w' : World} {a : Option Addr} {cap : Nat} {l : List UInt8} (h : SlB w a cap l) (hb : Below w.heap.size w w') : SlB w' a cap l := ⟨h.row.below0 hb, h.le, h.max, h.nil⟩
theorem SlB.of_owns {w : World} {base : Nat} {e : TypeId} {v : Value} {l : List UInt8} (h : w.ownsRow base e 1 v l.length (bys l)) : ∃ a cap, v = .slice a l.length cap ∧ SlB w a cap l := by
  obtain ⟨a, cap, hv, hr, hn, hm⟩ := Row.of_owns h
  refine ⟨a, cap, hv, hr, hn, hm, fun ha => ?_⟩
  obtain ⟨_, ⟨hv', _⟩ | ⟨g, cap', cur, hv', _⟩⟩ := h
  · rw [hv] at hv'
    simp only [Value.slice.injEq] at hv'
    exact hv'.2.2
  · rw [hv] at hv'
    simp only [Value.slice.injEq] at hv'
    rw [ha] at hv'
    cases hv'.1

/-- What Get tells. -/
def getE (len : Nat) (at_ k : Int) : Int := if manyI k = 0 then 2 else pieceE len at_ k
def getN (l : List UInt8) (at_ k : Nat) : Nat := ofLe ((l.drop at_).take k)

theorem many_w {k : Int} (h : manyI k ≠ 0) : k = 1 ∨ k = 2 ∨ k = 4 ∨ k = 6 := by
  unfold manyI at h
  split at h; · omega
  split at h; · omega
  split at h; · omega
  split at h
  · omega
  · exact absurd rfl h

set_option maxHeartbeats 1000000 in
theorem get_bad (a : Option Addr) (len cap : Nat) (at_ k : Int) (w : World) (hm : len ≤ maxLen) (h : getE len at_ k ≠ 0) :
    Calls Try.prog 57 #[.slice a len cap, .int .i64 at_, .int .i64 k] w fun e w' => e = .returned (.tuple #[.int .i64 0, .int .i64 0, .int .i64 (getE len at_ k)]) ∧ Below w.heap.size w w' := by
  unfold getE at h ⊢
  by_cases h0 : manyI k = 0
  · rw [if_pos h0]
    have HM := Lib.hid h0
    clear h0 h
    go_enter Try.func57, Try.ntmps57
    go_wp2_with (go_at_call 91; refine (many_any _ _).mono ?_; rintro e w1 ⟨rfl, hb1⟩; rw [HM.out])
    go_ret3
    exact ⟨rfl, hb1⟩
  · rw [if_neg h0] at h ⊢
    have hme : (manyI k == 0) = false := by rw [beq_eq_false_iff_ne]; exact h0
    clear h0
    have hne : ((pieceE len at_ k) != 0) = true := by rw [bne_iff_ne]; exact h
    have HP := Lib.hid h
    clear h
    go_enter Try.func57, Try.ntmps57
    go_wp2_with (first | (go_at_call 91; refine (many_any _ _).mono ?_; rintro e w1 ⟨rfl, hb1⟩) | (go_at_call 92; refine (piece_bad a len cap at_ k _ hm HP.out).mono ?_; rintro e w1 ⟨rfl, rfl⟩))
    go_ret3
    exact ⟨rfl, hb1⟩

theorem or_byte (n x : Nat) (hn : n < 256 ^ 5) (hx : x < 256) : bits .or .i64 ((n : Int) * 256) (x : Int) = ((x + 256 * n : Nat) : Int) := by
  have e : (n : Int) * 256 = ((2 ^ 8 * n : Nat) : Int) := by omega
  have h1 : 2 ^ 8 * n + x = 2 ^ 8 * n ||| x := Nat.two_pow_add_eq_or_of_lt (by omega) n
  rw [e]
  show IntKind.i64.wrap ((BitVec.ofInt 64 ((2 ^ 8 * n : Nat) : Int) ||| BitVec.ofInt 64 (x : Int)).toNat : Int) = _
  rw [BitVec.toNat_or, ofInt_u64 _ (by omega), ofInt_u64 _ (by omega), ← h1, IntWalk.i64_in _ (by omega)]
  omega

set_option maxHeartbeats 1000000 in
theorem get_ok (a : Option Addr) (cap : Nat) (l : List UInt8) (at_ k : Nat) (w : World) (hs : SlB w a cap l) (hk : k = 1 ∨ k = 2 ∨ k = 4 ∨ k = 6) (h : at_ + k ≤ l.length) :
    Calls Try.prog 57 #[.slice a l.length cap, .int .i64 at_, .int .i64 k] w fun e w' => e = .returned (.tuple #[.int .i64 (getN l at_ k), .int .i64 ((at_ : Int) + k), .int .i64 0]) ∧ Below w.heap.size w w' := by
  have hmn : manyI k ≠ 0 := by unfold manyI; rcases hk with rfl | rfl | rfl | rfl <;> simp
  have hme : (manyI k == 0) = false := by rw [beq_eq_false_iff_ne]; exact hmn
  clear hmn
  have hrow : Row w (pieceA a cap at_) (bys ((l.drop at_).take k)) := by
    have h1 := (hs.row.drop (cap := cap) (by rw [bys_len]; exact hs.le) at_ (by rw [bys_len]; omega)).take k
    have e : bys ((l.drop at_).take k) = ((bys l).drop at_).take k := by simp [bys, List.map_take, List.map_drop]
    rw [e]; exact h1
  have hpl : ((l.drop at_).take k).length = k := by rw [List.length_take, List.length_drop]; omega
  have hmx := hs.max
  unfold maxLen at hmx
  have hle := hs.le
  have hnil := hs.nil
  unfold getN
  generalize (l.drop at_).take k = p at *
  go_enter Try.func57, Try.ntmps57
  refine wp_seq_k (fun K hK => ?_)
  have HK := Lib.hid hK
  clear hK
  go_wp2
  refine HK.out _ _ ?_
  clear HK
  refine wp_seq_k (fun K hK => ?_)
  have HK := Lib.hid hK
  clear hK
  go_wp2_with (go_at_call 91; refine (many_any _ _).mono ?_; rintro e w1 ⟨rfl, hb1⟩)
  refine HK.out _ _ ?_
  clear HK
  have hrow1 := hrow.below0 hb1
  refine wp_seq_k (fun K hK => ?_)
  have HK := Lib.hid hK
  clear hK
  go_wp2_with (go_at_call 92; refine (piece_ok a l.length cap at_ k _ (by unfold maxLen; omega) hle h hnil).mono ?_; rintro e w2 ⟨rfl, rfl⟩)
  refine HK.out _ _ ?_
  clear HK
  generalize pieceA a cap at_ = pa at *
  refine wp_seq_k (fun K hK => ?_)
  have HK := Lib.hid hK
  clear hK
  go_wp2
  refine HK.out _ _ ?_
  clear HK
  refine wp_seq_k (fun K hK => ?_)
  have HK := Lib.hid hK
  clear hK
  go_wp2
  refine HK.out _ _ ?_
  clear HK
  refine wp_seq_k (fun K hK => ?_)
  go_cut [11] (fun n wx => n = .int .i64 (ofLe p : Nat) ∧ wx = w1)
  case first =>
    go_wp2_with fail
    go_loopw [11, 12, 27] (fun n _ i wr => ∃ j : Nat, j ≤ k ∧ i = .int .i64 j ∧ n = .int .i64 (ofLe (p.drop (k - j)) : Nat) ∧ wr = w1) (fun _ _ i _ => k - (intOf i).toNat)
    case atStart => exact ⟨0, by omega, rfl, by rw [Nat.sub_zero, List.drop_of_length_le (by omega)]; rfl, rfl⟩
    case round =>
      obtain ⟨j, hj, rfl, rfl, rfl⟩ := hrel
      by_cases hlt : j < k
      · obtain ⟨b, off, hpa, hc⟩ := hrow1.byte (i := k - 1 - j) (by omega)
        have hst : ofLe (p.drop (k - (j + 1))) = (p[k - 1 - j]'(by omega)).toNat + 256 * ofLe (p.drop (k - j)) := by
          rw [show k - (j + 1) = k - 1 - j by omega, List.drop_eq_getElem_cons (by omega), ofLe, show k - 1 - j + 1 = k - j by omega]
        have hlt2 : ofLe (p.drop (k - j)) < 256 ^ 5 := by
          refine Nat.lt_of_lt_of_le (ofLe_lt _) ?_
          rw [List.length_drop]
          exact Nat.pow_le_pow_right (by omega) (by omega)
        have hb := (p[k - 1 - j]'(by omega)).toNat_lt
        generalize (p[k - 1 - j]'(by omega)).toNat = x at *
        have HST := Lib.hid hst
        clear hst
        generalize ofLe (p.drop (k - j)) = n at *
        have HPA := Lib.hid hpa
        clear hpa
        rw [HPA.out]
        go_wp2
        refine ⟨⟨j + 1, by omega, by go_num, ?_, by first | trivial | rfl⟩, by simp [intOf]; omega⟩
        rw [HST.out, or_byte n x hlt2 hb]
      · obtain rfl : j = k := by omega
        rw [Nat.sub_self, List.drop_zero]
        go_wp2
        go_meet
        exact ⟨rfl, by first | trivial | rfl⟩
  obtain ⟨rfl, rfl⟩ := hcut
  refine hK _ _ ?_; clear hK
  go_wp2
  go_ret3
  exact ⟨rfl, hb1⟩
end Go.Proofs.Ytmnjmjbmnhppfaa
