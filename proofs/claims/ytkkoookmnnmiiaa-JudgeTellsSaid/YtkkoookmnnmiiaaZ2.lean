/- Texts that the claim leans on, part 2: Own, Under, K1, K2, K5, K1b, K5b, I0. -/
import Derived.Test.YtkkoookmnnmiiaaZ1
import Derived.Test.YtkkoookmnnmiiaaRows
import Derived.WalkKit
import Derived.WalkSpells
import Derived.WalkLawsBesides
import Derived.Handy
import Derived.Deep.QuietTactic
import Derived.BigQuiet
import Derived.Deep.DeepCutAuto
import Derived.Lib.Hide
import Derived.RegionTactic
import Derived.ChangeAlike
import Derived.ProofKit
import Derived.OpenShut
import Derived.Laws.Strings
import Derived.Laws.CopyOwn
import Derived.Laws.CopyRow
import Derived.Laws.NewBlocks
import Derived.Deep.RegionLaw
namespace Go.Proofs.Ytkkoookmnnmiiaa
open Go.RowKit

theorem owns_after {w w' : World} {base n size : Nat} {e : TypeId} {v : Value} {xs : List Value} (h : w.ownsRow base e size v n xs) (hb : Below w.heap.size w w') : w'.ownsRow base e size v n xs := by
  obtain ⟨hl, h | ⟨g, cap, cur, hv, hg, hc, r⟩⟩ := h
  · exact ⟨hl, .inl h⟩
  · exact ⟨hl, .inr ⟨g, cap, cur, hv, hg, (hb.block g (Array.getElem?_eq_some_iff.1 hc).1).trans hc, r⟩⟩

end Go.Proofs.Ytkkoookmnnmiiaa

namespace Go.Proofs.Ytkkoookmnnmiiaa
open Go.RowKit

open Classical in
/-- x, if it is as w below w's size; else w. -/
noncomputable def Under (w x : World) : World := if Below w.heap.size w x then x else w

theorem under_below (w x : World) : Below w.heap.size w (Under w x) := by
  unfold Under
  split
  · assumption
  · exact Below.refl _ _
theorem under_of {w y : World} (h : Below w.heap.size w y) : y = Under w y := by
  unfold Under
  rw [if_pos h]
theorem under_cell {w : World} {p : Addr} {v : Value} (h : w.cell? p = some v) : ∀ x, (Under w x).cell? p = some v := fun x => by
  have h2 := World.block_lt_of_cell? _ _ h
  rw [(under_below w x).cell h2]
  exact h
theorem under_row {w : World} {a : Option Addr} {xs : List Value} (h : Row w a xs) : ∀ x, Row (Under w x) a xs := fun x => h.below0 (under_below w x)
theorem under_call {P : Program} {f : FuncId} {args : Array Value} {w x : World} {v : Value}
    (h : Calls P f args (Under w x) fun e w' => e = .returned v ∧ Below (Under w x).heap.size (Under w x) w') : Calls P f args (Under w x) fun e w'' => e = .returned v ∧ ∃ y, w'' = Under w y :=
  h.mono fun _ w' ⟨he, hb⟩ => ⟨he, w', under_of ((under_below w x).trans (hb.mono (under_below w x).size))⟩
theorem under_same {P : Program} {f : FuncId} {args : Array Value} {w x : World} {v : Value}
    (h : Calls P f args (Under w x) fun e w' => e = .returned v ∧ Under w x = w') : Calls P f args (Under w x) fun e w'' => e = .returned v ∧ ∃ y, w'' = Under w y :=
  h.mono fun _ _ ⟨he, hm⟩ => ⟨he, x, hm.symm⟩
theorem under_drew {P : Program} {f : FuncId} {args : Array Value} {w x : World} {v : Value}
    (h : Calls P f args (Under w x) fun e w' => e = .returned v ∧ ∃ n, w' = (Under w x).drewN n) : Calls P f args (Under w x) fun e w'' => e = .returned v ∧ ∃ y, w'' = Under w y :=
  under_call (h.mono fun _ _ ⟨he, n, hm⟩ => ⟨he, by subst hm; exact below_drewN (Below.refl _ _) n⟩)

theorem wp_region_under {P : Program} {id : Nat} {Q : Exit → Act → World → Prop} {a : Act} {w : World} {l : List Oper} (hm : P.follows .mixedOrders = true) (hB : Region.lexB .any l.toArray = true)
    (h : wpQuiet P l.toArray (fun w' => ∃ x, w' = Under w x) (fun a' => ∀ w', (∃ x, w' = Under w x) → Q .normal a' w') l a) : (Code.region id l.toArray true).wp P Q a w :=
  wp_region_quiet (C := fun w' => ∃ x, w' = Under w x) hm hB ⟨_, under_of ((Below.refl _ _).drew)⟩ (by simpa using h)
end Go.Proofs.Ytkkoookmnnmiiaa

namespace Go.Proofs.Ytkkoookmnnmiiaa
open Go.RowKit

def prs (l : List Pr) : List Value := l.flatMap fun p => [.string p.1, .string p.2]
theorem prs_len : ∀ (l : List Pr), (prs l).length = 2 * l.length
  | [] => rfl
  | p :: l => by
    have := prs_len l
    simp only [prs, List.flatMap_cons, List.length_append, List.length_cons, List.length_nil] at this ⊢
    omega
theorem prs_app (l m : List Pr) : prs (l ++ m) = prs l ++ prs m := by simp [prs]
theorem prs_one {l : List Pr} : ∀ u ∈ prs l, u.oneCell' = true := by
  intro u hu
  simp only [prs, List.mem_flatMap] at hu
  obtain ⟨p, _, hp⟩ := hu
  simp at hp
  rcases hp with rfl | rfl <;> rfl
theorem prs_at : ∀ {l : List Pr} {i : Nat} {p : Pr}, l[i]? = some p → (prs l)[i * 2]? = some (.string p.1) ∧ (prs l)[i * 2 + 1]? = some (.string p.2)
  | [], i, p, h => by simp at h
  | q :: l, 0, p, h => by
    simp at h
    subst h
    exact ⟨rfl, rfl⟩
  | q :: l, i + 1, p, h => by
    simp only [List.getElem?_cons_succ] at h
    have := prs_at h
    have e1 : (i + 1) * 2 = i * 2 + 1 + 1 := by omega
    rw [e1]
    simp only [prs, List.flatMap_cons, List.cons_append, List.nil_append, List.getElem?_cons_succ] at this ⊢
    exact this
theorem Row.pair {w : World} {a : Option Addr} {l : List Pr} (h : Row w a (prs l)) {i : Nat} {p : Pr} (hp : l[i]? = some p) :
    ∃ b off, a = some ⟨b, off, none⟩ ∧ b < w.heap.size ∧ (∀ j q, l[j]? = some q → w.cell? ⟨b, off + j * 2, none⟩ = some (.string q.1) ∧ w.cell? ⟨b, off + j * 2 + 1, none⟩ = some (.string q.2)) := by
  have hi := (List.getElem?_eq_some_iff.1 hp).1
  obtain ⟨b, off, ha, hc⟩ := h.at (k := i) (by rw [prs_len]; omega)
  refine ⟨b, off, ha, World.block_lt_of_cell? _ _ (hc _ _ (prs_at hp).1), fun j q hq => ?_⟩
  obtain ⟨h1, h2⟩ := prs_at hq
  exact ⟨hc _ _ h1, by rw [Nat.add_assoc]; exact hc _ _ h2⟩

theorem key_any (s : Tx) (w : World) : Calls Try.prog 70 #[.string s] w fun e w' => e = .returned (.bool (keyOk s)) ∧ w = w' := by
  unfold keyOk
  by_cases h1 : 1 ≤ s.size
  all_goals by_cases h2 : s.size ≤ 8
  all_goals
    go_enter Try.func70, Try.ntmps70
    go_wp2
    all_goals go_ret
    all_goals exact ⟨ret_bool (by first | (simp [h1, h2]; done) | (simp [h1, h2]; omega)), rfl⟩
theorem value_any (s : Tx) (w : World) : Calls Try.prog 71 #[.string s] w fun e w' => e = .returned (.bool (valOk s)) ∧ w = w' := by
  unfold valOk
  by_cases h2 : s.size ≤ 16
  all_goals
    go_enter Try.func71, Try.ntmps71
    go_wp2
    all_goals go_ret
    all_goals exact ⟨ret_bool (by first | (simp [h2]; done) | (simp [h2]; omega)), rfl⟩
end Go.Proofs.Ytkkoookmnnmiiaa

namespace Go.Proofs.Ytkkoookmnnmiiaa
open Go.RowKit

theorem elPair : ElemT Try.prog 48 81 2 32 := ElemT.of (.agg #[.string ⟨#[]⟩, .string ⟨#[]⟩]) Try.underlying48 (by kernel_rfl) rfl (by decide)

structure SlP (w : World) (a : Option Addr) (cap : Nat) (l : List Pr) : Prop where
  row : Row w a (prs l)
  le : l.length ≤ cap
  max : cap ≤ maxLen
  nil : a = none → cap = 0
theorem SlP.below {w w' : World} {a : Option Addr} {cap : Nat} {l : List Pr} (h : SlP w a cap l) (hb : Below w.heap.size w w') : SlP w' a cap l := ⟨h.row.below0 hb, h.le, h.max, h.nil⟩
theorem SlP.of_owns {w : World} {base : Nat} {e : TypeId} {v : Value} {l : List Pr} (h : w.ownsRow base e 2 v l.length (prs l)) : ∃ a cap, v = .slice a l.length cap ∧ SlP w a cap l := by
  have h0 := h
  obtain ⟨a, cap, hv, hr, hn, hm⟩ := Row.of_owns h
  refine ⟨a, cap, hv, hr, hn, hm, fun ha => ?_⟩
  subst ha
  obtain ⟨_, ⟨h1, _⟩ | ⟨g, cap', cur, h1, _⟩⟩ := h0
  · rw [hv] at h1
    injection h1
  · rw [hv] at h1
    injection h1 with h1
    cases h1

def OwnPrs (base : Nat) (l : List Pr) (e : Ending) (w' : World) : Prop := ∃ v, e = .returned v ∧ w'.ownsRow base 81 2 v l.length (prs l)

set_option maxRecDepth 100000 in
set_option maxHeartbeats 400000 in
theorem clone_any (a : Option Addr) (cap : Nat) (l : List Pr) (w : World) (hs : SlP w a cap l) (hl : l.length ≤ 1000) :
    Calls Try.prog 40 #[.slice a l.length cap] w fun e w' => OwnPrs w.heap.size l e w' ∧ Below w.heap.size w w' := by
  have hmx := hs.max
  have hle := hs.le
  unfold maxLen at hmx
  cases a with
  | none =>
    have h0 := hs.nil rfl
    have hl0 : l = [] := List.eq_nil_of_length_eq_zero (by omega)
    subst hl0 h0
    have hnil : ∀ w : World, (binOp .eql 48 (.slice none 0 0) (.slice none 0 0)).run Try.prog w = .ok (.bool true) w := fun w => Lib.run_eql_slice_nil (P := Try.prog) w 48 81 none 0 0 0 0 Try.underlying48
    go_enter Try.func40, Try.ntmps40
    go_wp2
    go_ret
    exact ⟨⟨_, rfl, World.ownsRow_nil _ _ _ _⟩, Below.refl _ _⟩
  | some ad =>
    have hb0 : Below w.heap.size w (w.alloc (Obj.cells #[] 81)) := (Below.refl _ _).alloc (Nat.le_refl _) _
    have hr0 := hs.row.below0 hb0
    have hnil : ∀ w : World, (binOp .eql 48 (.slice (some ad) l.length cap) (.slice none 0 0)).run Try.prog w = .ok (.bool false) w := fun w => Lib.run_eql_slice_nil (P := Try.prog) w 48 81 (some ad) l.length cap 0 0 Try.underlying48
    go_enter Try.func40, Try.ntmps40
    go_wp2_with (at_builtin; refine wpList_append_row rfl _ _ 48 81 elPair rfl w.heap.size _ _ _ rfl (owns_empty _ _ _) _ _ _ _ rfl (by rw [prs_len]; omega) hr0 prs_one (by omega) (by omega) (by simp) ?_; intro v5 w5 hown5 hb5)
    go_ret
    exact ⟨⟨_, rfl, by simpa using hown5⟩, hb0.trans hb5⟩

theorem isnanS (s : Tx) (w : World) : Calls Try.prog 108 #[.string s] w fun e w' => e = .returned (.bool false) ∧ w = w' := by
  go_enter Try.func108, Try.ntmps108
  go_wp2
  go_ret
  exact ⟨by simp, rfl⟩

def cmpI (a b : Tx) : Int := if kl a b then -1 else if a = b then 0 else 1
theorem cmp_any (a b : Tx) (w : World) : Calls Try.prog 104 #[.string a, .string b] w fun e w' => e = .returned (.int .i64 (cmpI a b)) ∧ w = w' := by
  cases h1 : kl a b with
  | true =>
    have e1 : cmpI a b = -1 := by simp [cmpI, h1]
    rw [e1]
    unfold kl at h1
    go_enter Try.func104, Try.ntmps104
    go_wp2_with (go_at_call 108; refine (isnanS _ _).mono ?_; rintro e w' ⟨rfl, rfl⟩)
    go_ret
    exact ⟨rfl, rfl⟩
  | false =>
    by_cases h2 : a = b
    · have e1 : cmpI a b = 0 := by subst h2; simp [cmpI, kl_irrefl]
      rw [e1]
      unfold kl at h1
      have h3 : (a.toList == b.toList) = true := by rw [tx_eq]; exact decide_eq_true h2
      clear e1 h2
      go_enter Try.func104, Try.ntmps104
      go_wp2_with (go_at_call 108; refine (isnanS _ _).mono ?_; rintro e w' ⟨rfl, rfl⟩)
      go_ret
      exact ⟨rfl, rfl⟩
    · have e1 : cmpI a b = 1 := by simp [cmpI, h1, h2]
      rw [e1]
      unfold kl at h1
      have h3 : (a.toList == b.toList) = false := by rw [tx_eq]; exact decide_eq_false h2
      clear e1 h2
      go_enter Try.func104, Try.ntmps104
      go_wp2_with (go_at_call 108; refine (isnanS _ _).mono ?_; rintro e w' ⟨rfl, rfl⟩)
      go_ret
      exact ⟨rfl, rfl⟩

theorem cmpI_lt {a b : Tx} (h : kl a b = true) : cmpI a b = -1 := by simp [cmpI, h]
theorem cmpI_eq (a : Tx) : cmpI a a = 0 := by simp [cmpI, kl_irrefl]
theorem cmpI_gt {a b : Tx} (h : kl a b = false) (hn : a ≠ b) : cmpI a b = 1 := by simp [cmpI, h, hn]

theorem find1_any (a v b : Tx) (w : World) : Calls Try.prog 103 #[.agg #[.string a, .string v], .string b] w fun e w' => e = .returned (.int .i64 (cmpI a b)) ∧ Below w.heap.size w w' := by
  go_enter Try.func103, Try.ntmps103
  go_wp2_with (go_at_call 104; refine (cmp_any _ _ _).mono ?_; rintro e w' ⟨rfl, rfl⟩)
  go_ret
  exact ⟨rfl, (Below.refl _ _).alloc (Nat.le_refl _) _⟩

def hasK (l : List Pr) (k : Tx) : Bool := (look l k).isSome
def BsK (l : List Pr) (k : Tx) (a b : Nat) : Prop := (∀ j q, l[j]? = some q → j < a → kl q.1 k = true) ∧ (∀ j q, l[j]? = some q → b ≤ j → kl q.1 k = false)
theorem bsK_lo {l : List Pr} {k : Tx} {y : Pr} {a b m : Nat} (h : Rises l) (hi : BsK l k a b) (hy : l[m]? = some y) (hyx : kl y.1 k = true) : BsK l k (m + 1) b := by
  refine ⟨fun j q hq hj => ?_, hi.2⟩
  obtain ⟨hm, rfl⟩ := List.getElem?_eq_some_iff.1 hy
  obtain ⟨hj2, rfl⟩ := List.getElem?_eq_some_iff.1 hq
  by_cases e : j = m
  · subst e; exact hyx
  · exact kl_trans (List.pairwise_iff_getElem.1 h j m hj2 hm (by omega)) hyx
theorem bsK_hi {l : List Pr} {k : Tx} {y : Pr} {a b m : Nat} (h : Rises l) (hi : BsK l k a b) (hy : l[m]? = some y) (hyx : kl y.1 k = false) : BsK l k a m := by
  refine ⟨hi.1, fun j q hq hj => ?_⟩
  obtain ⟨hm, rfl⟩ := List.getElem?_eq_some_iff.1 hy
  obtain ⟨hj2, rfl⟩ := List.getElem?_eq_some_iff.1 hq
  by_cases e : m = j
  · subst e; exact hyx
  · have h1 := List.pairwise_iff_getElem.1 h m j hm hj2 (by omega)
    cases h2 : kl l[j].1 k with
    | false => rfl
    | true => rw [kl_trans h1 h2] at hyx; cases hyx

end Go.Proofs.Ytkkoookmnnmiiaa

namespace Go.Proofs.Ytkkoookmnnmiiaa
open Go.RowKit

theorem bl_nil (x : List UInt8) : Op.bytesLess x [] = false := by cases x <;> rfl
theorem bl_drop : ∀ (i : Nat) (x y : List UInt8), i ≤ x.length → i ≤ y.length → x.take i = y.take i → Op.bytesLess x y = Op.bytesLess (x.drop i) (y.drop i)
  | 0, x, y, _, _, _ => rfl
  | i + 1, [], y, h, _, _ => by simp at h
  | i + 1, x :: xs, [], _, h, _ => by simp at h
  | i + 1, x :: xs, y :: ys, h1, h2, h => by
    simp only [List.take_succ_cons, List.cons.injEq] at h
    obtain ⟨rfl, h⟩ := h
    simp only [List.drop_succ_cons]
    rw [← bl_drop i xs ys (by simpa using h1) (by simpa using h2) h]
    simp [Op.bytesLess]

theorem tx_len (a : Tx) : a.toList.length = a.size := by rw [ByteArray.toList_eq]; rfl
theorem tx_get (a : Tx) (i : Nat) (h : i < a.size) : a.toList[i]? = some a[i] := by
  rw [ByteArray.toList_eq]
  simp [ByteArray.getElem_eq_getElem_data]

/-- The first i bytes agree. -/
def Agree (a b : Tx) (i : Nat) : Prop := a.toList.take i = b.toList.take i
theorem agree_zero (a b : Tx) : Agree a b 0 := by simp [Agree]
theorem agree_succ {a b : Tx} {i : Nat} (ha : i < a.size) (hb : i < b.size) (h : Agree a b i) (he : a[i] = b[i]) : Agree a b (i + 1) := by
  unfold Agree at *
  rw [List.take_add_one, List.take_add_one, h, tx_get a i ha, tx_get b i hb, he]
theorem kl_at {a b : Tx} {i : Nat} (ha : i < a.size) (hb : i < b.size) (h : Agree a b i) (he : ¬ a[i] = b[i]) : kl a b = decide (a[i] < b[i]) := by
  unfold kl
  rw [bl_drop i _ _ (by rw [tx_len]; omega) (by rw [tx_len]; omega) h]
  have h1 := tx_get a i ha
  have h2 := tx_get b i hb
  rw [List.drop_eq_getElem_cons (l := a.toList) (by rw [tx_len]; exact ha), List.drop_eq_getElem_cons (l := b.toList) (by rw [tx_len]; exact hb)]
  rw [List.getElem?_eq_getElem (by rw [tx_len]; exact ha)] at h1
  rw [List.getElem?_eq_getElem (by rw [tx_len]; exact hb)] at h2
  rw [Option.some.inj h1, Option.some.inj h2]
  simp only [Op.bytesLess]
  have : (a[i] == b[i]) = false := by simpa using he
  rw [this]
  simp
theorem kl_end {a b : Tx} {i : Nat} (ha : i ≤ a.size) (hb : i ≤ b.size) (h : Agree a b i) (he : i = a.size ∨ i = b.size) : kl a b = decide (a.size < b.size) := by
  unfold kl
  rw [bl_drop i _ _ (by rw [tx_len]; omega) (by rw [tx_len]; omega) h]
  by_cases hlt : a.size < b.size
  · have e1 : i = a.size := by omega
    rw [decide_eq_true (by omega), List.drop_of_length_le (by rw [tx_len]; omega), List.drop_eq_getElem_cons (by rw [tx_len]; omega)]
    rfl
  · have e1 : i = b.size := by omega
    rw [decide_eq_false (by omega), List.drop_of_length_le (l := b.toList) (by rw [tx_len]; omega), bl_nil]

set_option maxHeartbeats 1000000 in
theorem rless_any (a b : Tx) (w : World) (ha : a.size ≤ 100000) (hb : b.size ≤ 100000) : Calls Try.prog 89 #[.string a, .string b] w fun e w' => e = .returned (.bool (kl a b)) ∧ ∃ m, w' = w.drewN m := by
  go_enter Try.func89, Try.ntmps89
  refine wp_seq_k (fun K hK => ?_)
  have HK := Lib.hid hK
  clear hK
  go_wp2
  refine HK.out _ _ ?_
  clear HK
  go_wp2_with fail
  go_loopw [5] (fun i wr => ∃ k m : Nat, k ≤ a.size ∧ k ≤ b.size ∧ i = .int .i64 k ∧ Agree a b k ∧ wr = w.drewN m) (fun i _ => a.size - (intOf i).toNat)
  case atStart => exact ⟨0, 0, by omega, by omega, rfl, agree_zero _ _, rfl⟩
  case round =>
    obtain ⟨k, m, h1, h2, rfl, hag, rfl⟩ := hrel
    by_cases hlt : k < a.size ∧ k < b.size
    · obtain ⟨hl1, hl2⟩ := hlt
      have hb1 := a[k].toNat_lt
      have hb2 := b[k].toNat_lt
      by_cases he : a[k] = b[k]
      · have hs := agree_succ hl1 hl2 hag he
        have hn : ((a[k].toNat : Int) != (b[k].toNat : Int)) = false := by rw [he]; simp
        have HE := Lib.hid he
        clear he
        go_wp2_with fail
        go_quiet (fail)
        go_wp2
        go_roundw
        case rel => exact ⟨k + 1, m + nq, by omega, by omega, by go_num, hs, rfl⟩
        case measure => simp [intOf]; omega
      · have hs := kl_at hl1 hl2 hag he
        have hn : ((a[k].toNat : Int) != (b[k].toNat : Int)) = true := by
          rw [bne_iff_ne]; intro e; exact he (UInt8.toNat_inj.1 (by omega))
        have hdd : decide (a[k] < b[k]) = decide (a[k].toNat < b[k].toNat) := by
          simp [UInt8.lt_iff_toNat_lt]
        have HD := Lib.hid (hs.trans hdd)
        clear he hs hdd
        go_wp2_with fail
        go_quiet (fail)
        go_wp2_with fail
        go_quiet (fail)
        go_wp2
        go_ret
        refine And.intro (ret_bool HD.out.symm) ?_
        apply Exists.intro
        rw [World.drewN_drewN, World.drewN_drewN]
    · have hs := kl_end h1 h2 hag (by omega)
      have HD := Lib.hid hs
      clear hs
      by_cases hl1 : k < a.size
      · have hl2 : ¬ k < b.size := fun h => hlt ⟨hl1, h⟩
        clear hlt
        go_wp2
        go_ret
        exact ⟨ret_bool HD.out.symm, _, rfl⟩
      · clear hlt
        go_wp2
        go_ret
        exact ⟨ret_bool HD.out.symm, _, rfl⟩
end Go.Proofs.Ytkkoookmnnmiiaa

namespace Go.Proofs.Ytkkoookmnnmiiaa
open Go.RowKit

theorem good_zero {l : List Pr} {y : Pr} (h : l[0]? = some y) : goodAt l 0 = (keyOk y.1 && valOk y.2) := by simp [goodAt, h]
theorem good_succ {l : List Pr} {j : Nat} {x y : Pr} (hx : l[j]? = some x) (hy : l[j + 1]? = some y) : goodAt l (j + 1) = (keyOk y.1 && valOk y.2 && kl x.1 y.1) := by simp [goodAt, hx, hy]
theorem mayS_bad {l : List Pr} {k : Nat} (hk : k < l.length) (h : goodAt l k = false) : mayS l = false := by
  unfold mayS
  rw [goods_false hk h, Bool.and_false]
theorem mayS_len {l : List Pr} (h : goods l l.length = true) : mayS l = decide (l.length ≤ 8) := by
  unfold mayS
  rw [h, Bool.and_true]

set_option maxHeartbeats 4000000 in
theorem may_any (a : Option Addr) (cap : Nat) (l : List Pr) (w : World) (hr : Row w a (prs l)) (hl : l.length ≤ 1000) :
    Calls Try.prog 54 #[.slice a l.length cap] w fun e w' => e = .returned (.bool (mayS l)) ∧ Below w.heap.size w w' := by
  go_enter Try.func54, Try.ntmps54
  refine wp_seq_k (fun K hK => ?_)
  have HK := Lib.hid hK
  clear hK
  go_wp2
  refine HK.out _ _ ?_
  clear HK
  refine wp_seq_k (fun K hK => ?_)
  go_cut [] (fun wx => goods l l.length = true ∧ Below w.heap.size w wx)
  case first =>
    go_wp2_with fail
    go_loopw [7] (fun i wr => ∃ k : Nat, k ≤ l.length ∧ i = .int .i64 k ∧ goods l k = true ∧ Below w.heap.size w wr) (fun i _ => l.length - (intOf i).toNat)
    case atStart => exact ⟨0, by omega, rfl, goods_zero l, Below.refl _ _⟩
    case round =>
      obtain ⟨k, hk, rfl, hg, hbr⟩ := hrel
      by_cases hlt : k < l.length
      · obtain ⟨bb, off, rfl, hblt, hcs⟩ := (hr.below0 hbr).pair (List.getElem?_eq_getElem hlt)
        obtain ⟨c0, c1⟩ := hcs _ _ (List.getElem?_eq_getElem hlt)
        have hgs := goods_succ l k
        have hbad := Lib.hid (mayS_bad hlt)
        have hal : Below w.heap.size w (wr.alloc (Obj.cells #[.string l[k].1, .string l[k].2] 81)) := hbr.alloc hbr.size _
        have hne : bb ≠ wr.heap.size := by omega
        cases k with
        | zero =>
          simp only [Nat.zero_mul, Nat.add_zero] at c0 c1
          have hgo := good_zero (List.getElem?_eq_getElem hlt)
          clear hcs
          generalize l[0] = y at *
          obtain ⟨y1, y2⟩ := y
          cases h1 : keyOk y1 <;> cases h2 : valOk y2
          all_goals
            rw [h1, h2] at hgo
            simp only [Bool.and_true, Bool.and_false, Bool.and_self] at hgo
            rw [hgo] at hgs
            have HG := Lib.hid hgo
            simp only [Bool.and_true, Bool.and_false, hg] at hgs
            clear hgo
            go_wp2_with fail
            go_quiet ((first | (go_at_call 70; exact quiet_same (key_any _ _)) | (go_at_call 71; exact quiet_same (value_any _ _))))
            go_wp2
            first
              | (go_ret; exact ⟨ret_bool (hbad.out HG.out).symm, below_drewN hal _⟩)
              | skip
          go_roundw
          case rel => exact ⟨1, by omega, rfl, hgs, below_drewN hal _⟩
          case measure => simp [intOf]; omega
        | succ j =>
          have hjl : j < l.length := by omega
          have hgo := good_succ (List.getElem?_eq_getElem hjl) (List.getElem?_eq_getElem hlt)
          obtain ⟨d0, d1⟩ := hcs _ _ (List.getElem?_eq_getElem hjl)
          clear hcs
          generalize l[j + 1] = y at *
          generalize l[j] = x at *
          obtain ⟨y1, y2⟩ := y
          obtain ⟨x1, x2⟩ := x
          have hkl : kl x1 y1 = Op.bytesLess x1.toList y1.toList := rfl
          simp only [hkl] at hgo
          clear hkl
          cases h1 : keyOk y1 <;> cases h2 : valOk y2 <;> cases h3 : Op.bytesLess x1.toList y1.toList
          all_goals
            rw [h1, h2, h3] at hgo
            simp only [Bool.and_true, Bool.and_false, Bool.and_self] at hgo
            rw [hgo] at hgs
            have HG := Lib.hid hgo
            simp only [Bool.and_true, Bool.and_false, hg] at hgs
            clear hgo
            go_wp2_with fail
            go_quiet ((first | (go_at_call 70; exact quiet_same (key_any _ _)) | (go_at_call 71; exact quiet_same (value_any _ _))))
            go_wp2
            first
              | (go_ret; exact ⟨ret_bool (hbad.out HG.out).symm, below_drewN hal _⟩)
              | skip
          go_roundw
          case rel => exact ⟨j + 1 + 1, by omega, by go_num, hgs, below_drewN hal _⟩
          case measure => simp [intOf]; omega
      · go_wp2
        go_meet
        exact ⟨by rw [show l.length = k by omega]; exact hg, hbr⟩
  obtain ⟨hg, hbx⟩ := hcut
  have HG := Lib.hid (mayS_len hg)
  clear hg
  refine hK _ _ ?_; clear hK
  go_wp2
  go_returns
  exact ⟨ret_bool (by rw [HG.out]; first | (simp; done) | (simp; omega)), hbx⟩
end Go.Proofs.Ytkkoookmnnmiiaa

namespace Go.Proofs.Ytkkoookmnnmiiaa
open Go.RowKit

theorem quiet_add {P : Program} {f : FuncId} {args : Array Value} {w : World} {a n : Nat} {v : Value}
    (h : Calls P f args (w.drewN (a + n)) fun e w' => e = .returned v ∧ ∃ m, w' = (w.drewN (a + n)).drewN m) :
    Calls P f args (w.drewN (a + n)) fun e w'' => e = .returned v ∧ ∃ m, w'' = w.drewN (a + m) :=
  h.mono fun _ _ ⟨he, m, hm⟩ => ⟨he, n + m, by rw [hm, World.drewN_drewN, Nat.add_assoc]⟩
theorem pr_small {l : List Pr} (h : ∀ p ∈ l, p.1.size ≤ 100000) {i : Nat} {y : Pr} (hy : l[i]? = some y) : y.1.size ≤ 100000 := h y (List.mem_of_getElem? hy)

theorem mayS_long {l : List Pr} (h : ¬ l.length ≤ 8) : mayS l = false := by simp [mayS, h]
theorem good_key0 {l : List Pr} {k : Nat} {y : Pr} (hy : l[k]? = some y) (h : y.1.size = 0) : goodAt l k = false := by
  unfold goodAt
  rw [hy]
  simp [keyOk, h]
theorem good_key9 {l : List Pr} {k : Nat} {y : Pr} (hy : l[k]? = some y) (h : ¬ y.1.size ≤ 8) : goodAt l k = false := by
  unfold goodAt
  rw [hy]
  simp [keyOk, h]
theorem good_val {l : List Pr} {k : Nat} {y : Pr} (hy : l[k]? = some y) (h : ¬ y.2.size ≤ 16) : goodAt l k = false := by
  unfold goodAt
  rw [hy]
  simp [valOk, h]

set_option maxHeartbeats 4000000 in
theorem rmay_any (a : Option Addr) (cap : Nat) (l : List Pr) (w : World) (hr : Row w a (prs l)) (hl : l.length ≤ 1000) (hsm : ∀ p ∈ l, p.1.size ≤ 100000) :
    Calls Try.prog 64 #[.slice a l.length cap] w fun e w' => e = .returned (.bool (mayS l)) ∧ ∃ m, w' = w.drewN m := by
  by_cases h8 : l.length ≤ 8
  · go_enter Try.func64, Try.ntmps64
    refine wp_seq_k (fun K hK => ?_)
    have HK := Lib.hid hK
    clear hK
    go_wp2
    refine HK.out _ _ ?_
    clear HK
    refine wp_seq_k (fun K hK => ?_)
    have HK := Lib.hid hK
    clear hK
    go_wp2
    refine HK.out _ _ ?_
    clear HK
    refine wp_seq_k (fun K hK => ?_)
    go_cut [] (fun wx => goods l l.length = true ∧ ∃ m, wx = w.drewN m)
    case first =>
      go_wp2_with fail
      go_loopw [3] (fun i wr => ∃ k m : Nat, k ≤ l.length ∧ i = .int .i64 k ∧ goods l k = true ∧ wr = w.drewN m) (fun i _ => l.length - (intOf i).toNat)
      case atStart => exact ⟨0, 0, by omega, rfl, goods_zero l, rfl⟩
      case round =>
        obtain ⟨k, m, hk, rfl, hg, rfl⟩ := hrel
        by_cases hlt : k < l.length
        · obtain ⟨bb, off, rfl, hblt, hcs⟩ := hr.pair (List.getElem?_eq_getElem hlt)
          obtain ⟨c0, c1⟩ := hcs _ _ (List.getElem?_eq_getElem hlt)
          have hgs := goods_succ l k
          have hbad := Lib.hid (mayS_bad hlt)
          have g1 := Lib.hid (good_key0 (List.getElem?_eq_getElem hlt))
          have g2 := Lib.hid (good_key9 (List.getElem?_eq_getElem hlt))
          have g3 := Lib.hid (good_val (List.getElem?_eq_getElem hlt))
          have hys := pr_small hsm (List.getElem?_eq_getElem hlt)
          cases k with
          | zero =>
            have hgo := good_zero (List.getElem?_eq_getElem hlt)
            clear hcs
            generalize l[0] = y at *
            obtain ⟨y1, y2⟩ := y
            simp only [Nat.zero_mul, Nat.add_zero] at c0 c1
            simp only [keyOk, valOk] at hgo
            by_cases q1 : y1.size = 0
            · have q1' : ((y1.size : Int) == 0) = true := by simp [q1]
              have HB := Lib.hid (hbad.out (g1.out q1))
              clear q1 hgo hgs
              go_wp2
              go_ret
              exact ⟨ret_bool HB.out.symm, _, rfl⟩
            · have q1' : ((y1.size : Int) == 0) = false := by rw [beq_eq_false_iff_ne]; omega
              by_cases q2 : y1.size ≤ 8
              · by_cases q3 : y2.size ≤ 16
                · rw [decide_eq_true (show 1 ≤ y1.size by omega), decide_eq_true q2, decide_eq_true q3] at hgo
                  rw [hgo, hg] at hgs
                  clear hgo q1
                  go_wp2_with fail
                  go_quiet (fail)
                  go_wp2
                  go_roundw
                  case rel => exact ⟨1, _, by omega, rfl, hgs, rfl⟩
                  case measure => simp [intOf]; omega
                · have HB := Lib.hid (hbad.out (g3.out q3))
                  clear q1 hgo hgs
                  go_wp2
                  go_ret
                  exact ⟨ret_bool HB.out.symm, _, rfl⟩
              · have HB := Lib.hid (hbad.out (g2.out q2))
                clear q1 hgo hgs
                go_wp2
                go_ret
                exact ⟨ret_bool HB.out.symm, _, rfl⟩
          | succ j =>
            have hjl : j < l.length := by omega
            have hgo := good_succ (List.getElem?_eq_getElem hjl) (List.getElem?_eq_getElem hlt)
            have hxs := pr_small hsm (List.getElem?_eq_getElem hjl)
            obtain ⟨d0, d1⟩ := hcs _ _ (List.getElem?_eq_getElem hjl)
            clear hcs
            generalize l[j + 1] = y at *
            generalize l[j] = x at *
            obtain ⟨y1, y2⟩ := y
            obtain ⟨x1, x2⟩ := x
            simp only [keyOk, valOk] at hgo
            by_cases q1 : y1.size = 0
            · have q1' : ((y1.size : Int) == 0) = true := by simp [q1]
              have HB := Lib.hid (hbad.out (g1.out q1))
              clear q1 hgo hgs
              go_wp2
              go_ret
              exact ⟨ret_bool HB.out.symm, _, rfl⟩
            · have q1' : ((y1.size : Int) == 0) = false := by rw [beq_eq_false_iff_ne]; omega
              by_cases q2 : y1.size ≤ 8
              · by_cases q3 : y2.size ≤ 16
                · have hw1 : (0 : Int) ≤ (j : Int) := by omega
                  have hw2 : (j : Int) < (l.length : Int) := by omega
                  have hw3 : (0 : Int) ≤ (j : Int) + 1 := by omega
                  have hw4 : (j : Int) + 1 < (l.length : Int) := by omega
                  have hw5 : ((j : Int) + 1).toNat = j + 1 := by omega
                  have hw0 : IntKind.i64.wrap (j : Int) = (j : Int) := IntWalk.i64_in _ (by omega)
                  rw [decide_eq_true (show 1 ≤ y1.size by omega), decide_eq_true q2, decide_eq_true q3] at hgo
                  simp only [Bool.and_self, Bool.true_and] at hgo
                  cases h3 : kl x1 y1
                  · have HB := Lib.hid (hbad.out (hgo.trans h3))
                    clear q1 hgo hgs
                    go_wp2_with fail
                    go_quiet ((go_at_call 89; first | exact quiet_add (rless_any _ _ _ hxs hys) | exact Calls.quiet_of (rless_any _ _ _ hxs hys)))
                    go_wp2
                    go_ret
                    exact ⟨ret_bool HB.out.symm, m + nq, by rw [World.drewN_drewN]⟩
                  · rw [hgo, h3, hg] at hgs
                    clear hgo q1
                    go_wp2_with fail
                    go_quiet ((go_at_call 89; first | exact quiet_add (rless_any _ _ _ hxs hys) | exact Calls.quiet_of (rless_any _ _ _ hxs hys)))
                    go_wp2
                    go_roundw
                    case rel => exact ⟨j + 1 + 1, _, by omega, by go_num, hgs, rfl⟩
                    case measure => simp [intOf]; omega
                · have HB := Lib.hid (hbad.out (g3.out q3))
                  clear q1 hgo hgs
                  go_wp2
                  go_ret
                  exact ⟨ret_bool HB.out.symm, _, rfl⟩
              · have HB := Lib.hid (hbad.out (g2.out q2))
                clear q1 hgo hgs
                go_wp2
                go_ret
                exact ⟨ret_bool HB.out.symm, _, rfl⟩
        · go_wp2
          go_meet
          exact ⟨by rw [show l.length = k by omega]; exact hg, _, rfl⟩
    obtain ⟨hg, m, rfl⟩ := hcut
    have HB : Hid (mayS l = true) := Lib.hid (by rw [mayS_len hg]; exact decide_eq_true h8)
    clear hg
    refine hK _ _ ?_; clear hK
    go_wp2
    go_ret
    exact ⟨ret_bool HB.out.symm, _, rfl⟩
  · have HB := Lib.hid (mayS_long h8)
    go_enter Try.func64, Try.ntmps64
    go_wp2
    go_ret
    exact ⟨ret_bool HB.out.symm, 0, rfl⟩

set_option maxRecDepth 100000 in
theorem rcopy_any (a : Option Addr) (cap : Nat) (l : List Pr) (w : World) (hs : SlP w a cap l) (hl : l.length ≤ 1000) :
    Calls Try.prog 66 #[.slice a l.length cap] w fun e w' => OwnPrs w.heap.size l e w' ∧ Below w.heap.size w w' := by
  have hr := hs.row
  have hmx := hs.max
  have hle := hs.le
  unfold maxLen at hmx
  go_enter Try.func66, Try.ntmps66
  go_wp2_with (at_builtin; refine wpList_append_row rfl _ _ 48 81 elPair rfl w.heap.size _ _ _ rfl (World.ownsRow_nil _ _ _ _) _ _ _ _ rfl (by rw [prs_len]; omega) hr prs_one (by omega) (by omega) (by omega) ?_; intro v5 w5 hown5 hb5)
  go_ret
  exact ⟨⟨_, rfl, by simpa using hown5⟩, hb5⟩
end Go.Proofs.Ytkkoookmnnmiiaa

namespace Go.Proofs.Ytkkoookmnnmiiaa

structure Rw where
  seq : Int
  rep : Rp
structure Tb where
  r0 : Rw
  r1 : Rw
  r2 : Rw
  r3 : Rw
/-- An image but for its state's place in memory. -/
structure Im where
  idx : Int
  st : List Pr
  tb : Tb

def zeroR : Rp := ⟨0, false, ⟨#[]⟩⟩
def zeroB (r : Rp) : Bool := r.err == 0 && r.found == false && r.val.toList == []
def badR (r : Rp) : Bool := decide (r.err < 0) || decide (999 < r.err) || decide (16 < r.val.size)
def oddR (r : Rw) : Bool := if r.seq = 0 then !zeroB r.rep else decide (r.seq < 0) || decide (big40 < r.seq) || badR r.rep
def mayT (t : Tb) : Bool := !oddR t.r0 && !oddR t.r1 && !oddR t.r2 && !oddR t.r3
def Tb.at (t : Tb) (c : Int) : Rw := if c = 0 then t.r0 else if c = 1 then t.r1 else if c = 2 then t.r2 else t.r3
def Tb.put (t : Tb) (c : Int) (r : Rw) : Tb := if c = 0 then { t with r0 := r } else if c = 1 then { t with r1 := r } else if c = 2 then { t with r2 := r } else { t with r3 := r }
def mayI (m : Im) : Bool := decide (0 ≤ m.idx) && decide (m.idx ≤ big40) && mayS m.st && mayT m.tb
def zeroT : Tb := ⟨⟨0, zeroR⟩, ⟨0, zeroR⟩, ⟨0, zeroR⟩, ⟨0, zeroR⟩⟩
def zeroI : Im := ⟨0, [], zeroT⟩

/-- An entry, applied: the image, the reply, the error. -/
def applyP (m : Im) (index : Int) (e : En) : Im × Rp × Int :=
  if mayI m = false ∨ mayE e = false ∨ m.idx = big40 ∨ index ≠ m.idx + 1 then (zeroI, zeroR, 2)
  else if e.kind = 1 then ({ m with idx := index }, zeroR, 0)
  else
    let last := m.tb.at e.cli
    if e.seq < last.seq then ({ m with idx := index }, ⟨220, false, ⟨#[]⟩⟩, 0)
    else if e.seq = last.seq then ({ m with idx := index }, last.rep, 0)
    else
      let d := doP m.st e.op
      (⟨index, d.1, m.tb.put e.cli ⟨e.seq, d.2⟩⟩, d.2, 0)

theorem zeroB_bad {r : Rp} (h : zeroB r = true) : badR r = false := by
  obtain ⟨er, fo, va⟩ := r
  unfold zeroB at h
  simp only [Bool.and_eq_true, beq_iff_eq] at h
  obtain ⟨⟨h1, h2⟩, h3⟩ := h
  subst h1 h2
  unfold badR
  have hz : va.size = 0 := by
    have := tx_len va
    rw [h3] at this
    simpa using this.symm
  simp [hz]
/-- The reference's way of asking a row. -/
def oddRef (r : Rw) : Bool := decide (r.seq < 0) || decide (big40 < r.seq) || badR r.rep || (r.seq == 0 && !zeroB r.rep)
theorem odd_eq (r : Rw) : oddRef r = oddR r := by
  unfold oddRef oddR
  by_cases h : r.seq = 0
  · rw [if_pos h]
    have h1 : decide (r.seq < 0) = false := decide_eq_false (by omega)
    have h2 : decide (big40 < r.seq) = false := decide_eq_false (by rw [h]; decide)
    have h3 : (r.seq == 0) = true := by simpa using h
    rw [h1, h2, h3]
    cases hz : zeroB r.rep with
    | true => rw [zeroB_bad hz]; rfl
    | false => simp
  · rw [if_neg h]
    have h3 : (r.seq == 0) = false := by simpa using h
    rw [h3]
    simp

theorem was_val {l : List Pr} (h : mayS l = true) (k : Tx) : (wasR l k).val.size ≤ 16 := by
  rw [wasR_eq]
  cases hl : look l k with
  | none => exact Nat.zero_le _
  | some v =>
    unfold look at hl
    obtain ⟨p, hp, rfl⟩ := Option.map_eq_some_iff.1 hl
    have hm := List.mem_of_mem_head? hp
    unfold mid at hm
    have hv := ((may_spec h).2.2 p (List.mem_filter.1 hm).1).2
    unfold valOk at hv
    simpa [rpOf] using hv
theorem doP_val {l : List Pr} {o : Opn} (h : mayS l = true) : (doP l o).2.val.size ≤ 16 := by
  have hw := was_val h o.key
  cases ho : mayO o with
  | false => rw [doP_bad h ho]; exact Nat.zero_le _
  | true =>
    rw [doP_ok h ho]
    split
    · exact hw
    · split
      · split
        · exact Nat.zero_le _
        · exact hw
      · split
        · exact hw
        · split
          · exact hw
          · exact hw
/-- A reply that an operation may come to can be kept. -/
theorem doP_bad_no {l : List Pr} {o : Opn} (h : mayS l = true) : badR (doP l o).2 = false := by
  have hv := doP_val (o := o) h
  have he := doP_err (o := o) h
  unfold badR
  rw [Bool.or_eq_false_iff, Bool.or_eq_false_iff, decide_eq_false_iff_not, decide_eq_false_iff_not, decide_eq_false_iff_not]
  rcases he with he | he | he <;> rw [he] <;> exact ⟨⟨by decide, by decide⟩, by omega⟩
end Go.Proofs.Ytkkoookmnnmiiaa

