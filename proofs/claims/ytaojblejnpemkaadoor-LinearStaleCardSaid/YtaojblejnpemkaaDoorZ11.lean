/- Texts that the claim leans on, part 11: M2, M15. -/
import Derived.Test.YtaojblejnpemkaaDoorZ1
import Derived.Test.YtaojblejnpemkaaDoorZ2
import Derived.Test.YtaojblejnpemkaaDoorZ3
import Derived.Test.YtaojblejnpemkaaDoorZ4
import Derived.Test.YtaojblejnpemkaaDoorZ5
import Derived.Test.YtaojblejnpemkaaDoorZ6
import Derived.Test.YtaojblejnpemkaaDoorZ7
import Derived.Test.YtaojblejnpemkaaDoorZ8
import Derived.Test.YtaojblejnpemkaaDoorZ9
import Derived.Test.YtaojblejnpemkaaDoorZ10
import Derived.Test.YtaojblejnpemkaaDoorRows
import Derived.WalkKit
import Derived.WalkSpells
import Derived.WalkLawsBesides
import Derived.Handy
import Derived.Deep.QuietTactic
import Derived.BigQuiet
import Derived.Deep.DeepCutAuto
import Derived.Lib.Hide
import Derived.RegionTactic
import Derived.ChangeAlike
import Derived.Laws.ResultCell
import Derived.Outline
import Derived.IntWalk
import Derived.ChangeSlices
import Derived.ProofKit
import Derived.Deep.Slices
import Derived.Deep.Strs
import Derived.Lib.SmallJoins
import Derived.Lib.LaidU8
import Derived.Lib.LaidPrint
import Derived.PinnedBridge
import Derived.Test.YtaojblejnpemkaaDoorTie
import Derived.Test.YtaojblejnpemkaaDoorCards
import Derived.ChangeMaps5
import Derived.Lay
import Derived.SevenTiedAt
import Derived.LoopN
import Derived.Shelf.Strconv.Quote
import Derived.Shelf.Strings.BuilderK
import Derived.Shelf.Strings.BuilderF
import Derived.Lib.QuoteLoop
import Derived.Lib.MapLaws
import Derived.Laws.BytesArg
import Derived.Maps.OwnSet
import Derived.Maps.Keyed
import Derived.WideKeyEntry
import Derived.DeepKeys4
import Derived.Laws.BitsAllLaws
import Derived.Laws.Shifts
import Derived.Laws.Rows
import Derived.Deep.Quiet
import Derived.Deep.RegionHeld3
import Derived.Laws.EntriesVeiled
import Derived.StillTailTactics
import Derived.Deep.RegionWith
import Derived.Lib.Overlaps
import Derived.OpenShut
import Derived.Laws.Strings
import Derived.Laws.CopyOwn
import Derived.Laws.CopyRow
import Derived.Laws.NewBlocks
import Derived.Deep.RegionLaw
namespace Go.Proofs.YtaojblejnpemkaaDoor
structure OneT (l : List Dn) (m : List Cl) : Prop where
  len : m.length = l.length
  st : ∀ k, k < l.length → (clN m k).st = 10 * (k : Int) + 1
  en : ∀ k, k < l.length → (clN m k).en = 10 * (k : Int) + 5
  op : ∀ k, k < l.length → (clN m k).op = (dnN l k).op
  cli : ∀ k, k < l.length → 0 ≤ (clN m k).cli ∧ (clN m k).cli < 4
section
variable {l : List Dn} {m : List Cl}
theorem one_on (h : OneT l m) {k j : Nat} (hj : j < l.length) (ho : onB (10 * (k : Int) + 1) (clN m j) = true) : j = k := by
  unfold onB at ho
  rw [h.st j hj, h.en j hj] at ho
  simp only [Bool.and_eq_true, Bool.or_eq_true, decide_eq_true_eq, beq_iff_eq] at ho
  omega
theorem as_range (m : List Cl) : m = (List.range m.length).map (clN m) := by
  refine List.ext_getElem? fun i => ?_
  by_cases h : i < m.length
  · rw [List.getElem?_map, List.getElem?_range h, Option.map_some]
    unfold clN
    rw [List.getD_eq_getElem?_getD, List.getElem?_eq_getElem h]
    rfl
  · rw [List.getElem?_eq_none (by omega), List.getElem?_eq_none (by simp; omega)]
theorem count_one (n k : Nat) : (List.range n).countP (fun j => j == k) ≤ 1 := by
  induction n with
  | zero => simp
  | succ n ih =>
    rw [List.range_succ, List.countP_append, List.countP_singleton]
    by_cases h : n = k
    · subst h
      have : (List.range n).countP (fun j => j == n) = 0 := by
        rw [List.countP_eq_zero]
        intro j hj
        have := List.mem_range.1 hj
        rw [beq_iff_eq]
        omega
      rw [this]
      split <;> omega
    · rw [show (n == k) = false by rw [beq_eq_false_iff_ne]; exact h]
      simpa using ih
theorem count_imp {n : Nat} {p : Nat → Bool} (k : Nat) (h : ∀ j, j < n → p j = true → j = k) : (List.range n).countP p ≤ 1 := by
  refine Nat.le_trans (List.countP_mono_left fun j hj hp => ?_) (count_one n k)
  rw [beq_iff_eq]
  exact h j (List.mem_range.1 hj) hp
theorem one_wide (h : OneT l m) {k : Nat} (hk : k < l.length) : wideP m (clN m k).st ≤ 1 := by
  unfold wideP
  rw [h.st k hk]
  generalize hp : onB (10 * (k : Int) + 1) = p
  rw [as_range m, List.countP_map, h.len]
  refine count_imp k fun j hj hq => one_on h hj ?_
  rw [hp]
  exact hq
theorem one_most (h : OneT l m) : mostP m m ≤ 12 := by
  by_cases hb : mostP m m ≤ 12
  · exact hb
  · exfalso
    have h1 : decide (12 < mostP m m) = true := decide_eq_true (by omega)
    rw [mostP_gt, List.any_eq_true] at h1
    obtain ⟨c, hc, h2⟩ := h1
    obtain ⟨k, hk, rfl⟩ := mem_clN hc
    have := one_wide h (by rw [← h.len]; exact hk)
    rw [decide_eq_true_eq] at h2
    omega
theorem one_pend (h : OneT l m) : pendP m = 0 := by
  unfold pendP
  rw [List.countP_eq_zero]
  intro c hc
  obtain ⟨k, hk, rfl⟩ := mem_clN hc
  rw [h.en k (by rw [← h.len]; exact hk), beq_iff_eq]
  omega
theorem one_chk (h : OneT l m) (hok : OkDn l) (h40 : l.length ≤ 40) : chk m = 0 := by
  refine chk_ok (by rw [h.len]; exact h40) (by rw [one_pend h]; omega) (one_most h) fun c hc => ?_
  obtain ⟨k, hk, rfl⟩ := mem_clN hc
  rw [h.len] at hk
  unfold mayC
  rw [h.op k hk, (okdn_at hok hk).1, h.st k hk, h.en k hk]
  have := h.cli k hk
  simp only [Bool.and_eq_true, Bool.or_eq_true, decide_eq_true_eq]
  exact ⟨⟨⟨⟨this.1, this.2⟩, trivial⟩, by omega⟩, .inr (by omega)⟩
theorem one_first (h : OneT l m) {s i j : Nat} (hi : i < l.length) (hj : j < l.length) (hf : firstOk m s i = true) (hb : s.testBit j = false) : i ≤ j := by
  have := first_iff.1 hf j (by rw [h.len]; exact hj) hb (by rw [h.en j hj]; omega)
  rw [h.st i hi, h.en j hj] at this
  omega
theorem one_cand (h : OneT l m) (s : Nat) : candM m s ≤ 1 := by
  unfold candM
  rw [h.len]
  by_cases hx : ∃ k, k < l.length ∧ s.testBit k = false ∧ firstOk m s k = true
  · obtain ⟨k, hk, hb, hf⟩ := hx
    refine count_imp k fun j hj hp => ?_
    rw [Bool.and_eq_true, Bool.not_eq_true'] at hp
    have h1 := one_first h hk hj hf hp.1
    have h2 := one_first h hj hk hp.2 hb
    omega
  · refine count_imp 0 fun j hj hp => ?_
    rw [Bool.and_eq_true, Bool.not_eq_true'] at hp
    exact absurd ⟨j, hj, hp.1, hp.2⟩ hx
theorem one_grow (h : OneT l m) : Grow m (fun j => j + 1) := by
  refine ⟨fun j => by omega, fun s hs => ?_⟩
  have h1 := left_und hs
  have h2 := one_cand h s
  have : candM m s * (undM m s - 1 + 1) ≤ 1 * (undM m s - 1 + 1) := Nat.mul_le_mul_right _ h2
  show 1 + candM m s * (undM m s - 1 + 1) ≤ undM m s + 1
  omega
theorem one_holds (h : OneT l m) (hok : OkDn l) (h40 : l.length ≤ 40) (hr : ∀ k, k < l.length → (clN m k).rep = (doP (sH l k) (dnN l k).op).2) : ∃ r, holdsP m r = true := by
  refine ⟨ownQ l.length, Seq1.holds (τ := fun k => 10 * (k : Int) + 1) ⟨fun i j h => by omega, fun i hi => ?_, ownQ_nodup _, fun i hi => ownQ_mem.2 (by have := h.len; omega), fun k i hk => ?_, fun k i hk => ?_⟩ (one_chk h hok h40)⟩
  · have := ownQ_mem.1 hi
    unfold inR
    rw [h.len]
    simp; omega
  · obtain ⟨rfl, hlt⟩ := ownQ_at hk
    rw [clA_nat, h.st k hlt]
    exact Int.le_refl _
  · obtain ⟨rfl, hlt⟩ := ownQ_at hk
    rw [clA_nat, ownQ_take (by omega), sH_stA h.op k (by omega), h.op k hlt, hr k hlt, h.en k hlt]
    exact .inr ⟨by omega, rpEq_refl _⟩
theorem mask_succ (k : Nat) : (2 ^ k - 1) ||| 2 ^ k = 2 ^ (k + 1) - 1 := by
  refine Nat.eq_of_testBit_eq fun j => ?_
  rw [mbit_or, Nat.testBit_two_pow_sub_one, Nat.testBit_two_pow_sub_one]
  by_cases h : j < k
  · rw [decide_eq_true h, decide_eq_true (show j < k + 1 by omega)]; rfl
  · rw [decide_eq_false h, Bool.false_or]
    by_cases h2 : k = j
    · rw [decide_eq_true h2, decide_eq_true (show j < k + 1 by omega)]
    · rw [decide_eq_false h2, decide_eq_false (show ¬ j < k + 1 by omega)]
theorem one_dead (h : OneT l m) {a : Nat} (ha : a < l.length) (hbad : rpEq (doP (sH l a) (dnN l a).op).2 (clN m a).rep = false) : ∀ (d k : Nat), k + d = a → Dead m (2 ^ k - 1) (sH l k)
  | d, k, hk => by
    have hkl : k < l.length := by omega
    have hbk : (2 ^ k - 1).testBit k = false := by rw [Nat.testBit_two_pow_sub_one, decide_eq_false (by omega)]
    refine dead_step (left_iff.2 ⟨k, by rw [h.len]; exact hkl, hbk, by rw [h.en k hkl]; omega⟩) fun i hi hb hf hr => ?_
    rw [h.len] at hi
    have h1 := one_first h hi hkl hf hbk
    have h2 : ¬ i < k := by
      intro h3
      rw [Nat.testBit_two_pow_sub_one, decide_eq_true h3] at hb
      cases hb
    obtain rfl : i = k := by omega
    rw [h.op i hi, mask_succ]
    match d with
    | 0 =>
      obtain rfl : i = a := by omega
      unfold repOk at hr
      rw [h.en i hi, decide_eq_true (by omega), h.op i hi, hbad] at hr
      cases hr
    | d + 1 => exact one_dead h ha hbad d (i + 1) (by omega)
theorem one_none (h : OneT l m) {a : Nat} (ha : a < l.length) (hbad : rpEq (doP (sH l a) (dnN l a).op).2 (clN m a).rep = false) : ¬ ∃ r, holdsP m r = true := by
  rintro ⟨r, h1⟩
  by_cases hc : chk m = 0
  · obtain ⟨r', h'⟩ := ord_exists hc h1
    exact one_dead h ha hbad a 0 (by omega) r' h'
  · rw [holdsP_bad hc] at h1
    cases h1
end
def oneAt (l : List Dn) (k : Nat) : Cl := { hAt l k with rep := (doP (sH l k) (dnN l k).op).2, st := 10 * (k : Int) + 1, en := 10 * (k : Int) + 5 }
def oneN (l : List Dn) (k : Nat) : List Cl := (List.range l.length).map fun j => if j < k then oneAt l j else hAt l j
def oddL (l : List Dn) (a : Nat) (r : Rp) : List Cl := (oneN l l.length).set a { oneAt l a with rep := r }
theorem oneN_zero (l : List Dn) : oneN l 0 = hist l := by
  unfold oneN hist histN
  exact List.map_congr_left fun j _ => by rw [if_neg (by omega)]
theorem oneN_len (l : List Dn) (k : Nat) : (oneN l k).length = l.length := by unfold oneN; simp
theorem oneN_at {l : List Dn} {k j : Nat} (h : j < l.length) : (oneN l k)[j]? = some (if j < k then oneAt l j else hAt l j) := by unfold oneN; simp [h]
theorem oneN_clN {l : List Dn} {k j : Nat} (h : j < l.length) : clN (oneN l k) j = if j < k then oneAt l j else hAt l j := by unfold clN; rw [List.getD_eq_getElem?_getD, oneN_at h]; rfl
theorem oneN_succ {l : List Dn} {k : Nat} (h : k < l.length) : oneN l (k + 1) = (oneN l k).set k (oneAt l k) := by
  refine List.ext_getElem? fun i => ?_
  rw [List.getElem?_set, oneN_len]
  by_cases hi : i < l.length
  · rw [oneN_at hi, oneN_at hi]
    by_cases hk : k = i
    · subst hk
      rw [if_pos (by omega), if_pos rfl, if_pos hi]
    · rw [if_neg hk]
      by_cases h2 : i < k
      · rw [if_pos h2, if_pos (by omega)]
      · rw [if_neg h2, if_neg (by omega)]
  · rw [List.getElem?_eq_none (by rw [oneN_len]; omega), List.getElem?_eq_none (by rw [oneN_len]; omega), if_neg (by omega)]
theorem hAt_cli (l : List Dn) (k : Nat) : 0 ≤ (hAt l k).cli ∧ (hAt l k).cli < 4 := by unfold hAt; simp only; omega
theorem oneN_t (l : List Dn) : OneT l (oneN l l.length) := by
  refine ⟨oneN_len _ _, fun k hk => ?_, fun k hk => ?_, fun k hk => ?_, fun k hk => ?_⟩ <;> rw [oneN_clN hk, if_pos hk]
  · rfl
  · rfl
  · rfl
  · exact hAt_cli l k
theorem oddL_clN {l : List Dn} {a : Nat} {r : Rp} {k : Nat} (hk : k < l.length) : clN (oddL l a r) k = if a = k then { oneAt l a with rep := r } else oneAt l k := by
  unfold clN oddL
  rw [List.getD_eq_getElem?_getD, List.getElem?_set, oneN_len]
  split
  · rename_i h; subst h; rw [if_pos hk]; rfl
  · rw [oneN_at hk, if_pos hk]; rfl
theorem oddL_t (l : List Dn) (a : Nat) (r : Rp) : OneT l (oddL l a r) := by
  refine ⟨by unfold oddL; rw [List.length_set, oneN_len], fun k hk => ?_, fun k hk => ?_, fun k hk => ?_, fun k hk => ?_⟩ <;> rw [oddL_clN hk] <;> split
  · rename_i h; subst h; rfl
  · rfl
  · rename_i h; subst h; rfl
  · rfl
  · rename_i h; subst h; rfl
  · rfl
  · rename_i h; subst h; exact hAt_cli l a
  · exact hAt_cli l k
theorem oneL_yes {l : List Dn} (hok : OkDn l) (h40 : l.length ≤ 40) : ∃ r, holdsP (oneN l l.length) r = true :=
  one_holds (oneN_t l) hok h40 fun k hk => by rw [oneN_clN hk, if_pos hk]; rfl
theorem rpEq_iff {a b : Rp} : rpEq a b = true ↔ a = b := by
  unfold rpEq
  rw [Bool.and_eq_true, Bool.and_eq_true, beq_iff_eq, beq_iff_eq, beq_iff_eq]
  obtain ⟨a1, a2, ⟨⟨a3⟩⟩⟩ := a
  obtain ⟨b1, b2, ⟨⟨b3⟩⟩⟩ := b
  constructor
  · rintro ⟨⟨h1, h2⟩, h3⟩
    simp only at h1 h2
    subst h1 h2
    have : a3 = b3 := by simpa [ByteArray.toList_eq] using h3
    rw [this]
  · intro h
    rw [h]
    exact ⟨⟨rfl, rfl⟩, rfl⟩
theorem odd_iff {l : List Dn} (hok : OkDn l) (h40 : l.length ≤ 40) {a : Nat} (ha : a < l.length) (r : Rp) : (∃ q, holdsP (oddL l a r) q = true) ↔ rpEq (oneAt l a).rep r = true := by
  constructor
  · intro h
    cases hb : rpEq (oneAt l a).rep r
    · refine absurd h (one_none (oddL_t l a r) ha ?_)
      rw [oddL_clN ha, if_pos rfl]
      exact hb
    · rfl
  · intro h
    refine one_holds (oddL_t l a r) hok h40 fun k hk => ?_
    rw [oddL_clN hk]
    split
    · rename_i h2; subst h2
      exact (rpEq_iff.1 h).symm
    · rfl
end Go.Proofs.YtaojblejnpemkaaDoor
namespace Go.Proofs.YtaojblejnpemkaaDoor
open Go.RowKit Go.Maps
theorem orders_one {T : Lib.PrintTabs} {l : List Dn} {m : List Cl} {w : World} {a : Option Addr} {cap : Nat} (hT : Tabs T w) (hs : SlC w a cap m) (h : OneT l m) (hl : l.length ≤ 40) (b : Bool) (hb : (∃ r, holdsP m r = true) ↔ b = true) :
    Calls Tryd.prog 18 #[.slice a m.length cap] w fun e w' => e = .returned (.bool b) ∧ Below w.heap.size w w' := by
  refine (orders_any hT hs (one_grow h) (by have := h.len; show m.length + 1 ≤ _; omega)).mono fun e w' h1 => ?_
  obtain ⟨⟨b', rfl, hf⟩, hb1⟩ := h1
  exact ⟨by rw [bool_iff hf hb], hb1⟩
theorem u64_small {n : Nat} (hn : n ≤ 1000000) : IntKind.u64.wrap (n : Int) = (n : Int) := by
  have h : IntKind.u64.wrap (n : Int) = (n : Int) % 18446744073709551616 := by unfold IntKind.wrap; rfl
  rw [h]
  omega
theorem rp_ifs (r : Rp) (found : Bool) (value : Tx) (wS : World) : (if r.err = 0 then (if r.found = found then (if ByteArray.toList r.val = ByteArray.toList value then Result.ok (Next.value (Value.bool true)) wS else Result.ok (Next.value (Value.bool false)) wS) else Result.ok (Next.value (Value.bool false)) wS) else Result.ok (Next.value (Value.bool false)) wS) = Result.ok (Next.value (Value.bool (rpEq r ⟨0, found, value⟩))) wS := by
  unfold rpEq
  by_cases e1 : r.err = 0 <;> by_cases e2 : r.found = found <;> by_cases e3 : r.val.toList = value.toList <;> simp [e1, e2, e3]
section
variable {T : Lib.PrintTabs}
set_option maxRecDepth 100000 in
set_option maxHeartbeats 4000000 in
theorem one_law (a : Option Addr) (cap : Nat) (l : List Dn) (at' : Int) (found : Bool) (value : Tx) (hb : ∀ y ∈ l, okB y) (w : World) (hs : SlD w a cap l) (hT : Tabs T w) :
    Calls Tryd.prog 4 #[.slice a l.length cap, .int .i64 at', .bool found, .string value] w fun e w' => e = .returned (.bool true) ∧ Below w.heap.size w w' := by
  have HB := Lib.hid hb
  clear hb
  go_enter Tryd.func4, Tryd.ntmps4
  refine wp_seq_k (fun K hK => ?_)
  have HK := Lib.hid hK
  clear hK
  go_wp2
  refine HK.out _ _ ?_
  clear HK
  refine wp_seq_k (fun K hK => ?_)
  have HK := Lib.hid hK
  clear hK
  go_wp2_with (go_at_call 14; refine (awake_any hT).mono ?_; rintro e w1 ⟨rfl, hA1⟩)
  refine HK.out _ _ ?_
  clear HK
  have hs1 := hs.below hA1.bel
  obtain ⟨gb, hg⟩ : ∃ gb, greatP l 40 = gb := ⟨_, rfl⟩
  have HG := Lib.hid hg
  by_cases hgo : gb = false ∧ 0 < l.length ∧ value.size ≤ 20
  case neg =>
    cases gb
    case true =>
      clear hg hgo
      go_wp2_with (go_at_call 15; refine (great_any a cap l 40 (by decide) w1 hs1).mono ?_; rintro e w2 ⟨rfl, hb2⟩; rw [HG.out])
      go_ret
      exact ⟨rfl, hA1.bel.trans (hb2.mono hA1.bel.size)⟩
    case false =>
      have hx : l.length = 0 ∨ (0 < l.length ∧ 20 < value.size) := by
        by_cases h1 : l.length = 0
        · exact .inl h1
        · refine .inr ⟨by omega, ?_⟩
          have : ¬ (0 < l.length ∧ value.size ≤ 20) := fun h => hgo ⟨rfl, h⟩
          omega
      clear hg hgo
      go_wp2_with (go_at_call 15; refine (great_any a cap l 40 (by decide) w1 hs1).mono ?_; rintro e w2 ⟨rfl, hb2⟩; rw [HG.out])
      all_goals
        first
        | (go_ret
           exact ⟨rfl, hA1.bel.trans (hb2.mono hA1.bel.size)⟩)
        | (exfalso; simp at *; omega)
  case pos =>
    obtain ⟨rfl, hl0, hv20⟩ := hgo
    obtain ⟨hl, hok⟩ := greatP_no hg HB.out
    have HOK := Lib.hid hok
    clear hg hok
    refine wp_seq_k (fun K hK => ?_)
    have HK := Lib.hid hK
    clear hK
    go_wp2_with (go_at_call 15; refine (great_any a cap l 40 (by decide) w1 hs1).mono ?_; rintro e w2 ⟨rfl, hb2⟩; rw [HG.out])
    refine HK.out _ _ ?_
    clear HK
    have hA2 := hA1.below hb2
    have hs2 := hs1.below hb2
    refine wp_seq_k (fun K hK => ?_)
    have HK := Lib.hid hK
    clear hK
    go_wp2_with (go_at_call 16; refine (history_any a cap l (by omega) HOK.out w2 hs2).mono ?_; rintro e w3 ⟨⟨v, rfl, hO⟩, hb3⟩)
    refine HK.out _ _ ?_
    clear HK
    obtain ⟨g, hcap, rfl, hgB⟩ := own_form hO hl0
    have hH : HRow w3 w2.heap.size g hcap l.length (oneN l 0) := by rw [oneN_zero]; exact hO
    have hg3 : g < w3.heap.size := by
      obtain ⟨cs, hN, _⟩ := hrow_block hH
      exact lt_blk hN
    have hg23 := hb3.size
    clear hO hs hs1 hs2 hb2 hA1
    refine wp_seq_k (fun K hK => ?_)
    have HK := Lib.hid hK
    clear hK
    go_wp2
    refine HK.out _ _ ?_
    clear HK
    refine wp_seq_k (fun K hK => ?_)
    go_cut [10] (fun s wr => HRow wr w2.heap.size g hcap l.length (oneN l l.length) ∧ Below w2.heap.size w2 wr)
    case first =>
      go_wp2
      go_loopw [10, 11] (fun s i wr => ∃ k : Nat, k ≤ l.length ∧ i = .int .i64 k ∧ HRow wr w2.heap.size g hcap l.length (oneN l k) ∧ Below w2.heap.size w2 wr ∧ g < wr.heap.size ∧ wr.ownsRow w2.heap.size 72 2 s (sH l k).length (prs (sH l k))) (fun _ i _ => l.length - (intOf i).toNat)
      case atStart => exact ⟨0, by omega, rfl, hH, hb3, hg3, World.ownsRow_nil _ _ _ _⟩
      case round =>
        clear hH hg3 hb3 hg23
        obtain ⟨k, hk, rfl, hH, hb3, hg3, hS⟩ := hrel
        by_cases hlt : k < l.length
        · have hbs3 := hb3.size
          have hkk : (oneN l k)[k]? = some (hAt l k) := by rw [oneN_at hlt, if_neg (Nat.lt_irrefl k)]
          have hs1 := sH_succ l k
          have hn1 := oneN_succ hlt
          have hop : (hAt l k).op = (dnN l k).op := by rw [hAt_eq]
          obtain ⟨c, hc⟩ : ∃ c, hAt l k = c := ⟨_, rfl⟩
          rw [hc] at hkk hop
          rw [← hop] at hs1
          have HS1 := Lib.hid hs1
          have HN1 := Lib.hid hn1
          have HC := Lib.hid hc
          have HOP := Lib.hid hop
          obtain ⟨cs, hN, hcs⟩ := hrow_block hH
          have hz1 : k * 10 + 8 + 1 ≤ cs.size := by omega
          have hz2 : k * 10 + 9 + 1 ≤ cs.size := by omega
          clear hs1 hn1 hc hop
          refine wp_seq_k (fun K hK => ?_)
          have HK := Lib.hid hK
          clear hK
          go_wp2
          refine HK.out _ _ ?_
          clear HK
          refine wp_seq_k (fun K hK => ?_)
          have HK2 := Lib.hid hK
          clear hK
          refine wp_block ?_
          refine wp_seq_k (fun K hK => ?_)
          have HK := Lib.hid hK
          clear hK
          go_wp2_with (first
                      | ((first | (with_reducible refine wpList_stB 3 _ _ ?_) | (with_reducible refine wp_stB 3 _ _ ?_)); refine ⟨_, _, _, ⟨_, _, _, Tryd.sizeOf3, rfl, ‹_›, int_st (10 * (k : Int) + 1) hz1⟩, ?_⟩; intro w5 N5 g5; have hz6 : k * 10 + 9 + 1 ≤ (spl cs (k * 10 + 8) [.int .i64 (10 * (k : Int) + 1)]).size := (spl_size (cs := cs) (vs := [.int .i64 (10 * (k : Int) + 1)]) hz1).symm ▸ hz2; have H5 := hrow_spl hH hN hkk (c' := { c with st := 10 * (k : Int) + 1 }) N5 (by show 8 + 1 ≤ 10; decide) rfl; have S5 := owns_ne hS g5 hN (by decide); clear hN hz1 hz2)
                      | ((with_reducible refine wpList_stB 3 _ _ ?_); refine ⟨_, _, _, ⟨_, _, _, Tryd.sizeOf3, rfl, N5, int_st (10 * (k : Int) + 5) hz6⟩, ?_⟩; intro w6 N6 g6))
          refine HK.out _ _ ?_
          clear HK
          have H6 := hrow_spl H5 N5 (set_atM (by rw [oneN_len]; exact hlt) _) (c' := { c with st := 10 * (k : Int) + 1, en := 10 * (k : Int) + 5 }) N6 (by show 9 + 1 ≤ 10; decide) rfl
          rw [List.set_set] at H6
          obtain ⟨c2, hc2⟩ : ∃ c2 : Cl, { c with st := 10 * (k : Int) + 1, en := 10 * (k : Int) + 5 } = c2 := ⟨_, rfl⟩
          have hc2o : c2.op = c.op := by rw [← hc2]
          rw [hc2] at H6
          have HC2 := Lib.hid hc2
          have hkk6 := set_atM (m := oneN l k) (by rw [oneN_len]; exact hlt) c2
          have S6 := owns_ne S5 g6 N5 (by decide)
          have hb6 := bl_st (bl_st hb3 g5 hbs3 hgB) g6 (Nat.le_trans hbs3 g5.size) hgB
          have hg6 : g < w6.heap.size := lt_blk N6
          have hopL : ∀ (j : Nat) u, (#[Value.int .u8 c2.op.kind, .string c2.op.key, .string c2.op.old, .string c2.op.val] : Array Value)[j]? = some u → w6.cell? ⟨g, k * 10 + 1 + j, none⟩ = some u := fun j u h => by
            rw [Nat.add_assoc]
            refine hrow_cell H6 hkk6 (1 + j) u ?_
            rw [Nat.add_comm]
            match j, h with
            | 0, h => exact h
            | 1, h => exact h
            | 2, h => exact h
            | 3, h => exact h
          obtain ⟨⟨s2, r⟩, hd⟩ : ∃ z, doP (sH l k) c2.op = z := ⟨_, rfl⟩
          obtain ⟨sa, scap, rfl, hsl6⟩ := SlP.of_owns S6
          have h8 := (may_spec (sH_may l k)).1
          have hdo := do_ownL sa scap (sH l k) c2.op w6 hsl6 (by omega) s2 r hd
          have HD := Lib.hid (show doP (sH l k) c.op = (s2, r) by rw [← hc2o]; exact hd)
          have hb66 := hb6.size
          clear hd hsl6 S6 S5 N5 N6 g5 g6 H5 hz6 hc2o hS hH
          refine wp_seq_k (fun K hK => ?_)
          have HK := Lib.hid hK
          clear hK
          go_wp2_with (first
                      | ((with_reducible refine wpList_ldC 34 _ ?_); refine ⟨rfl, _, ⟨_, _, _, Tryd.isAgg34, Tryd.sizeOf34, rfl, (show (#[Value.int .u8 c2.op.kind, .string c2.op.key, .string c2.op.old, .string c2.op.val] : Array Value).size = 4 from rfl), hopL⟩, ?_⟩)
                      | (go_at_call 17; refine hdo.mono ?_; rintro e w9 ⟨⟨na, ncap, rfl, hown9⟩, hb9⟩)
                      | ((first | (with_reducible refine wpList_stNew 36 _ _ ?_) | (with_reducible refine wp_stNew 36 _ _ ?_)); refine ⟨_, _, ⟨Tryd.sizeOf36, rfl, rpl_new r⟩, rfl, ?_⟩))
          refine HK.out _ _ ?_
          clear HK
          have R10 := heap_alloc_new w9 (Obj.cells (rplL r) 36)
          have hb10 := hb9.trans ((blw w9 (Obj.cells (rplL r) 36)).mono hb9.size)
          have H10 := owns_bl H6 hb10
          have S10 := owns_mono (owns_bl hown9 (blw w9 (Obj.cells (rplL r) 36))) hb66
          have hbw10 := hb6.trans (hb10.mono hb66)
          have hg10 := Nat.lt_of_lt_of_le hg6 hb10.size
          clear hown9 hb9 hb10 H6 hdo hopL hb6 hg6 hg3 hb3
          generalize w9.alloc (Obj.cells (rplL r) 36) = w10 at *
          generalize w9.heap.size = q9 at *
          obtain ⟨cs2, N10, hcs2⟩ := hrow_block H10
          have hzr : k * 10 + 5 + 3 ≤ cs2.size := by omega
          refine wp_seq_k (fun K hK => ?_)
          have HK := Lib.hid hK
          clear hK
          go_wp2_with (first
                      | ((with_reducible refine wpList_ldB 36 _ ?_); refine ⟨rfl, _, ⟨_, _, _, _, _, Tryd.isAgg36, Tryd.sizeOf36, rfl, ‹_›, rpl_all r⟩, ?_⟩)
                      | ((with_reducible refine wpList_stB 36 _ _ ?_); refine ⟨_, _, _, ⟨_, _, _, Tryd.sizeOf36, rfl, N10, rep_st r hzr⟩, ?_⟩; intro w11 N11 g11))
          refine HK.out _ _ ?_
          clear HK
          have H11 := hrow_spl H10 N10 hkk6 (c' := { c2 with rep := r }) N11 (by show 5 + 3 ≤ 10; decide) rfl
          rw [List.set_set] at H11
          have S11 := owns_ne S10 g11 N10 (by decide)
          have hbw11 := bl_st hbw10 g11 hbw10.size hgB
          have hg11 := lt_blk N11
          have he1 : oneN l (k + 1) = (oneN l k).set k { c2 with rep := r } := by
            rw [HN1.out]
            congr 1
            unfold oneAt
            rw [HC.out, ← HC2.out, ← HOP.out, HD.out]
          have hs2 : sH l (k + 1) = s2 := by rw [HS1.out, HD.out]
          rw [← he1] at H11
          have HS2 := Lib.hid hs2
          clear hs2 he1 N10 N11 g11 R10 H10 S10 hkk6
          go_wp2
          (try simp only [Exit.inBlock, Exit.then])
          refine HK2.out _ _ ?_
          clear HK2
          go_wp2
          go_roundw
          case rel => exact ⟨k + 1, by omega, by go_num, H11, hbw11, hg11, by rw [HS2.out]; exact S11⟩
          case measure => simp [intOf]; omega
        · obtain rfl : k = l.length := by omega
          go_wp2
          go_meet
          exact ⟨hH, hb3⟩
    obtain ⟨hH5, hb5⟩ := hcut
    refine hK _ _ ?_
    clear hK hH hg3 hb3
    have hone := oneN_t l
    have hlen5 := hrow_len hH5
    have hT5 := hA2.tabs.below hb5
    have o1 := orders_one hT5 (hrow_slc hH5) hone hl true (yes (oneL_yes HOK.out hl))
    rw [hlen5] at o1
    have HA2 := Lib.hid hA2
    have HL5 := Lib.hid hlen5
    have hT5b := Lib.hid hT5
    obtain ⟨aq, haq⟩ : ∃ k : Nat, (at' % 18446744073709551616 % (l.length : Int)).toNat = k := ⟨_, rfl⟩
    have hal : aq < l.length := by rw [← haq]; exact u64_lt _ _ hl0
    have hne := u64_ne hl0 (show l.length ≤ 1000000 by omega)
    have hmd := (u64_mod at' l.length hl0 (by omega)).trans (congrArg (fun k : Nat => (k : Int)) haq)
    clear hone hlen5 hT5 haq hA2
    refine wp_seq_k (fun K hK => ?_)
    have HK := Lib.hid hK
    clear hK
    go_wp2_with (go_at_call 18; refine o1.mono ?_; rintro e w6 ⟨rfl, hb6⟩)
    refine HK.out _ _ ?_
    clear HK
    clear o1
    have hH6 := owns_bl hH5 hb6
    have hbb6 := hb5.trans (hb6.mono hb5.size)
    have hT6 := Lib.hid (hT5b.out.below hb6)
    clear hH5 hb5 hb6 hT5b
    have hm2 : wrap64 ((IntKind.u64.wrap at').tmod (l.length : Int)) = (aq : Int) := by
      rw [u64_small (show l.length ≤ 1000000 by omega)] at hmd
      rw [hmd, ← IntWalk.i64_left]
      exact IntWalk.i64_in _ (by omega)
    have HM2 := Lib.hid hm2
    clear hm2 hmd hne
    refine wp_seq_k (fun K hK => ?_)
    have HK := Lib.hid hK
    clear hK
    go_wp2
    refine HK.out _ _ ?_
    clear HK
    rw [HM2.out]
    refine wp_seq_k (fun K hK => ?_)
    have HK := Lib.hid hK
    clear hK
    go_wp2_with ((first | (with_reducible refine wpList_stNew 36 _ _ ?_) | (with_reducible refine wp_stNew 36 _ _ ?_)); refine ⟨_, _, ⟨Tryd.sizeOf36, rfl, rpl_new ⟨0, found, value⟩⟩, rfl, ?_⟩)
    refine HK.out _ _ ?_
    clear HK
    have RB := heap_alloc_new w6 (Obj.cells (rplL ⟨0, found, value⟩) 36)
    have hb7 := blw w6 (Obj.cells (rplL ⟨0, found, value⟩) 36)
    have hH7 := owns_bl hH6 hb7
    have hbb7 := hbb6.trans (hb7.mono hbb6.size)
    have hT7 := Lib.hid (hT6.out.below hb7)
    clear hH6 hbb6 hT6 hb7
    generalize w6.alloc (Obj.cells (rplL ⟨0, found, value⟩) 36) = w7 at *
    generalize w6.heap.size = q6 at *
    have hkk := (oneN_at (l := l) (k := l.length) hal).trans (by rw [if_pos hal] : _ = some (oneAt l aq))
    obtain ⟨c, hc⟩ : ∃ c, oneAt l aq = c := ⟨_, rfl⟩
    rw [hc] at hkk
    have HC := Lib.hid hc
    have hrL : ∀ (j : Nat) u, (#[Value.int .i64 c.rep.err, .bool c.rep.found, .string c.rep.val] : Array Value)[j]? = some u → w7.cell? ⟨g, aq * 10 + 5 + j, none⟩ = some u := fun j u h => by
      rw [Nat.add_assoc]
      refine hrow_cell hH7 hkk (5 + j) u ?_
      rw [Nat.add_comm]
      match j, h with
      | 0, h => exact h
      | 1, h => exact h
      | 2, h => exact h
    have hg7 : g < w7.heap.size := by
      obtain ⟨cs, hN, _⟩ := hrow_block hH7
      exact lt_blk hN
    obtain ⟨b, hbq⟩ : ∃ b, rpEq c.rep ⟨0, found, value⟩ = b := ⟨_, rfl⟩
    have HBQ := Lib.hid hbq
    clear hc hbq
    refine wp_seq_k (fun K hK => ?_)
    have HK8 := Lib.hid hK
    clear hK
    go_wp2_with fail
    have hS0 : Below w7.heap.size w7 w7.drew := (Below.refl _ _).drew
    refine wp_region_held_drew (S := fun w' => Below w7.heap.size w7 w') (by kernel_rfl) hS0 (fun _ => ?_)
    refine wpAnyH_take (i := 0) (oi := ⟨_, _, _, _, _, _⟩) (v := ?_) rfl (by kernel_rfl) (by kernel_rfl) (by kernel_rfl) (fun _ _ _ h => h) (Or.inl ⟨by rfl, ?_⟩) (by assumption) ?_
    rotate_left
    · intro wS hSw; go_simp; (try with_reducible rfl)
    (try simp only [Act.put]); (try simp only [List.setIfInBounds_toArray]); (try simp only [List.set_cons_succ]); (try simp only [List.set_cons_zero])
    refine wpAnyH_take (i := 1) (oi := ⟨_, _, _, _, _, _⟩) (v := ?_) rfl (by kernel_rfl) (by kernel_rfl) (by kernel_rfl) (fun _ _ _ h => h) (Or.inl ⟨by rfl, ?_⟩) (by assumption) ?_
    rotate_left
    · intro wS hSw; go_simp; (try with_reducible rfl)
    (try simp only [Act.put]); (try simp only [List.setIfInBounds_toArray]); (try simp only [List.set_cons_succ]); (try simp only [List.set_cons_zero])
    refine wpAnyH_take (i := 2) (oi := ⟨_, _, _, _, _, _⟩) (v := ?_) rfl (by kernel_rfl) (by kernel_rfl) (by kernel_rfl) (fun _ _ _ h => h) (Or.inl ⟨by rfl, ?_⟩) (by assumption) ?_
    rotate_left
    · intro wS hSw; go_simp; (try with_reducible rfl)
    (try simp only [Act.put]); (try simp only [List.setIfInBounds_toArray]); (try simp only [List.set_cons_succ]); (try simp only [List.set_cons_zero])
    refine wpAnyH_take (i := 3) (oi := ⟨_, _, _, _, _, _⟩) (v := ?_) rfl (by kernel_rfl) (by kernel_rfl) (by kernel_rfl) (fun _ _ _ h => h) (Or.inl ⟨by rfl, ?_⟩) (by assumption) ?_
    rotate_left
    · intro wS hSw; go_simp; (try with_reducible rfl)
    (try simp only [Act.put]); (try simp only [List.setIfInBounds_toArray]); (try simp only [List.set_cons_succ]); (try simp only [List.set_cons_zero])
    refine wpAnyH_take (i := 4) (oi := ⟨_, _, _, _, _, _⟩) (v := .agg (#[.int .i64 c.rep.err, .bool c.rep.found, .string c.rep.val])) rfl (by kernel_rfl) (by kernel_rfl) (by kernel_rfl) (fun _ _ _ h => h) (Or.inl ⟨by rfl, fun wS hSw => ?_⟩) (by assumption) ?_
    · exact exec_ldC 36 _ ⟨_, _, _, Tryd.isAgg36, Tryd.sizeOf36, rfl, rfl, (fun j u h => (hSw.cell hg7).trans (hrL j u h))⟩
    (try simp only [Act.put]); (try simp only [List.setIfInBounds_toArray]); (try simp only [List.set_cons_succ]); (try simp only [List.set_cons_zero])
    refine wpAnyH_take (i := 5) (oi := ⟨_, _, _, _, _, _⟩) (v := .agg (#[.int .i64 0, .bool found, .string value])) rfl (by kernel_rfl) (by kernel_rfl) (by kernel_rfl) (fun _ _ _ h => h) (Or.inl ⟨by rfl, fun wS hSw => ?_⟩) (by assumption) ?_
    · exact exec_ldB 36 _ ⟨_, _, _, _, _, Tryd.isAgg36, Tryd.sizeOf36, rfl, (tr_bl hSw RB), rpl_all ⟨0, found, value⟩⟩
    (try simp only [Act.put]); (try simp only [List.setIfInBounds_toArray]); (try simp only [List.set_cons_succ]); (try simp only [List.set_cons_zero])
    refine wpAnyH_take (i := 6) (oi := ⟨_, _, _, _, _, _⟩) (v := .bool b) rfl (by kernel_rfl) (by kernel_rfl) (by kernel_rfl) (fun _ _ _ h => h) (Or.inl ⟨by rfl, fun wS hSw => ?_⟩) (by assumption) ?_
    · go_simp; rw [← HBQ.out]; exact rp_ifs _ _ _ _
    (try simp only [Act.put]); (try simp only [List.setIfInBounds_toArray]); (try simp only [List.set_cons_succ]); (try simp only [List.set_cons_zero])
    refine wpAnyH_take (i := 7) (oi := ⟨_, _, _, _, _, _⟩) (v := ?_) rfl (by kernel_rfl) (by kernel_rfl) (by kernel_rfl) (fun _ _ _ h => h) (Or.inl ⟨by rfl, ?_⟩) (by assumption) ?_
    rotate_left
    · intro wS hSw; go_simp; (try with_reducible rfl)
    (try simp only [Act.put]); (try simp only [List.setIfInBounds_toArray]); (try simp only [List.set_cons_succ]); (try simp only [List.set_cons_zero])
    refine wpAnyH_done (by kernel_rfl) ?_ _
    go_wp2
    refine HK8.out _ _ ?_
    clear HK8
    have hH8 : HRow w7.drew w2.heap.size g hcap l.length (oneN l l.length) := hH7
    have RB8 := tr_bl hS0 RB
    have hbb8 := hbb7.drew
    have hT8 := Lib.hid (hT7.out.below hS0)
    clear hH7 RB hbb7 hT7 hrL hg7 hS0
    generalize w7.drew = w8 at *
    obtain ⟨cs, N8, hcs⟩ := hrow_block hH8
    have hzr : aq * 10 + 5 + 3 ≤ cs.size := by omega
    refine wp_seq_k (fun K hK => ?_)
    have HK := Lib.hid hK
    clear hK
    go_wp2_with (first
          | ((with_reducible refine wpList_ldB 36 _ ?_); refine ⟨rfl, _, ⟨_, _, _, _, _, Tryd.isAgg36, Tryd.sizeOf36, rfl, ‹_›, rpl_all ⟨0, found, value⟩⟩, ?_⟩)
          | ((with_reducible refine wpList_stB 36 _ _ ?_); refine ⟨_, _, _, ⟨_, _, _, Tryd.sizeOf36, rfl, N8, rep_st ⟨0, found, value⟩ hzr⟩, ?_⟩; intro w9 N9 g9))
    refine HK.out _ _ ?_
    clear HK
    have hH9 := hrow_spl hH8 N8 hkk (c' := { c with rep := ⟨0, found, value⟩ }) N9 (by show 5 + 3 ≤ 10; decide) rfl
    have he : (oneN l l.length).set aq { c with rep := ⟨0, found, value⟩ } = oddL l aq ⟨0, found, value⟩ := by unfold oddL; rw [HC.out]
    rw [he] at hH9
    have hbb9 := bl_st hbb8 g9 hbb8.size hgB
    have hT9 := HA2.out.tabs.below hbb9
    have hlen9 := hrow_len hH9
    have o2 := orders_one hT9 (hrow_slc hH9) (oddL_t l aq ⟨0, found, value⟩) hl b ((odd_iff HOK.out hl hal ⟨0, found, value⟩).trans (by rw [HC.out, HBQ.out]))
    rw [hlen9] at o2
    have hfin := HA2.out.bel.trans (hbb9.mono HA2.out.bel.size)
    have hfs := hfin.size
    have HFIN := Lib.hid hfin
    clear he hlen9 hT9 hH8 hH9 N8 N9 g9 RB8 hkk hfin hbb8 hbb9
    go_wp2_with (go_at_call 18; refine o2.mono ?_; rintro e w10 ⟨rfl, hb10⟩; cases b)
    all_goals
      go_wp2
      go_ret
      exact ⟨rfl, HFIN.out.trans (hb10.mono hfs)⟩
end
end Go.Proofs.YtaojblejnpemkaaDoor
