/- The reference's with and without. -/
import Derived.Test.YtiipelccmkidbaaK5b
import Derived.Test.YtiipelccmkidbaaRows
import Derived.WalkKit
import Derived.WalkSpells
import Derived.WalkLawsBesides
import Derived.Handy
import Derived.Deep.QuietTactic
import Derived.BigQuiet
import Derived.Deep.DeepCutAuto
import Derived.Lib.Hide
import Derived.RegionTactic
import Derived.ChangeAlike
namespace Go.Proofs.Ytiipelccmkidbaa
open Go.RowKit

def nek (key : Tx) (p : Pr) : Bool := decide (p.1 ≠ key)
def wstep (key v : Tx) (s : List Pr × Bool) (p : Pr) : List Pr × Bool :=
  if s.2 = false ∧ kl p.1 key = false then (s.1 ++ [(key, v)] ++ (if nek key p then [p] else []), true) else (s.1 ++ (if nek key p then [p] else []), s.2)
def wst (key v : Tx) (l : List Pr) (k : Nat) : List Pr × Bool := (l.take k).foldl (wstep key v) ([], false)
theorem wst_zero (key v : Tx) (l : List Pr) : wst key v l 0 = ([], false) := by simp [wst]
theorem wst_succ (key v : Tx) (l : List Pr) (k : Nat) (x : Pr) (h : l[k]? = some x) : wst key v l (k + 1) = wstep key v (wst key v l k) x := by
  unfold wst
  rw [List.take_add_one, h]
  simp
theorem wst_len (key v : Tx) (l : List Pr) (k : Nat) : (wst key v l k).1.length ≤ 2 * k := by
  induction k with
  | zero => rw [wst_zero]; simp
  | succ k ih =>
    cases h : l[k]? with
    | none =>
      have e : l.take (k + 1) = l.take k := by rw [List.take_add_one, h]; simp
      have e2 : wst key v l (k + 1) = wst key v l k := by unfold wst; rw [e]
      rw [e2]
      omega
    | some x =>
      rw [wst_succ key v l k x h]
      unfold wstep
      split
      · simp only [List.length_append, List.length_singleton]
        split <;> simp <;> omega
      · simp only [List.length_append]
        split <;> simp <;> omega

theorem filter_nek (key : Tx) {l : List Pr} (hr : Rises l) : l.filter (nek key) = delL l key := by
  have e : l.filter (nek key) = (lo l key ++ mid l key ++ hi l key).filter (nek key) := by rw [← split3 key hr]
  rw [e, List.filter_append, List.filter_append]
  have e1 : (lo l key).filter (nek key) = lo l key := List.filter_eq_self.2 fun q hq => decide_eq_true (kl_ne (mem_lo hq).2)
  have e2 : (mid l key).filter (nek key) = [] := filter_none fun q hq => by
    unfold mid at hq
    rw [List.mem_filter, decide_eq_true_eq] at hq
    simp [nek, hq.2]
  have e3 : (hi l key).filter (nek key) = hi l key := List.filter_eq_self.2 fun q hq => decide_eq_true (fun e => kl_ne (mem_hi hq).2 e.symm)
  rw [e1, e2, e3, List.append_nil]
  rfl

theorem wfold_true (key v : Tx) : ∀ (m acc : List Pr), m.foldl (wstep key v) (acc, true) = (acc ++ m.filter (nek key), true)
  | [], acc => by simp
  | p :: m, acc => by
    rw [List.foldl_cons]
    have : wstep key v (acc, true) p = (acc ++ (if nek key p then [p] else []), true) := by simp [wstep]
    rw [this, wfold_true key v m]
    cases h : nek key p <;> simp [h]

def wend (key v : Tx) (s : List Pr × Bool) : List Pr := if s.2 then s.1 else s.1 ++ [(key, v)]
theorem wfold_false (key v : Tx) : ∀ (m acc : List Pr), Rises m → wend key v (m.foldl (wstep key v) (acc, false)) = acc ++ lo m key ++ (key, v) :: hi m key
  | [], acc, _ => by simp [wend, lo, hi]
  | p :: m, acc, h => by
    have h2 := List.pairwise_cons.1 h
    rw [List.foldl_cons]
    cases h1 : kl p.1 key with
    | true =>
      have hn : nek key p = true := decide_eq_true (kl_ne h1)
      have : wstep key v (acc, false) p = (acc ++ [p], false) := by simp [wstep, h1, hn]
      rw [this, wfold_false key v m _ h2.2]
      simp [lo, hi, h1, kl_asymm h1]
    | false =>
      have : wstep key v (acc, false) p = (acc ++ [(key, v)] ++ (if nek key p then [p] else []), true) := by simp [wstep, h1]
      rw [this, wfold_true]
      have hl : ∀ q ∈ p :: m, kl q.1 key = false := fun q hq => by
        rw [List.mem_cons] at hq
        rcases hq with rfl | hq
        · exact h1
        · cases h3 : kl q.1 key with
          | false => rfl
          | true => rw [kl_trans (h2.1 q hq) h3] at h1; cases h1
      have e1 : lo (p :: m) key = [] := filter_none hl
      have e2 : hi (p :: m) key = (p :: m).filter (nek key) := by
        unfold hi
        refine List.filter_congr fun q hq => ?_
        have := hl q hq
        cases h3 : kl key q.1 with
        | true => (simp [nek]; exact fun e => kl_ne h3 e.symm)
        | false => simp [nek, kl_tri this h3]
      rw [e1, e2]
      cases h4 : nek key p <;> simp [wend, h4]
theorem wst_all (key v : Tx) {l : List Pr} (h : Rises l) : wend key v (wst key v l l.length) = putL l key v := by
  unfold wst
  rw [List.take_length, wfold_false key v l [] h]
  simp [putL]

theorem wstep_put {key v : Tx} {o : List Pr} {p : Pr} (h : kl p.1 key = false) (hn : p.1 ≠ key) : wstep key v (o, false) p = (o ++ [(key, v)] ++ [p], true) := by simp [wstep, h, nek, hn]
theorem wstep_eq {key v : Tx} {o : List Pr} {p : Pr} (h : p.1 = key) : wstep key v (o, false) p = (o ++ [(key, v)], true) := by simp [wstep, nek, h, kl_irrefl]
theorem wstep_lt {key v : Tx} {o : List Pr} {p : Pr} (h : kl p.1 key = true) : wstep key v (o, false) p = (o ++ [p], false) := by simp [wstep, h, nek, kl_ne h]
theorem wstep_on {key v : Tx} {o : List Pr} {p : Pr} (hn : p.1 ≠ key) : wstep key v (o, true) p = (o ++ [p], true) := by simp [wstep, nek, hn]
theorem wstep_no {key v : Tx} {o : List Pr} {p : Pr} (hn : p.1 = key) : wstep key v (o, true) p = (o, true) := by simp [wstep, nek, hn]

def PairsOf (w : World) (base : Nat) (v : Value) (l : List Pr) : Prop := w.ownsRow base 46 2 v l.length (prs l)
theorem PairsOf.snoc {w : World} {base : Nat} {v : Value} {l : List Pr} {p : Pr} (h : w.ownsRow base 46 2 v (l.length + 1) (prs l ++ [.string p.1, .string p.2])) : PairsOf w base v (l ++ [p]) := by
  unfold PairsOf
  rw [prs_app, List.length_append]
  exact h

set_option maxRecDepth 100000 in
set_option maxHeartbeats 4000000 in
theorem without_any (a : Option Addr) (cap : Nat) (l : List Pr) (key : Tx) (w : World) (hr : Row w a (prs l)) (hl : l.length ≤ 1000) (hso : Rises l) :
    Calls Try.prog 22 #[.slice a l.length cap, .string key] w fun e w' => OwnPrs w.heap.size (delL l key) e w' ∧ Below w.heap.size w w' := by
  go_enter Try.func22, Try.ntmps22
  refine wp_seq_k (fun K hK => ?_)
  have HK := Lib.hid hK
  clear hK
  go_wp2
  refine HK.out _ _ ?_
  clear HK
  refine wp_seq_k (fun K hK => ?_)
  have HK := Lib.hid hK
  clear hK
  go_wp2
  refine HK.out _ _ ?_
  clear HK
  refine wp_seq_k (fun K hK => ?_)
  go_cut [5] (fun o wx => PairsOf wx w.heap.size o (delL l key) ∧ Below w.heap.size w wx)
  case first =>
    go_wp2_with fail
    go_loopw [5, 6] (fun o i wr => ∃ k : Nat, k ≤ l.length ∧ i = .int .i64 k ∧ PairsOf wr w.heap.size o ((l.take k).filter (nek key)) ∧ Below w.heap.size w wr) (fun _ i _ => l.length - (intOf i).toNat)
    case atStart => exact ⟨0, by omega, rfl, World.ownsRow_nil _ _ _ _, Below.refl _ _⟩
    case round =>
      obtain ⟨k, hk, rfl, hown, hbr⟩ := hrel
      by_cases hlt : k < l.length
      · obtain ⟨bb, off, rfl, hblt, hcs⟩ := (hr.below0 hbr).pair (List.getElem?_eq_getElem hlt)
        obtain ⟨c0, c1⟩ := hcs _ _ (List.getElem?_eq_getElem hlt)
        have hstep : (l.take (k + 1)).filter (nek key) = (l.take k).filter (nek key) ++ (if nek key l[k] then [l[k]] else []) := by
          rw [List.take_add_one, List.getElem?_eq_getElem hlt, List.filter_append]
          cases h : nek key l[k] <;> simp [h]
        have hln : ((l.take k).filter (nek key)).length ≤ 1000 := Nat.le_trans (List.length_filter_le _ _) (by rw [List.length_take]; omega)
        clear hcs
        have HS := Lib.hid hstep
        clear hstep
        generalize l[k] = y at *
        obtain ⟨y1, y2⟩ := y
        generalize (l.take k).filter (nek key) = o1 at *
        by_cases hy : y1 = key
        · have hyb : (y1.toList == key.toList) = true := by rw [tx_eq]; exact decide_eq_true hy
          have HY := Lib.hid hy
          clear hy
          go_wp2
          go_roundw
          case rel => exact ⟨k + 1, by omega, by go_num, by rw [HS.out]; simpa [nek, HY.out] using hown, hbr⟩
          case measure => simp [intOf]; omega
        · have hyb : (y1.toList == key.toList) = false := by rw [tx_eq]; exact decide_eq_false hy
          have HY := Lib.hid hy
          have hbs := hbr.size
          unfold PairsOf at hown
          clear hy
          go_wp2_with (at_builtin; refine wpList_append1 rfl _ _ 35 46 elPair rfl w.heap.size _ _ _ rfl hown #[.string y1, .string y2] rfl (by simp; exact ⟨rfl, rfl⟩) _ rfl (by omega) (by omega) hbs ?_; intro v5 w5 hown5 hb5 _)
          go_roundw
          case rel => exact ⟨k + 1, by omega, by go_num, by rw [HS.out]; simp only [nek, HY.out, ne_eq, not_false_eq_true, decide_true, if_true]; exact PairsOf.snoc (p := (y1, y2)) hown5, hbr.trans hb5⟩
          case measure => simp [intOf]; omega
      · go_wp2
        go_meet
        exact ⟨by rw [← filter_nek key hso]; rw [show k = l.length by omega, List.take_length] at hown; exact hown, hbr⟩
  obtain ⟨hown, hbx⟩ := hcut
  refine hK _ _ ?_; clear hK
  go_wp2
  go_ret
  exact ⟨⟨_, rfl, hown⟩, hbx⟩
end Go.Proofs.Ytiipelccmkidbaa
