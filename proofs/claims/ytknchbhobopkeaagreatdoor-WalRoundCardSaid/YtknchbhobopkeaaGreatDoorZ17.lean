/- Texts that the claim leans on, part 17: Y3, Y4, Y5, A1, V10, A2, Y6, A3. -/
import Derived.Test.YtknchbhobopkeaaGreatDoorZ1
import Derived.Test.YtknchbhobopkeaaGreatDoorZ2
import Derived.Test.YtknchbhobopkeaaGreatDoorZ3
import Derived.Test.YtknchbhobopkeaaGreatDoorZ4
import Derived.Test.YtknchbhobopkeaaGreatDoorZ5
import Derived.Test.YtknchbhobopkeaaGreatDoorZ6
import Derived.Test.YtknchbhobopkeaaGreatDoorZ7
import Derived.Test.YtknchbhobopkeaaGreatDoorZ8
import Derived.Test.YtknchbhobopkeaaGreatDoorZ9
import Derived.Test.YtknchbhobopkeaaGreatDoorZ10
import Derived.Test.YtknchbhobopkeaaGreatDoorZ11
import Derived.Test.YtknchbhobopkeaaGreatDoorZ12
import Derived.Test.YtknchbhobopkeaaGreatDoorZ13
import Derived.Test.YtknchbhobopkeaaGreatDoorZ14
import Derived.Test.YtknchbhobopkeaaGreatDoorZ15
import Derived.Test.YtknchbhobopkeaaGreatDoorZ16
import Derived.Test.YtknchbhobopkeaaGreatDoorRows
import Derived.WalkKit
import Derived.WalkSpells
import Derived.WalkLawsBesides
import Derived.Handy
import Derived.Deep.QuietTactic
import Derived.BigQuiet
import Derived.Deep.DeepCutAuto
import Derived.Lib.Hide
import Derived.RegionTactic
import Derived.ChangeAlike
import Derived.Laws.ResultCell
import Derived.Outline
import Derived.IntWalk
import Derived.Shelf.Abstract
import Derived.Shelf.RegionOpen
import Derived.OwnWalkIn
import Derived.TacticsInMore
import Derived.LoopNIn
import Derived.LoopIn
import Derived.Maps.AppendAt
import Derived.Maps.OwnIn
import Derived.RangeFuncNested
import Derived.RangeFuncBound
import Derived.RangeFuncCalls
import Derived.RangeFuncLeaves
import Derived.RangeFuncBox
import Derived.RangeFuncRecord
import Derived.Laws.IdiomStrings
import Derived.Laws.BytesArg
import Derived.Laws.MakeOwn
import Derived.Lib.SliceRun
import Derived.Laws.BitsAllLaws
import Derived.Great.BuildSlice
import Derived.Great.FillDense
import Derived.Laws.Rows
import Derived.Deep.Quiet
import Derived.Deep.RegionHeld3
import Derived.Lib.AppendStr
import Derived.ProofKit
import Derived.OpenShut
import Derived.Laws.Strings
import Derived.Laws.CopyOwn
import Derived.Laws.CopyRow
import Derived.Laws.NewBlocks
import Derived.Deep.RegionLaw
namespace Go.Proofs.YtknchbhobopkeaaGreatDoor
def plsW (pl : List Pl) (f : Nat) (fr : List UInt8) : Nat → List Pl
  | 0 => pl
  | k + 1 => (plsW pl f fr k).set (f + k) ⟨pcD fr k, pcD fr k, false⟩
section
variable {d d' : Dk} {f n j : Nat} {fr : List UInt8}
theorem pc_len {k : Nat} (h : 64 * k + 64 ≤ fr.length) : (pcD fr k).length = 64 := by unfold pcD; rw [List.length_take, List.length_drop]; omega
theorem spend_all (hl : d.left < 0) : spendD d = (d, 0) := by unfold spendD; rw [if_neg (by omega), if_neg (by omega)]
theorem wsD_full (h : Live d) (hl : d.left < 0) (hf : f + n ≤ 156) (hfr : fr.length = 64 * n) : ∀ k, k ≤ n → wsD d f fr k = ({ d with waits := (List.range k).map (fun j => (pcD fr j, f + j)) }, 0)
  | 0, _ => by
    show (d, (0 : Int)) = _
    have := h.w
    obtain ⟨pl, ws, dn, de, lf⟩ := d
    simp only at this
    subst this
    rfl
  | k + 1, hk => by
    have ih := wsD_full h hl hf hfr k (by omega)
    unfold wsD
    rw [ih]
    simp only
    rw [if_neg (by simp)]
    have hp := pc_len (fr := fr) (k := k) (by omega)
    have hlv : liveD { d with waits := (List.range k).map (fun j => (pcD fr j, f + j)) } ((f : Int) + k) = 0 := by
      unfold liveD thereD
      simp only
      rw [h.dn, h.de, h.len, if_neg (by simp), if_neg (by decide), if_neg (by omega)]
    unfold writeD
    rw [if_neg (by simp [hlv]), if_neg (by simp [hp]), spend_all (by exact hl), if_neg (by simp), List.range_succ, List.map_append, show ((f : Int) + k).toNat = f + k by omega]
    rfl
theorem thru_pls (pl : List Pl) (f : Nat) (fr : List UInt8) {n : Nat} (hn : n = 1 ∨ n = 2) : thruD pl ((List.range n).map (fun j => (pcD fr j, f + j))) 0 (fun _ => true) = plsW pl f fr n := by
  rcases hn with rfl | rfl
  · rfl
  · rfl
theorem lput_full (h : Live d) (hl : d.left < 0) (hn : n = 1 ∨ n = 2) (hf : f + n ≤ 156) (hfr : fr.length = 64 * n) : lputD d f fr n = ({ d with pl := plsW d.pl f fr n }, 0) := by
  have hw := wsD_full h hl hf hfr n (Nat.le_refl _)
  have hwt := h.w
  unfold lputD
  rw [hw]
  simp only
  rw [if_neg (by simp)]
  have hlv : live0 { d with waits := (List.range n).map (fun j => (pcD fr j, f + j)) } = 0 := by
    unfold live0 there0
    simp only
    rw [h.len, h.dn, h.de]
    simp
  unfold flushD
  rw [if_neg (by simp [hlv]), spend_all (by exact hl), if_neg (by simp)]
  simp only
  rw [thru_pls _ _ _ hn]
  obtain ⟨pl, ws, dn, de, lf⟩ := d
  simp only at hwt
  subst hwt
  rfl
theorem plsW_len (pl : List Pl) (f : Nat) (fr : List UInt8) : ∀ n, (plsW pl f fr n).length = pl.length
  | 0 => rfl
  | n + 1 => by unfold plsW; rw [List.length_set]; exact plsW_len pl f fr n
theorem pls_live (h : Live d) (f : Nat) (fr : List UInt8) (n : Nat) : Live { d with pl := plsW d.pl f fr n } := ⟨by simp only; rw [plsW_len]; exact h.len, h.w, h.dn, h.de⟩
theorem pls_read (h : Live d) (hn : n = 1 ∨ n = 2) (hf : f + n ≤ 156) (hj : j < 156) : readD { d with pl := plsW d.pl f fr n } j = if f ≤ j ∧ j < f + n then (pcD fr (j - f), 0) else readD d j := by
  rw [rd_live (pls_live h f fr n) hj, rd_live h hj]
  have hl := h.len
  rcases hn with rfl | rfl
  · show rdP (d.pl.set (f + 0) ⟨pcD fr 0, pcD fr 0, false⟩) j = _
    rw [rd_set _ (by omega)]
    by_cases hc : j = f
    · subst hc
      rw [if_pos (by omega), if_pos (by omega)]
      simp
    · rw [if_neg (by omega), if_neg (by omega)]
  · show rdP ((d.pl.set (f + 0) ⟨pcD fr 0, pcD fr 0, false⟩).set (f + 1) ⟨pcD fr 1, pcD fr 1, false⟩) j = _
    rw [rd_set _ (by rw [List.length_set]; omega)]
    by_cases h1 : j = f + 1
    · subst h1
      rw [if_pos rfl, if_pos (by omega)]
      congr 2
      omega
    · rw [if_neg h1, rd_set _ (by omega)]
      by_cases hc : j = f
      · subst hc
        rw [if_pos (by omega), if_pos (by omega)]
        simp
      · rw [if_neg (by omega), if_neg (by omega)]
/-! Outside of some sectors nothing turns. -/
structure OutP (P : Nat → Prop) (pl : List Pl) (d : Dk) : Prop where
  len : d.pl.length = pl.length
  same : ∀ j, ¬ P j → d.pl[j]? = pl[j]?
  wt : ∀ x ∈ d.waits, P x.2
variable {P : Nat → Prop} {pl : List Pl}
theorem thru_out : ∀ (ws : List (List UInt8 × Nat)) (l : List Pl) (k : Nat) (is : Nat → Bool), (∀ x ∈ ws, P x.2) → l.length = pl.length → (∀ j, ¬ P j → l[j]? = pl[j]?) → (thruD l ws k is).length = pl.length ∧ ∀ j, ¬ P j → (thruD l ws k is)[j]? = pl[j]?
  | [], l, k, is, _, h1, h2 => ⟨h1, h2⟩
  | (b, s) :: ws, l, k, is, hw, h1, h2 => by
    unfold thruD
    have hs := hw (b, s) List.mem_cons_self
    refine thru_out ws _ (k + 1) is (fun x hx => hw x (List.mem_cons_of_mem _ hx)) ?_ fun j hj => ?_
    · split
      · rw [List.length_set]; exact h1
      · exact h1
    · split
      · rw [List.getElem?_set_ne (fun e => hj (by simp only at hs; rw [← e]; exact hs))]
        exact h2 j hj
      · exact h2 j hj
theorem OutP.write (h : OutP P pl d) {s : Int} (b : List UInt8) (hs : P s.toNat) : OutP P pl (writeD d s b).1 := by
  obtain ⟨e1, e2⟩ := spend_pl d
  unfold writeD
  split
  · exact h
  · split
    · exact h
    · split
      · exact ⟨by rw [e1]; exact h.len, by rw [e1]; exact h.same, by rw [e2]; exact h.wt⟩
      · refine ⟨by simp only; rw [e1]; exact h.len, by simp only; rw [e1]; exact h.same, fun x hx => ?_⟩
        simp only [List.mem_append, List.mem_singleton] at hx
        rcases hx with hx | rfl
        · rw [e2] at hx; exact h.wt x hx
        · exact hs
theorem OutP.flush (h : OutP P pl d) : OutP P pl (flushD d).1 := by
  rcases flush_pl d with ⟨e1, e2⟩ | ⟨e1, e2⟩
  · exact ⟨by rw [e1]; exact h.len, by rw [e1]; exact h.same, by rw [e2]; exact h.wt⟩
  · obtain ⟨a, b⟩ := thru_out d.waits d.pl 0 (fun _ => true) h.wt h.len h.same
    exact ⟨by rw [e1]; exact a, by rw [e1]; exact b, by rw [e2]; intro x hx; cases hx⟩
theorem OutP.ws (h : OutP P pl d) (hP : ∀ k, k < n → P (f + k)) : ∀ k, k ≤ n → OutP P pl (wsD d f fr k).1
  | 0, _ => h
  | k + 1, hk => by
    unfold wsD
    split
    · exact h.ws hP k (by omega)
    · exact (h.ws hP k (by omega)).write _ (by rw [show ((f : Int) + k).toNat = f + k by omega]; exact hP k (by omega))
theorem OutP.lput (h : OutP P pl d) (hP : ∀ k, k < n → P (f + k)) : OutP P pl (lputD d f fr n).1 := by
  unfold lputD
  split
  · exact h.ws hP n (Nat.le_refl _)
  · exact (h.ws hP n (Nat.le_refl _)).flush
end
def secW (p j : Nat) : Prop := j = 4 + p ∨ (28 + 4 * p ≤ j ∧ j < 32 + 4 * p)
section
variable {d d' : Dk} {s : Lg} {i : Int} {b : Bal} {e : En} {pl : List Pl}
theorem pl_nat (i : Int) : ∃ p : Nat, plW i = p ∧ p < 24 := ⟨(plW i).toNat, by have := plW_in (i := i); omega, by have := plW_in (i := i); omega⟩
theorem OutP.put {p : Nat} (h : OutP (secW p) pl d) (hp : plW i = p) : OutP (secW p) pl (putW d s i b e).1 := by
  have hpin := plW_in (i := i)
  have hk := nextS_lt (recW d s i) (ffW d s i) i
  have h4 := first4 (p := 2 * plW i + (nextS (recW d s i) (ffW d s i) i : Nat)) (by omega)
  have h3 := first3 hpin
  rw [hp] at h3 h4
  have e4 : (28 + 2 * (2 * (p : Int) + (nextS (recW d s i) (ffW d s i) i : Nat))) = ((28 + 2 * (2 * p + nextS (recW d s i) (ffW d s i) i) : Nat) : Int) := by omega
  have e3 : (4 + (p : Int)) = ((4 + p : Nat) : Int) := by omega
  have o1 : OutP (secW p) pl (putL1 d s i (nextS (recW d s i) (ffW d s i) i) b e).1 := by
    unfold putL1
    rw [hp, h4, e4]
    exact h.lput fun k hk2 => .inr ⟨by omega, by omega⟩
  unfold putW
  split
  · exact o1
  · unfold putL2
    rw [hp, h3, e3]
    exact o1.lput fun k hk2 => .inl (by omega)
theorem stepS_eq {f g : Nat → SCp} {least : Bal} {out : Option Nat} {k : Nat} (hk : f k = g k) (ho : ∀ o, out = some o → f o = g o) : stepS f i least out k = stepS g i least out k := by
  unfold stepS
  cases out with
  | none => simp only [hk]
  | some o => simp only [hk, ho o rfl]
theorem bestS_eq {f g : Nat → SCp} {least : Bal} {first : Nat} (hf : first < 2) (h0 : f 0 = g 0) (h1 : f 1 = g 1) : bestS f i first least = bestS g i first least := by
  have hat : ∀ k, k < 2 → f k = g k := fun k hk => by
    rcases (show k = 0 ∨ k = 1 by omega) with rfl | rfl
    · exact h0
    · exact h1
  unfold bestS
  rw [stepS_eq (hat first hf) (fun o h => by cases h)]
  refine stepS_eq (hat _ (by omega)) fun o h => ?_
  rcases step_or (f := g) (i := i) (least := least) first with e | e
  · rw [e] at h; cases h
  · rw [e] at h; injection h with h; subst h; exact hat _ hf
theorem intactS_eq {p : SRec} {f g : Nat → SCp} (h0 : f 0 = g 0) (h1 : f 1 = g 1) : intactS p f i = intactS p g i := by
  have hb : beyondS p f i = beyondS p g i := by unfold beyondS; rw [h0, h1]
  have hd : badS f = badS g := by unfold badS; rw [h0, h1]
  unfold intactS
  rw [hb, hd, bestS_eq (by omega) h0 h1, bestS_eq (by omega) h0 h1]
theorem whatS_eq {p : SRec} {f g : Nat → SCp} (h0 : f 0 = g 0) (h1 : f 1 = g 1) : whatS p f i = whatS p g i := by
  have hb : beyondS p f i = beyondS p g i := by unfold beyondS; rw [h0, h1]
  have hd : badS f = badS g := by unfold badS; rw [h0, h1]
  unfold whatS
  rw [intactS_eq h0 h1, hb, hd]
  cases h : intactS p g i with
  | none => rfl
  | some k =>
    have hk := intact_lt h
    rcases (show k = 0 ∨ k = 1 by omega) with rfl | rfl
    · simp only; rw [h0]
    · simp only; rw [h1]
theorem rep_same {p : Nat} (hp : plW i = p) (h : ∀ j, secW p j → readD d' (j : Int) = readD d (j : Int)) : repW d' s i = repW d s i := by
  have hpin := plW_in (i := i)
  have e1 : fr1 d' s.rep 3 (plW i) = fr1 d s.rep 3 (plW i) := by
    unfold fr1 preW
    rw [first3 hpin, hp, show (4 + (p : Int)) = ((4 + p : Nat) : Int) by omega, h (4 + p) (.inl rfl)]
    rfl
  have e2 : ∀ k : Nat, k < 2 → fr2 d' s.rep 4 (2 * plW i + k) = fr2 d s.rep 4 (2 * plW i + k) := fun k hk => by
    unfold fr2 preW
    rw [first4 (by omega), hp, show (28 + 2 * (2 * (p : Int) + k)) = ((28 + 2 * (2 * p + k) : Nat) : Int) by omega, show (((28 + 2 * (2 * p + k) : Nat) : Int) + 1) = ((28 + 2 * (2 * p + k) + 1 : Nat) : Int) by omega, h (28 + 2 * (2 * p + k)) (.inr ⟨by omega, by omega⟩), h (28 + 2 * (2 * p + k) + 1) (.inr ⟨by omega, by omega⟩)]
  have e3 : recW d' s i = recW d s i := by unfold recW; rw [e1]
  have e4 : ∀ k : Nat, k < 2 → ffW d' s i k = ffW d s i k := fun k hk => by unfold ffW cpW; rw [e2 k hk]
  unfold repW
  rw [e3]
  exact whatS_eq (e4 0 (by omega)) (e4 1 (by omega))
end
end Go.Proofs.YtknchbhobopkeaaGreatDoor
namespace Go.Proofs.YtknchbhobopkeaaGreatDoor
def OldIs (c : SCp) (i : Int) (b : Bal) : Prop := c = zCp 0 ∨ (c.st = 1 ∧ (c.idx < i ∨ (c.idx = i ∧ lessB c.bal b = true)))
structure PlIs (d : Dk) (s : Lg) (p : Nat) (i : Int) (b : Bal) (e : En) (k : Nat) : Prop where
  r : recOf (fr1 d s.rep 3 p) = ⟨1, i, b, (k : Int)⟩
  f : cpOf (fr2 d s.rep 4 (2 * p + k)) = ⟨1, i, b, e⟩
  o : OldIs (cpOf (fr2 d s.rep 4 (2 * p + (1 - k : Nat)))) i b
  k2 : k < 2
structure PlNo (d : Dk) (s : Lg) (p : Nat) : Prop where
  r : recOf (fr1 d s.rep 3 p) = zRec 0
  f : ∀ k : Nat, k < 2 → cpOf (fr2 d s.rep 4 (2 * p + k)) = zCp 0
section
variable {d d' : Dk} {s : Lg} {p k : Nat} {i j : Int} {b b' : Bal} {e e' : En}
theorem less_asym {a b : Bal} (h : lessB a b = true) : lessB b a = false := by
  unfold lessB at h ⊢
  simp only [Bool.or_eq_true, Bool.and_eq_true, decide_eq_true_eq, beq_iff_eq, Bool.or_eq_false_iff, Bool.and_eq_false_iff, decide_eq_false_iff_not, beq_eq_false_iff_ne] at h ⊢
  omega
theorem old_of {c : SCp} (h : OldIs c i b) (hij : i ≤ j) : ofS c j = false ∨ (i = j ∧ lessB b c.bal = false) := by
  unfold ofS
  rcases h with rfl | ⟨h1, h2 | ⟨h2, h3⟩⟩
  · exact .inl rfl
  · refine .inl ?_
    rw [Bool.and_eq_false_iff]
    exact .inr (by rw [beq_eq_false_iff_ne]; omega)
  · by_cases hj : i = j
    · exact .inr ⟨hj, less_asym h3⟩
    · refine .inl ?_
      rw [Bool.and_eq_false_iff]
      exact .inr (by rw [beq_eq_false_iff_ne]; omega)
theorem old_idx {c : SCp} (h : OldIs c i b) : c.st = 0 ∨ (c.st = 1 ∧ c.idx ≤ i) := by
  rcases h with rfl | ⟨h1, h2 | ⟨h2, _⟩⟩
  · exact .inl rfl
  · exact .inr ⟨h1, by omega⟩
  · exact .inr ⟨h1, by omega⟩
theorem PlIs.slot (h : PlIs d s p i b e k) (hp : plW j = p) : recW d s j = ⟨1, i, b, (k : Int)⟩ ∧ ffW d s j k = ⟨1, i, b, e⟩ ∧ OldIs (ffW d s j (1 - k)) i b := by
  unfold recW ffW cpW
  rw [hp]
  exact ⟨h.r, h.f, h.o⟩
theorem PlNo.slot (h : PlNo d s p) (hp : plW j = p) : recW d s j = zRec 0 ∧ ffW d s j 0 = zCp 0 ∧ ffW d s j 1 = zCp 0 := by
  unfold recW ffW cpW
  rw [hp]
  exact ⟨h.r, h.f 0 (by omega), h.f 1 (by omega)⟩
theorem two_of {P : SCp → Prop} {f : Nat → SCp} {k : Nat} (hk : k < 2) (h1 : P (f k)) (h2 : P (f (1 - k))) : P (f 0) ∧ P (f 1) := by
  rcases (show k = 0 ∨ k = 1 by omega) with rfl | rfl
  · exact ⟨h1, h2⟩
  · exact ⟨h2, h1⟩
theorem PlIs.intact (h : PlIs d s p i b e k) (hp : plW i = p) : intactS (recW d s i) (ffW d s i) i = some k := by
  obtain ⟨h1, h2, h3⟩ := h.slot hp
  have hk := h.k2
  refine intact_named (k := k) (by rw [h1]) (by rw [h1]) (by rw [h1]; simp only; omega) (by rw [h2]; unfold ofS; simp) (by rw [h1, h2]) ?_
  rw [h1]
  rcases old_of h3 (Int.le_refl i) with h4 | ⟨_, h4⟩
  · exact .inl h4
  · exact .inr h4
theorem PlIs.past (h : PlIs d s p i b e k) (hp : plW j = p) (hij : i < j) : intactS (recW d s j) (ffW d s j) j = none ∧ beyondS (recW d s j) (ffW d s j) j = false ∧ badS (ffW d s j) = false := by
  obtain ⟨h1, h2, h3⟩ := h.slot hp
  have h4 : (ffW d s j k).st = 1 ∧ (ffW d s j k).idx ≤ i := by rw [h2]; exact ⟨rfl, Int.le_refl _⟩
  obtain ⟨a0, a1⟩ := two_of (P := fun c => c.st = 0 ∨ (c.st = 1 ∧ c.idx ≤ i)) h.k2 (.inr h4) (old_idx h3)
  have hof : ∀ c : SCp, (c.st = 0 ∨ (c.st = 1 ∧ c.idx ≤ i)) → ofS c j = false ∧ (c.st == 1 && decide (j < c.idx)) = false ∧ (c.st == 2) = false := fun c hc => by
    unfold ofS
    rcases hc with hc | ⟨hc, hc2⟩
    · rw [hc]; simp
    · rw [hc, show (c.idx == j) = false by rw [beq_eq_false_iff_ne]; omega, decide_eq_false (show ¬ j < c.idx by omega)]
      simp
  obtain ⟨x1, x2, x3⟩ := hof _ a0
  obtain ⟨y1, y2, y3⟩ := hof _ a1
  have hb : beyondS (recW d s j) (ffW d s j) j = false := by
    unfold beyondS
    rw [x2, y2, h1]
    simp only
    rw [decide_eq_false (show ¬ j < i by omega)]
    rfl
  have hbd : badS (ffW d s j) = false := by unfold badS; rw [x3, y3]; rfl
  refine ⟨?_, hb, hbd⟩
  unfold intactS
  rw [if_neg (by rw [h1]; simp only; omega), if_neg (by rw [hb, hbd]; simp)]
  exact best_none x1 y1
theorem PlNo.intact (h : PlNo d s p) (hp : plW j = p) : intactS (recW d s j) (ffW d s j) j = none ∧ beyondS (recW d s j) (ffW d s j) j = false ∧ badS (ffW d s j) = false := by
  obtain ⟨h1, h2, h3⟩ := h.slot hp
  have hb : beyondS (recW d s j) (ffW d s j) j = false := by unfold beyondS; rw [h1, h2, h3]; rfl
  have hbd : badS (ffW d s j) = false := by unfold badS; rw [h2, h3]; rfl
  refine ⟨?_, hb, hbd⟩
  unfold intactS
  rw [if_neg (by rw [h1]; simp [zRec]), if_neg (by rw [hb, hbd]; simp)]
  exact best_none (by rw [h2]; rfl) (by rw [h3]; rfl)
theorem PlIs.next (h : PlIs d s p i b e k) (hp : plW j = p) (hij : i ≤ j) : nextS (recW d s j) (ffW d s j) j = 1 - k := by
  have hk := h.k2
  unfold nextS
  by_cases hj : i = j
  · subst hj
    rw [h.intact hp]
  · rw [(h.past hp (by omega)).1]
    simp only
    rw [(h.slot hp).1, if_pos rfl]
    simp only
    omega
theorem PlNo.next (h : PlNo d s p) (hp : plW j = p) : nextS (recW d s j) (ffW d s j) j = 0 := by
  unfold nextS
  rw [(h.intact hp).1]
  simp only
  rw [(h.slot hp).1, if_neg (by simp [zRec])]
theorem PlIs.rep (h : PlIs d s p i b e k) (hp : plW i = p) : repW d s i = (3, 2, b, e) := by
  unfold repW whatS
  rw [h.intact hp]
  simp only
  rw [(h.slot hp).2.1]
theorem PlIs.rep_past (h : PlIs d s p i b e k) (hp : plW j = p) (hij : i < j) : repW d s j = (0, 1, zeroL, zeroE 0) := by
  obtain ⟨h1, h2, h3⟩ := h.past hp hij
  unfold repW whatS
  rw [h1, h2, h3]
  simp only
  rw [(h.slot hp).1]
  simp only
  rw [if_neg (by omega)]
  simp
theorem PlNo.rep (h : PlNo d s p) (hp : plW j = p) : repW d s j = (0, 1, zeroL, zeroE 0) := by
  obtain ⟨h1, h2, h3⟩ := h.intact hp
  unfold repW whatS
  rw [h1, h2, h3]
  simp only
  rw [(h.slot hp).1]
  simp [zRec]
theorem place_same (s : Lg) (hp : p < 24) (hr : ∀ x, secW p x → readD d' (x : Int) = readD d (x : Int)) : fr1 d' s.rep 3 p = fr1 d s.rep 3 p ∧ ∀ k : Nat, k < 2 → fr2 d' s.rep 4 (2 * p + k) = fr2 d s.rep 4 (2 * p + k) := by
  refine ⟨?_, fun k hk => ?_⟩
  · unfold fr1 preW
    rw [first3 (by omega), show (4 + (p : Int)) = ((4 + p : Nat) : Int) by omega, hr (4 + p) (.inl rfl)]
    rfl
  · unfold fr2 preW
    rw [first4 (by omega), show (28 + 2 * (2 * (p : Int) + k)) = ((28 + 2 * (2 * p + k) : Nat) : Int) by omega, show (((28 + 2 * (2 * p + k) : Nat) : Int) + 1) = ((28 + 2 * (2 * p + k) + 1 : Nat) : Int) by omega, hr (28 + 2 * (2 * p + k)) (.inr ⟨by omega, by omega⟩), hr (28 + 2 * (2 * p + k) + 1) (.inr ⟨by omega, by omega⟩)]
end
end Go.Proofs.YtknchbhobopkeaaGreatDoor
namespace Go.Proofs.YtknchbhobopkeaaGreatDoor
section
variable {d d' : Dk} {s : Lg} {p k : Nat} {i j : Int} {b b' : Bal} {e e' : En}
theorem pc_whole {fr : List UInt8} (h : fr.length = 64) : pcD fr 0 = fr := by unfold pcD; rw [Nat.mul_zero, List.drop_zero]; exact List.take_of_length_le (by omega)
theorem pc_two {fr : List UInt8} (h : fr.length = 128) : pcD fr 0 ++ pcD fr 1 = fr := by
  have := pcs_all (b := fr) (n := 2) (by omega) (by omega) (by omega)
  simpa [List.range_succ] using this
theorem frmR_len (s : Lg) (j : Int) (k : Nat) (b : Bal) : (frmR s j k b).length = 64 := sealF_len (by decide) (by rw [recB_len]; decide)
theorem frmL_len (s : Lg) (j : Int) (k : Nat) (b : Bal) (hm : mayE e = true) : (frmL s j k b e).length = 128 := sealF_len (by decide) (by have := bodyE_len b hm; unfold roomN; simp; omega)
theorem read_rec (hs : LgOk s) (h1 : 1 ≤ j) (h2 : j ≤ 1099511627776) (hp : plW j = p) (hb : mayBl b = true) (hk : k < 2) (hr : readD d ((4 + p : Nat) : Int) = (frmR s j k b, 0)) : recOf (fr1 d s.rep 3 p) = ⟨1, j, b, (k : Int)⟩ := by
  have hpin := plW_in (i := j)
  have hmt := mayT3 hs h1 h2
  have hm := mine_seal (n := 64) (body := recB b k) hmt (by decide) (by rw [recB_len]; decide)
  unfold fr1 preW
  rw [first3 (by omega), show (4 + (p : Int)) = ((4 + p : Nat) : Int) by omega, hr, if_neg (by simp)]
  simp only
  rw [hp] at hm
  unfold frmR
  rw [hp, show mineF (sealF ⟨s.rep, 3, (p : Int), j, s.inc⟩ (recB b k) 64) s.rep 3 p = _ from hm]
  unfold recOf
  rw [if_neg (by simp), parse_rec hb hk]
theorem read_frm (hs : LgOk s) (h1 : 1 ≤ j) (h2 : j ≤ 1099511627776) (hp : plW j = p) (hb : mayBl b = true) (he : mayE e = true) (hk : k < 2) (hr0 : readD d ((28 + 2 * (2 * p + k) : Nat) : Int) = (pcD (frmL s j k b e) 0, 0)) (hr1 : readD d ((28 + 2 * (2 * p + k) + 1 : Nat) : Int) = (pcD (frmL s j k b e) 1, 0)) : cpOf (fr2 d s.rep 4 (2 * p + k)) = ⟨1, j, b, e⟩ := by
  have hpin := plW_in (i := j)
  have hmt := mayT4 hs h1 h2 hk
  have hl := bodyE_len b he
  have hm := mine_seal (n := 128) (body := bodyE b e) hmt (by decide) (by unfold roomN; simp; omega)
  unfold fr2 preW
  rw [first4 (by omega), show (28 + 2 * (2 * (p : Int) + k)) = ((28 + 2 * (2 * p + k) : Nat) : Int) by omega, show (((28 + 2 * (2 * p + k) : Nat) : Int) + 1) = ((28 + 2 * (2 * p + k) + 1 : Nat) : Int) by omega, hr0, hr1, if_neg (by simp)]
  simp only
  rw [pc_two (frmL_len s j k b he)]
  rw [hp] at hm
  unfold frmL
  rw [hp, show mineF (sealF ⟨s.rep, 4, 2 * (p : Int) + k, j, s.inc⟩ (bodyE b e) 128) s.rep 4 (2 * p + k) = _ from hm]
  unfold cpOf
  rw [if_neg (by simp), parse_body hb he]
def afterW (d : Dk) (s : Lg) (j : Int) (p k : Nat) (b : Bal) (e : En) : Dk := { d with pl := plsW (plsW d.pl (28 + 2 * (2 * p + k)) (frmL s j k b e) 2) (4 + p) (frmR s j k b) 1 }
theorem put_full (h : Live d) (hl : d.left < 0) (hp : plW j = p) (he : mayE e = true) (hk : nextS (recW d s j) (ffW d s j) j = k) : putW d s j b e = (afterW d s j p k b e, 0) := by
  have hpin := plW_in (i := j)
  have hk2 := nextS_lt (recW d s j) (ffW d s j) j
  rw [hk] at hk2
  have e4 : firstN 4 (2 * (p : Int) + k) = ((28 + 2 * (2 * p + k) : Nat) : Int) := by rw [first4 (by omega)]; omega
  have e3 : firstN 3 (p : Int) = ((4 + p : Nat) : Int) := by rw [first3 (by omega)]; omega
  have f1 := lput_full (n := 2) (f := 28 + 2 * (2 * p + k)) (fr := frmL s j k b e) h hl (.inr rfl) (by omega) (frmL_len s j k b he)
  have f2 := lput_full (n := 1) (f := 4 + p) (fr := frmR s j k b) (pls_live h (28 + 2 * (2 * p + k)) (frmL s j k b e) 2) hl (.inl rfl) (by omega) (frmR_len s j k b)
  unfold putW putL1 putL2
  rw [hk, hp, e4, e3, f1]
  simp only
  rw [if_neg (by simp)]
  exact f2
theorem after_live (h : Live d) (j : Int) (p k : Nat) (b : Bal) (e : En) : Live (afterW d s j p k b e) := pls_live (pls_live h _ _ 2) _ _ 1
theorem after_read (h : Live d) (hp : p < 24) (hk : k < 2) {x : Nat} (hx : x < 156) : readD (afterW d s j p k b e) (x : Int) = if x = 4 + p then (pcD (frmR s j k b) 0, 0) else if 28 + 2 * (2 * p + k) ≤ x ∧ x < 28 + 2 * (2 * p + k) + 2 then (pcD (frmL s j k b e) (x - (28 + 2 * (2 * p + k))), 0) else readD d x := by
  unfold afterW
  have r1 := pls_read (fr := frmR s j k b) (f := 4 + p) (pls_live h (28 + 2 * (2 * p + k)) (frmL s j k b e) 2) (.inl rfl) (by omega) hx
  have r2 := pls_read (fr := frmL s j k b e) (f := 28 + 2 * (2 * p + k)) h (.inr rfl) (by omega) hx
  simp only at r1 r2
  rw [r1, r2]
  by_cases hc : x = 4 + p
  · subst hc
    rw [if_pos (by omega), if_pos rfl, Nat.sub_self]
  · rw [if_neg (by omega), if_neg hc]
theorem after_other (h : Live d) (hp : p < 24) (hk : k < 2) {x : Nat} (hx : x < 156) (hs : ¬ secW p x) : readD (afterW d s j p k b e) (x : Int) = readD d x := by
  unfold secW at hs
  rw [after_read h hp hk hx, if_neg (by omega), if_neg (by omega)]
theorem after_rec (h : Live d) (hs : LgOk s) (h1 : 1 ≤ j) (h2 : j ≤ 1099511627776) (hp : plW j = p) (hb : mayBl b = true) (he : mayE e = true) (hk : k < 2) : recOf (fr1 (afterW d s j p k b e) s.rep 3 p) = ⟨1, j, b, (k : Int)⟩ ∧ cpOf (fr2 (afterW d s j p k b e) s.rep 4 (2 * p + k)) = ⟨1, j, b, e⟩ ∧ fr2 (afterW d s j p k b e) s.rep 4 (2 * p + (1 - k : Nat)) = fr2 d s.rep 4 (2 * p + (1 - k : Nat)) := by
  have hpin := plW_in (i := j)
  have hp2 : p < 24 := by omega
  refine ⟨read_rec hs h1 h2 hp hb hk ?_, read_frm hs h1 h2 hp hb he hk ?_ ?_, ?_⟩
  · rw [after_read h hp2 hk (by omega), if_pos rfl, pc_whole (frmR_len s j k b)]
  · rw [after_read h hp2 hk (by omega), if_neg (by omega), if_pos (by omega), Nat.sub_self]
  · rw [after_read h hp2 hk (by omega), if_neg (by omega), if_pos (by omega), show 28 + 2 * (2 * p + k) + 1 - (28 + 2 * (2 * p + k)) = 1 by omega]
  · unfold fr2 preW
    rw [first4 (by omega), show (28 + 2 * (2 * (p : Int) + (1 - k : Nat))) = ((28 + 2 * (2 * p + (1 - k)) : Nat) : Int) by omega, show (((28 + 2 * (2 * p + (1 - k)) : Nat) : Int) + 1) = ((28 + 2 * (2 * p + (1 - k)) + 1 : Nat) : Int) by omega]
    have g1 : readD (afterW d s j p k b e) ((28 + 2 * (2 * p + (1 - k)) : Nat) : Int) = readD d ((28 + 2 * (2 * p + (1 - k)) : Nat) : Int) := by
      rw [after_read h hp2 hk (by omega), if_neg (by omega), if_neg (by omega)]
    have g2 : readD (afterW d s j p k b e) ((28 + 2 * (2 * p + (1 - k)) + 1 : Nat) : Int) = readD d ((28 + 2 * (2 * p + (1 - k)) + 1 : Nat) : Int) := by
      rw [after_read h hp2 hk (by omega), if_neg (by omega), if_neg (by omega)]
    rw [g1, g2]
theorem put_is (h : Live d) (hl : d.left < 0) (hs : LgOk s) (h1 : 1 ≤ j) (h2 : j ≤ 1099511627776) (hp : plW j = p) (hb : mayBl b' = true) (he : mayE e' = true) (hi : PlIs d s p i b e k) (hij : i < j ∨ (i = j ∧ lessB b b' = true)) :
    putW d s j b' e' = (afterW d s j p (1 - k) b' e', 0) ∧ PlIs (afterW d s j p (1 - k) b' e') s p j b' e' (1 - k) := by
  have hk := hi.k2
  refine ⟨put_full h hl hp he (hi.next hp (by omega)), ?_⟩
  obtain ⟨a1, a2, a3⟩ := after_rec (k := 1 - k) h hs h1 h2 hp hb he (by omega)
  refine ⟨a1, a2, ?_, by omega⟩
  rw [a3, show 1 - (1 - k) = k by omega, hi.f]
  refine .inr ⟨rfl, ?_⟩
  simp only
  exact hij
theorem put_no (h : Live d) (hl : d.left < 0) (hs : LgOk s) (h1 : 1 ≤ j) (h2 : j ≤ 1099511627776) (hp : plW j = p) (hb : mayBl b' = true) (he : mayE e' = true) (hi : PlNo d s p) :
    putW d s j b' e' = (afterW d s j p 0 b' e', 0) ∧ PlIs (afterW d s j p 0 b' e') s p j b' e' 0 := by
  refine ⟨put_full h hl hp he (hi.next hp), ?_⟩
  obtain ⟨a1, a2, a3⟩ := after_rec (k := 0) h hs h1 h2 hp hb he (by omega)
  refine ⟨a1, a2, ?_, by omega⟩
  rw [a3, hi.f 1 (by omega)]
  exact .inl rfl
theorem PlIs.keep {q : Nat} (hi : PlIs d s p i b e k) (h : Live d) (hp : p < 24) (hq : q < 24) (hpq : p ≠ q) {k' : Nat} (hk : k' < 2) (j : Int) (b' : Bal) (e' : En) : PlIs (afterW d s j q k' b' e') s p i b e k := by
  obtain ⟨a, c⟩ := place_same (d := d) (d' := afterW d s j q k' b' e') s hp (fun x hx => by unfold secW at hx; exact after_other h hq hk (by omega) (by unfold secW; omega))
  have hk2 := hi.k2
  exact ⟨by rw [a]; exact hi.r, by rw [c k hk2]; exact hi.f, by rw [c (1 - k) (by omega)]; exact hi.o, hk2⟩
theorem PlNo.keep {q : Nat} (hi : PlNo d s p) (h : Live d) (hp : p < 24) (hq : q < 24) (hpq : p ≠ q) {k' : Nat} (hk : k' < 2) (j : Int) (b' : Bal) (e' : En) : PlNo (afterW d s j q k' b' e') s p := by
  obtain ⟨a, c⟩ := place_same (d := d) (d' := afterW d s j q k' b' e') s hp (fun x hx => by unfold secW at hx; exact after_other h hq hk (by omega) (by unfold secW; omega))
  exact ⟨by rw [a]; exact hi.r, fun k hk3 => by rw [c k hk3]; exact hi.f k hk3⟩
theorem new_live156 : Live (newDk 156) := ⟨by simp [newDk], rfl, rfl, rfl⟩
theorem new_rd {x : Nat} (hx : x < 156) : readD (newDk 156) (x : Int) = (zeros64, 0) := by
  rw [rd_live new_live156 hx]
  show rdP (List.replicate 156 zeroPl) x = _
  unfold rdP
  rw [List.getElem?_replicate, if_pos hx]
  rfl
theorem open_nought (n : Nat) (h : roomN n ≠ 0) : openF (List.replicate n 0) = (0, zeroTg, []) := by
  unfold openF
  rw [List.length_replicate, if_neg h, noughts_rep, if_pos rfl]
theorem new_no (s : Lg) (hp : p < 24) : PlNo (newDk 156) s p := by
  have hz1 : ∀ a c : Int, mineF zeros64 a 3 c = (0, zeroTg, []) := fun a c => by
    unfold mineF zeros64
    rw [open_nought 64 (by decide)]
    simp
  have hz2 : ∀ a c : Int, mineF (zeros64 ++ zeros64) a 4 c = (0, zeroTg, []) := fun a c => by
    unfold mineF
    rw [show zeros64 ++ zeros64 = List.replicate 128 0 from rfl, open_nought 128 (by decide)]
    simp
  refine ⟨?_, fun k hk => ?_⟩
  · unfold fr1 preW
    rw [first3 (by omega), show (4 + (p : Int)) = ((4 + p : Nat) : Int) by omega, new_rd (by omega), if_neg (by simp)]
    simp only
    rw [hz1]
    rfl
  · unfold fr2 preW
    rw [first4 (by omega), show (28 + 2 * (2 * (p : Int) + k)) = ((28 + 2 * (2 * p + k) : Nat) : Int) by omega, show (((28 + 2 * (2 * p + k) : Nat) : Int) + 1) = ((28 + 2 * (2 * p + k) + 1 : Nat) : Int) by omega, new_rd (by omega), new_rd (by omega), if_neg (by simp)]
    simp only
    rw [hz2]
    rfl
end
end Go.Proofs.YtknchbhobopkeaaGreatDoor
namespace Go.Proofs.YtknchbhobopkeaaGreatDoor
open Go.RowKit
theorem may_nop : mayE (zeroE 1) = true := by simp [mayE, zeroE, nilO]
set_option maxRecDepth 100000 in
set_option maxHeartbeats 4000000 in
theorem lnoop_any (w : World) : Calls Tryz.prog 10 #[] w fun en w' => en = .returned (.agg (enA (zeroE 1))) ∧ Below w.heap.size w w' := by
  go_enter Tryz.func10, Tryz.ntmps10
  refine wp_seq_k (fun K hK => ?_)
  have HK := Lib.hid hK
  clear hK
  go_wp2
  refine HK.out _ _ ?_
  clear HK
  go_wp2_with ((first | (with_reducible refine wpList_stNew 36 _ _ ?_) | (with_reducible refine wp_stNew 36 _ _ ?_)); refine ⟨_, _, ⟨Tryz.sizeOf36, rfl, en_k 1⟩, rfl, ?_⟩)
  go_wp2
  refine bodyPost_ret (results_c1 rfl rfl (run_loadVar_all Tryz.isAgg36 Tryz.sizeOf36 (heap_alloc_new w (Obj.cells (enA (zeroE 1)) 36)) rfl)) rfl ⟨rfl, blw w (Obj.cells (enA (zeroE 1)) 36)⟩
theorem eqRp (r : Rpt) (w : World) : (binOp .eql 44 (.agg (rptA r)) (.agg (rptA r))).run Tryz.prog w = .ok (.bool true) w := by
  obtain ⟨i, st, ⟨rn, rp⟩, ⟨kd, cl, sq, ⟨ok, key, old, val⟩⟩⟩ := r
  unfold rptA rpA
  simp only
  go_simp
def sA : Lg := ⟨3, 1, 0⟩
def sA8 : Lg := ⟨3, 1, 8⟩
theorem live_up {d : Dk} (h : Live d) : upD d = true := by
  have h1 := h.dn
  have h2 := h.de
  unfold upD
  simp [h1, h2, h.len]
theorem ex_wal : ∃ d1 : Dk, putW (newDk 156) sA 1 ⟨1, 0⟩ (zeroE 1) = (d1, 0) ∧ liveW (newDk 156) sA 1 = 0 ∧ getW d1 sA 1 = (⟨1, 2, ⟨1, 0⟩, zeroE 1⟩, 0) ∧ getW d1 sA 25 = (zeroR', 2) ∧ cutW sA 8 = (sA8, 0) ∧ getW d1 sA8 25 = (⟨25, 1, zeroL, zeroE 0⟩, 0) ∧ getW d1 sA8 8 = (zeroR', 2) ∧ Live d1 := by
  have hs : LgOk sA := ⟨by decide, by decide, by decide⟩
  have hu0 := live_up new_live156
  obtain ⟨e1, i1⟩ := put_no (b' := ⟨1, 0⟩) (e' := zeroE 1) new_live156 (by decide) hs (j := 1) (p := 0) (by decide) (by decide) (by decide) (by decide) may_nop (new_no sA (by decide))
  have l1 := after_live new_live156 1 0 0 ⟨1, 0⟩ (zeroE 1) (s := sA)
  have hu := live_up l1
  generalize afterW (newDk 156) sA 1 0 0 ⟨1, 0⟩ (zeroE 1) = d1 at *
  have i2 : PlIs d1 sA8 0 1 ⟨1, 0⟩ (zeroE 1) 0 := ⟨i1.r, i1.f, i1.o, i1.k2⟩
  refine ⟨d1, e1, ?_, ?_, ?_, by rfl, ?_, ?_, l1⟩
  · unfold liveW; rw [if_neg (by decide), if_neg (by simp [hu0])]
  · unfold getW liveW rptW; rw [if_neg (show ¬ ((1 : Int) ≤ sA.snap ∨ sA.snap + 24 < 1) by decide)]; simp only [hu]; rw [i1.rep (by decide)]; rfl
  · unfold getW liveW; rw [if_pos (show ((25 : Int) ≤ sA.snap ∨ sA.snap + 24 < 25) by decide), if_pos (by simp)]
  · unfold getW liveW rptW; rw [if_neg (show ¬ ((25 : Int) ≤ sA8.snap ∨ sA8.snap + 24 < 25) by decide)]; simp only [hu]; rw [i2.rep_past (by decide) (by decide)]; rfl
  · unfold getW liveW; rw [if_pos (show ((8 : Int) ≤ sA8.snap ∨ sA8.snap + 24 < 8) by decide), if_pos (by simp)]
end Go.Proofs.YtknchbhobopkeaaGreatDoor
namespace Go.Proofs.YtknchbhobopkeaaGreatDoor
open Go.RowKit
section
variable {B g gp q : Nat} {wv : Value} {d : Dk} {w w' : World} {s : Lg} {b : Bal} {e : En}
set_option maxRecDepth 100000 in
set_option maxHeartbeats 1000000 in
theorem lput_ok (h : LgB w q g s) (hd : DiskB B g gp wv d w) (hb : B ≤ w.heap.size) (hs : LgOk s) (i : Int) (hl : liveW d s i = 0) (hbm : mayBl b = true) (hem : mayE e = true) (hw : d.waits.length ≤ 900) : Calls Tryz.prog 9 #[.pointer (some ⟨q, 0, none⟩), .int .i64 i, .agg (blA b), .agg (enA e)] w fun en w' => en = .returned (.int .i64 (putW d s i b e).2) ∧ (∃ wv', DiskB B g gp wv' (putW d s i b e).1 w') ∧ Kt B w w' := by
  obtain ⟨h1, h2, _⟩ := live_in hs hl
  have hli := fun w' (h : LgB w' q g s) (D : DiskB B g gp wv d w') => llive_any2 h D hs.p i
  rw [hl] at hli
  have hpr := fun w => eprint_ok (w := w) (b := b) (e := e) hbm hem
  have hre := fun w' (h : LgB w' q g s) (D : DiskB B g gp wv d w') => wread_any h D i h1 h2
  have hwh : (recW d s i).wh = 0 ∨ (recW d s i).wh = 1 := recOf_wh _
  have hnx := fun w => next_any2 (p := recW d s i) (f := ffW d s i) (i := i) hwh w
  have hk2 := nextS_lt (recW d s i) (ffW d s i) i
  have hpl := fun w => wplace_any i h1 h2 w
  have hbl := bodyE_len b hem
  obtain ⟨r, hr⟩ : ∃ r, putW d s i b e = r := ⟨_, rfl⟩
  rw [hr]
  unfold putW at hr
  generalize recW d s i = p at *
  generalize ffW d s i = f at *
  obtain ⟨k, hk⟩ : ∃ k, nextS p f i = k := ⟨_, rfl⟩
  rw [hk] at hr hnx hk2
  have hsp := fun w => sprint_ok (w := w) (b := b) hbm k hk2
  have hmy4 := mayT4 hs h1 h2 hk2
  have hmy3 := mayT3 hs h1 h2
  have hpin := plW_in (i := i)
  have hf4 := first4 (p := 2 * plW i + k) (by omega)
  have hf3 := first3 hpin
  have hW4 := fun w' (L : LgB w' q g s) (D : DiskB B g gp wv d w') hB a cap S => lwrite2_any (f := firstN 4 (2 * plW i + k)) L D hB rfl (by omega) (by omega) i a cap (bodyE b e) S hmy4 (by omega)
  have ht4 := lputD_wt d (firstN 4 (2 * plW i + k)) (frmL s i k b e) 2
  unfold putL1 putL2 at hr
  obtain ⟨r4, hr4⟩ : ∃ r4, lputD d (firstN 4 (2 * plW i + k)) (frmL s i k b e) 2 = r4 := ⟨_, rfl⟩
  rw [show sealF ⟨s.rep, 4, 2 * plW i + k, i, s.inc⟩ (bodyE b e) 128 = frmL s i k b e from rfl, hr4] at hW4
  rw [hr4] at hr ht4
  have hW3 := fun w' wv' (L : LgB w' q g s) (D : DiskB B g gp wv' r4.1 w') hB a cap S => lwrite1_any (f := firstN 3 (plW i)) L D hB rfl (by omega) (by omega) i a cap (recB b k) S hmy3 (by rw [recB_len]; omega)
  obtain ⟨r3, hr3⟩ : ∃ r3, lputD r4.1 (firstN 3 (plW i)) (frmR s i k b) 1 = r3 := ⟨_, rfl⟩
  rw [show sealF ⟨s.rep, 3, plW i, i, s.inc⟩ (recB b k) 64 = frmR s i k b from rfl, hr3] at hW3
  rw [hr3] at hr
  have HR := Lib.hid hr
  have hki : 0 ≤ (k : Int) ∧ (k : Int) < 2 := by omega
  clear hr hr3 hr4 ht4 hf3 hf4 hmy3 hmy4 hk hwh hbl hs hl hbm hem
  generalize plW i = pp at *
  generalize bodyE b e = body at *
  generalize recB b k = rbd at *
  generalize (k : Int) = ki at *
  have hbB := blw w (Obj.cells (blA b) 32)
  have hb0 := hbB.trans ((blw (w.alloc (Obj.cells (blA b) 32)) (Obj.cells (enA e) 36)).mono hbB.size)
  have Bx : ((w.alloc (Obj.cells (blA b) 32)).alloc (Obj.cells (enA e) 36)).heap[w.heap.size]? = some (.cells (blA b) 32 (0, 0)) := tr_al (Obj.cells (enA e) 36) (heap_alloc_new w (Obj.cells (blA b) 32))
  have Ex : ((w.alloc (Obj.cells (blA b) 32)).alloc (Obj.cells (enA e) 36)).heap[w.heap.size + 1]? = some (.cells (enA e) 36 (0, 0)) := new_two w (Obj.cells (blA b) 32) (Obj.cells (enA e) 36)
  have L0 := h.below hb0
  have D0 := hd.below hb0
  go_enter Tryz.func9, Tryz.ntmps9
  refine wp_seq_k (fun K hK => ?_)
  have HK := Lib.hid hK
  clear hK
  go_wp2
  refine HK.out _ _ ?_
  clear HK
  generalize (w.alloc (Obj.cells (blA b) 32)).alloc (Obj.cells (enA e) 36) = w0 at *
  clear h hd hbB
  refine wp_seq_k (fun K hK => ?_)
  have HK := Lib.hid hK
  clear hK
  go_wp2_with (go_at_call 29; refine (hli _ L0 D0).mono ?_; rintro en w1 ⟨rfl, rfl⟩)
  refine HK.out _ _ ?_
  clear HK
  refine wp_seq_k (fun K hK => ?_)
  have HK := Lib.hid hK
  clear hK
  go_wp2
  refine HK.out _ _ ?_
  clear HK
  refine wp_seq_k (fun K hK => ?_)
  have HK := Lib.hid hK
  clear hK
  go_wp2_with (first
      | ((with_reducible refine wpList_ldB 32 _ ?_); refine ⟨rfl, _, ⟨_, _, _, _, _, Tryz.isAgg32, Tryz.sizeOf32, rfl, ‹_›, arr_all rfl⟩, ?_⟩)
      | ((with_reducible refine wpList_ldB 36 _ ?_); refine ⟨rfl, _, ⟨_, _, _, _, _, Tryz.isAgg36, Tryz.sizeOf36, rfl, ‹_›, arr_all rfl⟩, ?_⟩)
      | (go_at_call 30; refine (hpr _).mono ?_; rintro en w2 ⟨⟨a2, c2, rfl, O2⟩, hb2⟩))
  refine HK.out _ _ ?_
  clear HK
  have L2 := L0.below hb2
  have D2 := D0.below hb2
  have B2 := tr_bl hb2 Bx
  have hx2 := hb0.trans (hb2.mono hb0.size)
  have O2 := O2.mono hb0.size
  clear L0 D0 Bx Ex hb0 hb2 hpr hli
  refine wp_seq_k (fun K hK => ?_)
  have HK := Lib.hid hK
  clear hK
  go_wp2
  refine HK.out _ _ ?_
  clear HK
  refine wp_seq_k (fun K hK => ?_)
  have HK := Lib.hid hK
  clear hK
  go_wp2_with (first
      | (go_at_call 31; refine (hre _ L2 D2).mono ?_; rintro en w4 ⟨rfl, hb6⟩; have X40 : ((w4.alloc (Obj.cells #[.int .u8 0, .int .i64 0, .int .i64 0, .int .i64 0, .int .i64 0] 79)).alloc (Obj.cells #[.int .u8 0, .int .i64 0, .int .i64 0, .int .i64 0, .int .u8 0, .int .i64 0, .int .i64 0, .int .u8 0, .string ⟨#[]⟩, .string ⟨#[]⟩, .string ⟨#[]⟩, .int .u8 0, .int .i64 0, .int .i64 0, .int .i64 0, .int .u8 0, .int .i64 0, .int .i64 0, .int .u8 0, .string ⟨#[]⟩, .string ⟨#[]⟩, .string ⟨#[]⟩] 82)).heap[w4.heap.size]? = some (.cells (recA (zRec 0)) 79 (0, 0)) := tr_al (Obj.cells #[.int .u8 0, .int .i64 0, .int .i64 0, .int .i64 0, .int .u8 0, .int .i64 0, .int .i64 0, .int .u8 0, .string ⟨#[]⟩, .string ⟨#[]⟩, .string ⟨#[]⟩, .int .u8 0, .int .i64 0, .int .i64 0, .int .i64 0, .int .u8 0, .int .i64 0, .int .i64 0, .int .u8 0, .string ⟨#[]⟩, .string ⟨#[]⟩, .string ⟨#[]⟩] 82) (heap_alloc_new w4 (Obj.cells #[.int .u8 0, .int .i64 0, .int .i64 0, .int .i64 0, .int .i64 0] 79)); have Y40 : ((w4.alloc (Obj.cells #[.int .u8 0, .int .i64 0, .int .i64 0, .int .i64 0, .int .i64 0] 79)).alloc (Obj.cells #[.int .u8 0, .int .i64 0, .int .i64 0, .int .i64 0, .int .u8 0, .int .i64 0, .int .i64 0, .int .u8 0, .string ⟨#[]⟩, .string ⟨#[]⟩, .string ⟨#[]⟩, .int .u8 0, .int .i64 0, .int .i64 0, .int .i64 0, .int .u8 0, .int .i64 0, .int .i64 0, .int .u8 0, .string ⟨#[]⟩, .string ⟨#[]⟩, .string ⟨#[]⟩] 82)).heap[w4.heap.size + 1]? = some (.cells (ffA (fun _ => zCp 0)) 82 (0, 0)) := new_two w4 (Obj.cells #[.int .u8 0, .int .i64 0, .int .i64 0, .int .i64 0, .int .i64 0] 79) (Obj.cells #[.int .u8 0, .int .i64 0, .int .i64 0, .int .i64 0, .int .u8 0, .int .i64 0, .int .i64 0, .int .u8 0, .string ⟨#[]⟩, .string ⟨#[]⟩, .string ⟨#[]⟩, .int .u8 0, .int .i64 0, .int .i64 0, .int .i64 0, .int .u8 0, .int .i64 0, .int .i64 0, .int .u8 0, .string ⟨#[]⟩, .string ⟨#[]⟩, .string ⟨#[]⟩] 82))
      | ((with_reducible refine wpList_stB 79 _ _ ?_); refine ⟨_, _, _, ⟨_, _, _, Tryz.sizeOf79, rfl, X40, rec_over _ p⟩, ?_⟩; intro w41 X41 g41; have Y41 := tr_st g41 Y40 (by omega))
      | ((with_reducible refine wpList_stB 82 _ _ ?_); refine ⟨_, _, _, ⟨_, _, _, Tryz.sizeOf82, rfl, Y41, ff_over _ f⟩, ?_⟩; intro w42 Y42 g42))
  refine HK.out _ _ ?_
  clear HK
  have X42 := tr_st g42 X41 (by omega)
  have hbb := hb6.trans (((blw w4 (Obj.cells #[.int .u8 0, .int .i64 0, .int .i64 0, .int .i64 0, .int .i64 0] 79)).trans ((blw (w4.alloc (Obj.cells #[.int .u8 0, .int .i64 0, .int .i64 0, .int .i64 0, .int .i64 0] 79)) (Obj.cells #[.int .u8 0, .int .i64 0, .int .i64 0, .int .i64 0, .int .u8 0, .int .i64 0, .int .i64 0, .int .u8 0, .string ⟨#[]⟩, .string ⟨#[]⟩, .string ⟨#[]⟩, .int .u8 0, .int .i64 0, .int .i64 0, .int .i64 0, .int .u8 0, .int .i64 0, .int .i64 0, .int .u8 0, .string ⟨#[]⟩, .string ⟨#[]⟩, .string ⟨#[]⟩] 82)).mono (blw w4 (Obj.cells #[.int .u8 0, .int .i64 0, .int .i64 0, .int .i64 0, .int .i64 0] 79)).size)).mono hb6.size)
  have hsz4 := hb6.size
  have hk42 : Below w2.heap.size w2 w42 := bls (bls hbb (Nat.le_refl _) g41 hsz4) (Nat.le_refl _) g42 (by omega)
  have L42 := L2.below hk42
  have D42 := D2.below hk42
  have B42 := tr_bl hk42 B2
  have O42 := O2.below hk42
  have hx42 := hx2.trans (hk42.mono hx2.size)
  clear hre L2 D2 B2 O2 hx2 hb6 hbb hsz4 hk42 X40 Y40 X41 Y41 g41 g42
  generalize w4.heap.size = cb at *
  refine wp_seq_k (fun K hK => ?_)
  have HK := Lib.hid hK
  clear hK
  go_wp2_with (first
      | ((with_reducible refine wpList_ldB 79 _ ?_); refine ⟨rfl, _, ⟨_, _, _, _, _, Tryz.isAgg79, Tryz.sizeOf79, rfl, ‹_›, arr_all rfl⟩, ?_⟩)
      | ((with_reducible refine wpList_ldB 82 _ ?_); refine ⟨rfl, _, ⟨_, _, _, _, _, Tryz.isAgg82, Tryz.sizeOf82, rfl, ‹_›, arr_all rfl⟩, ?_⟩)
      | (go_at_call 32; refine (hnx _).mono ?_; rintro en w5 ⟨rfl, hb7⟩))
  refine HK.out _ _ ?_
  clear HK
  have L5 := L42.below hb7
  have D5 := D42.below hb7
  have B5 := tr_bl hb7 B42
  have S5 := (O42.below hb7).slb
  have hx5 := hx42.trans (hb7.mono hx42.size)
  have hB5 := Nat.le_trans hb hx5.size
  have k5 := Kt.of hx5 hb
  clear L42 D42 B42 O42 hx42 hb7 X42 Y42 hnx hx5
  refine wp_seq_k (fun K hK => ?_)
  have HK := Lib.hid hK
  clear hK
  refine wp_seq_k (fun K hK => ?_)
  have HK := Lib.hid hK
  clear hK
  go_wp2_with (first
      | (go_at_call 34; refine (hpl _).mono ?_; rintro en w6 ⟨rfl, rfl⟩)
      | (go_at_call 33; refine (hW4 _ L5 D5 hB5 a2 c2 S5).mono ?_; rintro en w7 ⟨rfl, ⟨wv7, D7⟩, k7⟩))
  refine HK.out _ _ ?_
  clear HK
  have B7 := k7.ty _ _ _ B5 (by decide) (by decide) (by decide)
  have L7 := L5.kt k7
  have hB7 := Nat.le_trans hB5 k7.bl.size
  have k8 := k5.trans k7
  clear L5 D5 B5 S5 k5 k7 hW4 hB5
  by_cases h4 : r4.2 = 0
  case neg =>
    obtain rfl : r4 = r := by rw [← HR.out, if_pos h4]
    have e4 : (r4.2 != 0) = true := by rw [bne_iff_ne]; exact h4
    clear HR h4
    go_wp2
    go_ret
    exact ⟨rfl, ⟨_, D7⟩, k8⟩
  case pos =>
    obtain rfl : r3 = r := by rw [← HR.out, if_neg (by simp [h4])]
    rw [h4]
    clear HR h4
    go_wp2
    refine HK.out _ _ ?_
    clear HK
    refine wp_seq_k (fun K hK => ?_)
    have HK := Lib.hid hK
    clear hK
    go_wp2_with (first
          | ((with_reducible refine wpList_ldB 32 _ ?_); refine ⟨rfl, _, ⟨_, _, _, _, _, Tryz.isAgg32, Tryz.sizeOf32, rfl, ‹_›, arr_all rfl⟩, ?_⟩)
          | (go_at_call 35; refine (hsp _).mono ?_; rintro en w9 ⟨⟨a9, c9, rfl, O9⟩, hb9⟩))
    refine HK.out _ _ ?_
    clear HK
    have hW3' := hW3 w9 wv7 (L7.below hb9) (D7.below hb9) (Nat.le_trans hB7 hb9.size) a9 c9 O9.slb
    have k9 := k8.trans (Kt.of hb9 hB7)
    clear L7 D7 B7 k8 hW3 O9 hb9 hB7 hsp
    go_wp2_with (first
      | (go_at_call 34; refine (hpl _).mono ?_; rintro en w6 ⟨rfl, rfl⟩)
      | (go_at_call 33; refine hW3'.mono ?_; rintro en w10 ⟨rfl, ⟨wv10, D10⟩, k10⟩))
    go_ret
    exact ⟨rfl, ⟨_, D10⟩, k9.trans k10⟩
end
end Go.Proofs.YtknchbhobopkeaaGreatDoor
namespace Go.Proofs.YtknchbhobopkeaaGreatDoor
open Go.RowKit
theorem ne_tyA {w : World} {g j : Nat} {cs cs' : Array Value} {T T' : TypeId} (h : w.heap[g]? = some (.cells cs T (0, 0))) (h2 : w.heap[j]? = some (.cells cs' T' (0, 0))) (hn : T' ≠ T) : g ≠ j := by
  rintro rfl
  rw [h] at h2
  injection h2 with h2
  injection h2 with h3 h4
  exact hn h4.symm
theorem DiskB.otA {B g gp mb : Nat} {wv : Value} {d : Dk} {w w1 : World} {cs : Array Value} {T : TypeId} (h : DiskB B g gp wv d w) (hg : w.grownBy w1 (some mb)) (hc : w.heap[mb]? = some (.cells cs T (0, 0))) (h1 : 71 ≠ T) (h2 : 134 ≠ T) (h3 : 132 ≠ T) : DiskB B g gp wv d w1 :=
  ⟨tr_st hg h.box (ne_tyA hc h.box h1), tr_st hg h.pls (ne_tyA hc h.pls h2), owns_ne h.wts hg hc h3, h.gb, h.pb, h.n0, h.nl, h.lo, h.hi, h.ok, h.wk⟩
theorem rt_new (r : Rpt) : (Value.agg (rptA r)).cells = rptA r ∧ (rptA r).size = 11 ∧ ∀ u ∈ (rptA r).toList, u.oneCell' = true := ⟨rfl, rfl, by simp [rptA, rpA, Value.oneCell']⟩
theorem build_rp (i : Int) (st : Int) (b : Bal) (e : En) (w : World) : (Instr.build 44 #[(0, .int .i64 i), (1, .int .u8 st), (2, .agg (blA b)), (3, .agg (enA e))]).run Tryz.prog w = .ok (.agg (rptA ⟨i, st, b, e⟩)) w := by kernel_rfl
theorem build_rp2 (i : Int) (st : Int) (w : World) : (Instr.build 44 #[(0, .int .i64 i), (1, .int .u8 st)]).run Tryz.prog w = .ok (.agg (rptA ⟨i, st, zeroL, zeroE 0⟩)) w := by kernel_rfl
theorem run_gqR (x y : Operand) (u v : Array Value) (w : World) : (eqGuard .eql 44 x y (.agg u) (.agg v)).run Tryz.prog w = .ok () w := by
  have h : Tryz.prog.eqGuardType Tryz.prog.depth 44 = false := by kernel_rfl
  unfold eqGuard
  go_simp
set_option maxRecDepth 100000 in
set_option maxHeartbeats 2000000 in
theorem lawake_any (w : World) : Calls Tryz.prog 6 #[] w fun e w' => e = .returned (.bool true) ∧ Below w.heap.size w w' := by
  obtain ⟨d1, ep, el, eg1, eg25, ec, egp, eg8, hL1⟩ := ex_wal
  have hu1 := live_up hL1
  have HEP := Lib.hid ep
  have HEL := Lib.hid el
  have HEG1 := Lib.hid eg1
  have HEG25 := Lib.hid eg25
  have HEC := Lib.hid ec
  have HEGP := Lib.hid egp
  have HEG8 := Lib.hid eg8
  have HL1 := Lib.hid hL1
  clear ep el eg1 eg25 ec egp eg8 hL1 hu1
  have hsA : LgOk sA := ⟨by decide, by decide, by decide⟩
  have hsA8 : LgOk sA8 := ⟨by decide, by decide, by decide⟩
  have HSA := Lib.hid hsA
  have HSA8 := Lib.hid hsA8
  clear hsA hsA8
  have hnw := new_any (B := w.heap.size) (w := w) 156 (by decide) (by decide) (Nat.le_refl _)
  go_enter Tryz.func6, Tryz.ntmps6
  refine wp_seq_k (fun K hK => ?_)
  have HK := Lib.hid hK
  clear hK
  go_wp2
  refine HK.out _ _ ?_
  clear HK
  refine wp_seq_k (fun K hK => ?_)
  have HK := Lib.hid hK
  clear hK
  go_wp2_with (go_at_call 7; refine hnw.mono ?_; rintro e w1 ⟨⟨g, gp, rfl, D1⟩, hb1⟩)
  refine HK.out _ _ ?_
  clear HK
  refine wp_seq_k (fun K hK => ?_)
  have HK := Lib.hid hK
  clear hK
  go_wp2
  refine HK.out _ _ ?_
  clear HK
  have hop := lopen_ok D1 3 1 0 (by show 156 ≤ (List.replicate 156 zeroPl).length; rw [List.length_replicate]; decide) ⟨by decide, by decide, by decide⟩ (live_up new_live156)
  refine wp_seq_k (fun K hK => ?_)
  have HK := Lib.hid hK
  clear hK
  go_wp2_with (go_at_call 8; refine hop.mono ?_; rintro e w2 ⟨⟨q, rfl, hq, L2⟩, hb2⟩)
  refine HK.out _ _ ?_
  clear HK
  have L2 : LgB w2 q g sA := L2
  have D2 := D1.below hb2
  have k2 := (Kt.of hb1 (Nat.le_refl _)).trans (Kt.of hb2 hb1.size)
  have hBq : w.heap.size ≤ q := Nat.le_trans hb1.size hq
  clear hnw hop D1 hb1 hb2 hq
  have hpu := fun w' (hb : Below w2.heap.size w2 w') => lput_ok (L2.below hb) (D2.below hb) (Nat.le_trans k2.bl.size hb.size) HSA.out 1 (b := ⟨1, 0⟩) (e := zeroE 1) HEL.out (by decide) may_nop (by show ([] : List (List UInt8 × Nat)).length ≤ 900; simp)
  rw [HEP.out] at hpu
  refine wp_seq_k (fun K hK => ?_)
  have HK := Lib.hid hK
  clear hK
  go_wp2_with (first
      | (go_at_call 10; refine (lnoop_any _).mono ?_; rintro e w3 ⟨rfl, hb3⟩)
      | (go_at_call 9; refine (hpu _ hb3).mono ?_; rintro e w4 ⟨rfl, ⟨wv4, D4⟩, k4⟩))
  refine HK.out _ _ ?_
  clear HK
  have L4 := (L2.below hb3).kt k4
  have kq4 := (k2.trans (Kt.of hb3 k2.bl.size)).trans k4
  clear hpu D2 L2 k2 hb3 k4
  have hg1 := fun w' (hb : Below w4.heap.size w4 w') => lget_any2 (L4.below hb) (D4.below hb) HSA.out 1
  rw [HEG1.out] at hg1
  refine wp_seq_k (fun K hK => ?_)
  have HK := Lib.hid hK
  clear hK
  go_wp2_with (first
      | (go_at_call 15; refine (hg1 _ (Below.refl _ _)).mono ?_; rintro e w5 ⟨rfl, hb5⟩)
      | ((first | (with_reducible refine wpList_stNew 44 _ _ ?_) | (with_reducible refine wp_stNew 44 _ _ ?_)); refine ⟨_, _, ⟨Tryz.sizeOf44, rfl, rt_new _⟩, rfl, ?_⟩))
  refine HK.out _ _ ?_
  clear HK
  have Q6 := heap_alloc_new w5 (Obj.cells (rptA ⟨1, 2, ⟨1, 0⟩, zeroE 1⟩) 44)
  have hb6 := hb5.trans ((blw w5 (Obj.cells (rptA ⟨1, 2, ⟨1, 0⟩, zeroE 1⟩) 44)).mono hb5.size)
  have hg2 := fun w' (hb : Below w4.heap.size w4 w') => lget_any2 (L4.below hb) (D4.below hb) HSA.out 25
  rw [HEG25.out] at hg2
  clear hg1 hb5
  generalize w5.alloc (Obj.cells (rptA ⟨1, 2, ⟨1, 0⟩, zeroE 1⟩) 44) = w6 at *
  generalize w5.heap.size = q6 at *
  refine wp_seq_k (fun K hK => ?_)
  have HK := Lib.hid hK
  clear hK
  go_wp2_with (first
      | (go_at_call 15; refine (hg2 _ hb6).mono ?_; rintro e w7 ⟨rfl, hb7⟩)
      | ((first | (with_reducible refine wpList_stNew 44 _ _ ?_) | (with_reducible refine wp_stNew 44 _ _ ?_)); refine ⟨_, _, ⟨Tryz.sizeOf44, rfl, rt_new _⟩, rfl, ?_⟩))
  refine HK.out _ _ ?_
  clear HK
  have Q8 := tr_al (Obj.cells (rptA zeroR') 44) (tr_bl hb7 Q6)
  have hb8 := (hb6.trans (hb7.mono hb6.size)).trans ((blw w7 (Obj.cells (rptA zeroR') 44)).mono (Nat.le_trans hb6.size hb7.size))
  have L8 := L4.below hb8
  have D8 := D4.below hb8
  have k8 := kq4.trans (Kt.of hb8 kq4.bl.size)
  clear hg2 hb6 hb7 Q6 hb8 L4 D4 kq4
  generalize w7.alloc (Obj.cells (rptA zeroR') 44) = w8 at *
  generalize w7.heap.size = q8 at *
  have hcu := lcut_any2 L8 8
  rw [HEC.out] at hcu
  refine wp_seq_k (fun K hK => ?_)
  have HK := Lib.hid hK
  clear hK
  go_wp2_with (go_at_call 11; refine hcu.mono ?_; rintro e w9 ⟨rfl, L9, g9⟩)
  refine HK.out _ _ ?_
  clear HK
  have D9 := D8.otA g9 L8 (by decide) (by decide) (by decide)
  have Q9 := tr_st g9 Q8 (ne_tyA L8 Q8 (by decide))
  have k9 := bl_st k8.bl g9 k8.bl.size hBq
  have L9 : LgB w9 q g sA8 := L9
  clear hcu L8 D8 Q8 k8 g9
  have hg3 := fun w' (hb : Below w9.heap.size w9 w') => lget_any2 (L9.below hb) (D9.below hb) HSA8.out 25
  rw [HEGP.out] at hg3
  refine wp_seq_k (fun K hK => ?_)
  have HK := Lib.hid hK
  clear hK
  go_wp2_with (first
      | (go_at_call 15; refine (hg3 _ (Below.refl _ _)).mono ?_; rintro e w10 ⟨rfl, hb10⟩)
      | ((first | (with_reducible refine wpList_stNew 44 _ _ ?_) | (with_reducible refine wp_stNew 44 _ _ ?_)); refine ⟨_, _, ⟨Tryz.sizeOf44, rfl, rt_new _⟩, rfl, ?_⟩))
  refine HK.out _ _ ?_
  clear HK
  have Q11 := tr_al (Obj.cells (rptA ⟨25, 1, zeroL, zeroE 0⟩) 44) (tr_bl hb10 Q9)
  have X11 := heap_alloc_new w10 (Obj.cells (rptA ⟨25, 1, zeroL, zeroE 0⟩) 44)
  have hb11 := hb10.trans ((blw w10 (Obj.cells (rptA ⟨25, 1, zeroL, zeroE 0⟩) 44)).mono hb10.size)
  have L11 := L9.below hb11
  have D11 := D9.below hb11
  have k11 := k9.trans (hb11.mono k9.size)
  clear hg3 L9 D9 Q9 k9 hb11 hb10
  generalize w10.alloc (Obj.cells (rptA ⟨25, 1, zeroL, zeroE 0⟩) 44) = w11 at *
  generalize w10.heap.size = q11 at *
  have hg4 := lget_any2 L11 D11 HSA8.out 8
  rw [HEG8.out] at hg4
  refine wp_seq_k (fun K hK => ?_)
  have HK := Lib.hid hK
  clear hK
  go_wp2_with (first
      | (go_at_call 15; refine hg4.mono ?_; rintro e w12 ⟨rfl, hb12⟩)
      | ((first | (with_reducible refine wpList_stNew 44 _ _ ?_) | (with_reducible refine wp_stNew 44 _ _ ?_)); refine ⟨_, _, ⟨Tryz.sizeOf44, rfl, rt_new _⟩, rfl, ?_⟩))
  refine HK.out _ _ ?_
  clear HK
  have Q13 := tr_al (Obj.cells (rptA zeroR') 44) (tr_bl hb12 Q11)
  have X13 := tr_al (Obj.cells (rptA zeroR') 44) (tr_bl hb12 X11)
  have hb13 := hb12.trans ((blw w12 (Obj.cells (rptA zeroR') 44)).mono hb12.size)
  have k13 := k11.trans (hb13.mono k11.size)
  clear hg4 L11 D11 Q11 X11 k11 hb13 hb12
  generalize w12.alloc (Obj.cells (rptA zeroR') 44) = w13 at *
  generalize w12.heap.size = q13 at *
  go_wp2_with fail
  refine wp_region_under (by kernel_rfl) (by kernel_rfl) ?_
  refine wpQuiet_val (by rfl) (.agg (rptA ⟨1, 2, ⟨1, 0⟩, zeroE 1⟩)) (fun wS hSw => ?_) ?_
  · obtain ⟨x, rfl⟩ := hSw; exact exec_ldB 44 _ ⟨_, _, _, _, _, Tryz.isAgg44, Tryz.sizeOf44, rfl, tr_bl (under_below _ x) Q13, arr_all rfl⟩
  (try simp only [Act.put]); (try simp only [List.setIfInBounds_toArray]); (try simp only [List.set_cons_succ]); (try simp only [List.set_cons_zero])
  go_big_quiet_step (fail)
  go_big_quiet_step ((go_at_call 10; exact under_call (lnoop_any _)))
  refine wpQuiet_val (by rfl) (.agg (rptA ⟨1, 2, ⟨1, 0⟩, zeroE 1⟩)) (fun wS hSw => ?_) ?_
  · have hb : (Instr.build 44 #[(0, .int .i64 1), (1, .int .u8 2), (2, .agg #[.int .i64 1, .int .i64 0]), (3, .agg (enA (zeroE 1)))]).run Tryz.prog wS = .ok (.agg (rptA ⟨1, 2, ⟨1, 0⟩, zeroE 1⟩)) wS := (by kernel_rfl); unfold execOp; simp [Act.eval, hb]
  (try simp only [Act.put]); (try simp only [List.setIfInBounds_toArray]); (try simp only [List.set_cons_succ]); (try simp only [List.set_cons_zero])
  refine wpQuiet_val (by rfl) (.bool true) (fun wS hSw => ?_) ?_
  · have hq := run_gqR (.tmp 60) (.tmp 63) (rptA ⟨1, 2, ⟨1, 0⟩, zeroE 1⟩) (rptA ⟨1, 2, ⟨1, 0⟩, zeroE 1⟩) wS; have he := eqRp ⟨1, 2, ⟨1, 0⟩, zeroE 1⟩ wS; unfold execOp; simp [Act.eval, hq, he]
  (try simp only [Act.put]); (try simp only [List.setIfInBounds_toArray]); (try simp only [List.set_cons_succ]); (try simp only [List.set_cons_zero])
  repeat (go_big_quiet_step (fail))
  refine wpQuiet_val (by rfl) (.agg (rptA ⟨25, 1, zeroL, zeroE 0⟩)) (fun wS hSw => ?_) ?_
  · obtain ⟨x, rfl⟩ := hSw; exact exec_ldB 44 _ ⟨_, _, _, _, _, Tryz.isAgg44, Tryz.sizeOf44, rfl, tr_bl (under_below _ x) X13, arr_all rfl⟩
  (try simp only [Act.put]); (try simp only [List.setIfInBounds_toArray]); (try simp only [List.set_cons_succ]); (try simp only [List.set_cons_zero])
  refine wpQuiet_val (by rfl) (.agg (rptA ⟨25, 1, zeroL, zeroE 0⟩)) (fun wS hSw => ?_) ?_
  · have hb := build_rp2 25 1 wS; unfold execOp; simp [Act.eval, hb]
  (try simp only [Act.put]); (try simp only [List.setIfInBounds_toArray]); (try simp only [List.set_cons_succ]); (try simp only [List.set_cons_zero])
  refine wpQuiet_val (by rfl) (.bool true) (fun wS hSw => ?_) ?_
  · have hq := run_gqR (.tmp 78) (.tmp 79) (rptA ⟨25, 1, zeroL, zeroE 0⟩) (rptA ⟨25, 1, zeroL, zeroE 0⟩) wS; have he := eqRp ⟨25, 1, zeroL, zeroE 0⟩ wS; unfold execOp; simp [Act.eval, hq, he]
  (try simp only [Act.put]); (try simp only [List.setIfInBounds_toArray]); (try simp only [List.set_cons_succ]); (try simp only [List.set_cons_zero])
  repeat (go_big_quiet_step (fail))
  refine wpQuiet_nil ?_
  intro _ hw'
  obtain ⟨xU, hw''⟩ := hw'
  subst hw''
  have hbU := under_below w13 xU
  go_wp2
  go_ret
  exact ⟨rfl, k13.trans (hbU.mono k13.size)⟩
end Go.Proofs.YtknchbhobopkeaaGreatDoor
namespace Go.Proofs.YtknchbhobopkeaaGreatDoor
theorem may_nop' : mayE (zeroE 1) = true := by simp [mayE, zeroE, nilO]
structure Upto (d : Dk) (s : Lg) (m : Nat) : Prop where
  live : Live d
  left : d.left < 0
  at' : ∀ p : Nat, p < 24 → (∃ j k : Nat, 1 ≤ j ∧ j ≤ m ∧ m < j + 24 ∧ plW (j : Int) = p ∧ PlIs d s p j ⟨j, 0⟩ (zeroE 1) k) ∨ (m ≤ p ∧ PlNo d s p)
section
variable {d : Dk} {s s' : Lg} {m : Nat}
theorem upto_new (s : Lg) : Upto (newDk 156) s 0 := ⟨new_live156, by decide, fun p hp => .inr ⟨by omega, new_no s hp⟩⟩
theorem Upto.cut (h : Upto d s m) (hr : s'.rep = s.rep) : Upto d s' m := by
  refine ⟨h.live, h.left, fun p hp => ?_⟩
  rcases h.at' p hp with ⟨j, k, h1, h2, h3, h4, h5⟩ | ⟨h1, h2⟩
  · exact .inl ⟨j, k, h1, h2, h3, h4, ⟨by rw [hr]; exact h5.r, by rw [hr]; exact h5.f, by rw [hr]; exact h5.o, h5.k2⟩⟩
  · exact .inr ⟨h1, ⟨by rw [hr]; exact h2.r, fun k hk => by rw [hr]; exact h2.f k hk⟩⟩
theorem Upto.put (h : Upto d s m) (hs : LgOk s) (hm : m < 1000) : ∃ d', putW d s ((m + 1 : Nat) : Int) ⟨((m + 1 : Nat) : Int), 0⟩ (zeroE 1) = (d', 0) ∧ Upto d' s (m + 1) := by
  obtain ⟨p, hp, hp2⟩ := pl_nat ((m + 1 : Nat) : Int)
  have hpe : p = m % 24 := by unfold plW at hp; omega
  have hb : mayBl ⟨((m + 1 : Nat) : Int), 0⟩ = true := by unfold mayBl big40; simp; omega
  have done : ∀ k', k' < 2 → PlIs (afterW d s ((m + 1 : Nat) : Int) p k' ⟨((m + 1 : Nat) : Int), 0⟩ (zeroE 1)) s p ((m + 1 : Nat) : Int) ⟨((m + 1 : Nat) : Int), 0⟩ (zeroE 1) k' → Upto (afterW d s ((m + 1 : Nat) : Int) p k' ⟨((m + 1 : Nat) : Int), 0⟩ (zeroE 1)) s (m + 1) := fun k' hk' hi => by
    refine ⟨after_live h.live _ _ _ _ _, h.left, fun q hq => ?_⟩
    by_cases hqp : q = p
    · subst hqp
      exact .inl ⟨m + 1, k', by omega, by omega, by omega, hp, hi⟩
    · rcases h.at' q hq with ⟨j, k, h1, h2, h3, h4, h5⟩ | ⟨h1, h2⟩
      · refine .inl ⟨j, k, h1, by omega, ?_, h4, h5.keep h.live hq hp2 hqp hk' _ _ _⟩
        unfold plW at h4
        omega
      · exact .inr ⟨by omega, h2.keep h.live hq hp2 hqp hk' _ _ _⟩
  rcases h.at' p hp2 with ⟨j, k, h1, h2, h3, h4, h5⟩ | ⟨h1, h2⟩
  · obtain ⟨e1, i1⟩ := put_is (j := ((m + 1 : Nat) : Int)) (b' := ⟨((m + 1 : Nat) : Int), 0⟩) (e' := zeroE 1) h.live h.left hs (by omega) (by omega) hp hb may_nop' h5 (.inl (by omega))
    exact ⟨_, e1, done _ i1.k2 i1⟩
  · obtain ⟨e1, i1⟩ := put_no (j := ((m + 1 : Nat) : Int)) (b' := ⟨((m + 1 : Nat) : Int), 0⟩) (e' := zeroE 1) h.live h.left hs (by omega) (by omega) hp hb may_nop' h2
    exact ⟨_, e1, done _ i1.k2 i1⟩
def repU (i : Nat) : Rpt := ⟨(i : Int), 2, ⟨(i : Int), 0⟩, zeroE 1⟩
theorem Upto.rep (h : Upto d s m) {c : Nat} (hs : s.snap = c) (hc : m < c + 24 + 1) {t : Nat} (ht : t < 24) : slotW d s t = if c + 1 + t ≤ m then (3, repU (c + 1 + t)) else (0, ⟨((c + 1 + t : Nat) : Int), 1, zeroL, zeroE 0⟩) := by
  obtain ⟨p, hp, hp2⟩ := pl_nat ((c + 1 + t : Nat) : Int)
  have he : s.snap + 1 + (t : Int) = ((c + 1 + t : Nat) : Int) := by omega
  unfold slotW rptW
  rw [he]
  rcases h.at' p hp2 with ⟨j, k, h1, h2, h3, h4, h5⟩ | ⟨h1, h2⟩
  · by_cases hi : c + 1 + t ≤ m
    · have hj : j = c + 1 + t := by unfold plW at hp h4; omega
      subst hj
      rw [if_pos hi, h5.rep hp]
      rfl
    · have hj : (j : Int) < ((c + 1 + t : Nat) : Int) := by omega
      rw [if_neg hi, h5.rep_past hp hj]
  · have hi : ¬ c + 1 + t ≤ m := by unfold plW at hp; omega
    rw [if_neg hi, h2.rep hp]
theorem Upto.told (h : Upto d s m) {c : Nat} (hs : s.snap = c) (hc : m < c + 24 + 1) (hcm : c ≤ m) : ∀ n, n ≤ 24 → toldL (slotsL d s n) = (List.range (min n (m - c))).map fun t => repU (c + 1 + t)
  | 0, _ => by rw [Nat.zero_min]; rfl
  | n + 1, hn => by
    rw [slotsL_succ, toldL_snoc, h.told hs hc hcm n (by omega), h.rep hs hc (by omega)]
    by_cases hi : c + 1 + n ≤ m
    · rw [if_pos hi, if_pos (by rfl), show min (n + 1) (m - c) = min n (m - c) + 1 by omega, List.range_succ, List.map_append, show min n (m - c) = n by omega]
      rfl
    · rw [if_neg hi, if_neg (by simp [toldC]), show min (n + 1) (m - c) = min n (m - c) by omega, List.append_nil]
theorem Upto.all (h : Upto d s m) {c : Nat} (hs : s.snap = c) (hc : m < c + 24 + 1) (hcm : c ≤ m) : allW d s = (List.range (m - c)).map fun t => repU (c + 1 + t) := by
  unfold allW
  rw [h.told hs hc hcm 24 (by omega), show min 24 (m - c) = m - c by omega]
end
end Go.Proofs.YtknchbhobopkeaaGreatDoor
namespace Go.Proofs.YtknchbhobopkeaaGreatDoor
open Go.RowKit
def snapK (k : Nat) : Nat := 8 * k - 16
def lgK (inc : Int) (k : Nat) : Lg := ⟨0, inc, (snapK k : Nat)⟩
theorem lgK_ok {inc : Int} (h1 : 1 ≤ inc) (h2 : inc ≤ 1099511627776) {k : Nat} (hk : k ≤ 20) : LgOk (lgK inc k) :=
  ⟨by unfold lgK; simp, ⟨h1, h2⟩, by unfold lgK snapK; simp only; omega⟩
theorem lgK_live {inc : Int} {d : Dk} (h : Live d) {k j : Nat} (h1 : 8 * k ≤ j) (h2 : j < 8 * k + 8) : liveW d (lgK inc k) ((j + 1 : Nat) : Int) = 0 := by
  have hu := live_up h
  unfold liveW lgK snapK
  rw [if_neg (by simp only; omega)]
  simp [hu]
theorem lgK_cut {inc : Int} {k : Nat} (h2 : 2 ≤ k) (hk : k ≤ 20) : cutW (lgK inc k) (8 * (k : Int) - 8) = (lgK inc (k + 1), 0) := by
  unfold cutW lgK snapK fitW
  simp only
  rw [if_neg (by simp; omega)]
  simp only [Prod.mk.injEq, Lg.mk.injEq, true_and, and_true]
  omega
theorem lgK_low {inc : Int} {k : Nat} (h2 : k < 2) : lgK inc (k + 1) = lgK inc k := by
  unfold lgK snapK
  rw [show 8 * (k + 1) - 16 = 8 * k - 16 by omega]
section
variable {inc : Int} {d : Dk}
end
end Go.Proofs.YtknchbhobopkeaaGreatDoor
