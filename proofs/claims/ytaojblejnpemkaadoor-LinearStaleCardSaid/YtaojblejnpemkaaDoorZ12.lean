/- Texts that the claim leans on, part 12: M3, M17, M18. -/
import Derived.Test.YtaojblejnpemkaaDoorZ1
import Derived.Test.YtaojblejnpemkaaDoorZ2
import Derived.Test.YtaojblejnpemkaaDoorZ3
import Derived.Test.YtaojblejnpemkaaDoorZ4
import Derived.Test.YtaojblejnpemkaaDoorZ5
import Derived.Test.YtaojblejnpemkaaDoorZ6
import Derived.Test.YtaojblejnpemkaaDoorZ7
import Derived.Test.YtaojblejnpemkaaDoorZ8
import Derived.Test.YtaojblejnpemkaaDoorZ9
import Derived.Test.YtaojblejnpemkaaDoorZ10
import Derived.Test.YtaojblejnpemkaaDoorZ11
import Derived.Test.YtaojblejnpemkaaDoorRows
import Derived.WalkKit
import Derived.WalkSpells
import Derived.WalkLawsBesides
import Derived.Handy
import Derived.Deep.QuietTactic
import Derived.BigQuiet
import Derived.Deep.DeepCutAuto
import Derived.Lib.Hide
import Derived.RegionTactic
import Derived.ChangeAlike
import Derived.Laws.ResultCell
import Derived.Outline
import Derived.IntWalk
import Derived.ChangeSlices
import Derived.ProofKit
import Derived.Deep.Slices
import Derived.Deep.Strs
import Derived.Lib.SmallJoins
import Derived.Lib.LaidU8
import Derived.Lib.LaidPrint
import Derived.PinnedBridge
import Derived.Test.YtaojblejnpemkaaDoorTie
import Derived.Test.YtaojblejnpemkaaDoorCards
import Derived.ChangeMaps5
import Derived.Lay
import Derived.SevenTiedAt
import Derived.LoopN
import Derived.Shelf.Strconv.Quote
import Derived.Shelf.Strings.BuilderK
import Derived.Shelf.Strings.BuilderF
import Derived.Lib.QuoteLoop
import Derived.Lib.MapLaws
import Derived.Laws.BytesArg
import Derived.Maps.OwnSet
import Derived.Maps.Keyed
import Derived.WideKeyEntry
import Derived.DeepKeys4
import Derived.Laws.BitsAllLaws
import Derived.Laws.Shifts
import Derived.Laws.Rows
import Derived.Deep.Quiet
import Derived.Deep.RegionHeld3
import Derived.Laws.EntriesVeiled
import Derived.StillTailTactics
import Derived.Deep.RegionWith
import Derived.Lib.Overlaps
import Derived.OpenShut
import Derived.Laws.Strings
import Derived.Laws.CopyOwn
import Derived.Laws.CopyRow
import Derived.Laws.NewBlocks
import Derived.Deep.RegionLaw
namespace Go.Proofs.YtaojblejnpemkaaDoor
abbrev ownK : Tx := ⟨#[111, 119, 110]⟩
abbrev vT : Tx := ⟨#[118]⟩
def ownD : Dn := ⟨0, ⟨2, ownK, ⟨#[]⟩, vT⟩, 0, 1, false⟩
def endC (n : Nat) (r : Rp) : Cl := ⟨3, ⟨1, ownK, ⟨#[]⟩, ⟨#[]⟩⟩, r, 600 * (n : Int) + 9000, 600 * (n : Int) + 9001⟩
def staleM (l : List Dn) (r : Rp) : List Cl := hist l ++ [endC l.length r]
structure StaleD (l : List Dn) (a : Nat) : Prop where
  ok : OkDn l
  n11 : l.length ≤ 11
  lt : a < l.length
  own : dnN l a = ownD
  oth : ∀ k, k < l.length → k ≠ a → (dnN l k).op.key ≠ ownK
  few : l.countP (fun d => d.op.kind == 2) ≤ 8
section
variable {l : List Dn} {a : Nat} {r : Rp}
theorem stale_len : (staleM l r).length = l.length + 1 := by unfold staleM; rw [List.length_append, hist_len]; rfl
theorem stale_at {k : Nat} (hk : k < l.length) : clN (staleM l r) k = hAt l k := by
  unfold clN staleM
  rw [List.getD_eq_getElem?_getD, List.getElem?_append_left (by rw [hist_len]; exact hk), hist_at l hk]
  rfl
theorem stale_end : clN (staleM l r) l.length = endC l.length r := by
  unfold clN staleM
  rw [List.getD_eq_getElem?_getD, List.getElem?_append_right (by rw [hist_len]; exact Nat.le_refl _), hist_len, Nat.sub_self]
  rfl
theorem keyOwn : mayO (ownD).op = true := by decide +kernel
theorem getOwn : mayO (⟨1, ownK, ⟨#[]⟩, ⟨#[]⟩⟩ : Opn) = true := by decide +kernel
def putB (m : List Cl) (i : Int) : Bool := (clA m i).op.kind == 2
theorem do_len {s : List Pr} (hs : mayS s = true) (o : Opn) : (doP s o).1.length ≤ s.length + if (o.kind == 2) = true then 1 else 0 := by
  cases ho : mayO o with
  | false => rw [doP_bad hs ho]; exact Nat.le_add_right _ _
  | true =>
    rw [doP_ok hs ho]
    split
    · exact Nat.le_add_right _ _
    · split
      · rename_i h2
        have h3 : (o.kind == 2) = true := by rw [beq_iff_eq]; exact h2
        rw [h3]
        by_cases h4 : look s o.key = none ∧ s.length = 8
        · rw [if_pos h4]; exact Nat.le_add_right _ _
        · rw [if_neg h4]
          show (putL s o.key o.val).length ≤ s.length + 1
          rw [len_put (may_rises hs)]
          split <;> omega
      · split
        · have := len_del s (may_rises hs) o.key
          exact Nat.le_trans this (Nat.le_add_right _ _)
        · split
          · rename_i h3
            show (putL s o.key o.val).length ≤ _
            rw [len_put (may_rises hs), if_neg (by rw [h3]; simp)]
            exact Nat.le_add_right _ _
          · exact Nat.le_add_right _ _
theorem puts_all (m : List Cl) {q : List Int} (hn : q.Nodup) (hi : ∀ i ∈ q, inR m i = true) : q.countP (putB m) ≤ (ownQ m.length).countP (putB m) := by
  rw [List.countP_eq_length_filter, List.countP_eq_length_filter]
  refine List.Nodup.length_le_of_subset (List.Nodup.sublist List.filter_sublist hn) fun i h => ?_
  rw [List.mem_filter] at h ⊢
  refine ⟨ownQ_mem.2 ?_, h.2⟩
  have := hi i h.1
  unfold inR at this
  simp only [Bool.and_eq_true, decide_eq_true_eq] at this
  exact this
theorem dn_range (l : List Dn) : l = (List.range l.length).map (dnN l) := by
  refine List.ext_getElem? fun i => ?_
  by_cases h : i < l.length
  · rw [List.getElem?_map, List.getElem?_range h, Option.map_some]
    unfold dnN
    rw [List.getD_eq_getElem?_getD, List.getElem?_eq_getElem h]
    rfl
  · rw [List.getElem?_eq_none (by omega), List.getElem?_eq_none (by simp; omega)]
theorem puts_stale (h : StaleD l a) : (ownQ (staleM l r).length).countP (putB (staleM l r)) ≤ 8 := by
  rw [stale_len, ownQ_succ, List.countP_append, List.countP_singleton]
  have h1 : putB (staleM l r) (l.length : Int) = false := by unfold putB; rw [clA_nat, stale_end]; rfl
  rw [h1]
  have h2 : (ownQ l.length).countP (putB (staleM l r)) = l.countP (fun d => d.op.kind == 2) := by
    conv => rhs; rw [dn_range l]
    unfold ownQ
    rw [List.countP_map, List.countP_map]
    refine List.countP_congr fun k hk => ?_
    have hk := List.mem_range.1 hk
    show (clA (staleM l r) (k : Int)).op.kind == 2 ↔ ((dnN l k).op.kind == 2) = true
    rw [clA_nat, stale_at hk]
    exact Iff.rfl
  have := h.few
  rw [h2]
  simpa using this
theorem stale_st (h : StaleD l a) : ∀ (n : Nat) (q : List Int), q.length = n → q.Nodup → (∀ i ∈ q, inR (staleM l r) i = true) →
    (stA (staleM l r) q).length ≤ q.countP (putB (staleM l r)) ∧ ((a : Int) ∈ q → look (stA (staleM l r) q) ownK = some vT)
  | 0, q, hq, _, _ => by
    obtain rfl := List.length_eq_zero_iff.1 hq
    exact ⟨Nat.zero_le _, fun h => by cases h⟩
  | n + 1, q, hq, hn, hi => by
    obtain ⟨p, x, rfl⟩ : ∃ p x, q = p ++ [x] := ⟨q.dropLast, q.getLast (by intro e; rw [e] at hq; cases hq), (List.dropLast_concat_getLast _).symm⟩
    rw [List.length_append, List.length_singleton] at hq
    have hnp : p.Nodup := hn.sublist (List.sublist_append_left _ _)
    have hxp : x ∉ p := by
      intro hx
      rw [List.nodup_append] at hn
      exact hn.2.2 x hx x (by simp) rfl
    obtain ⟨h1, h2⟩ := stale_st h n p (by omega) hnp fun i h => hi i (List.mem_append_left _ h)
    have hm := stA_may (staleM l r) p
    rw [stA_snoc, List.countP_append, List.countP_singleton]
    refine ⟨?_, fun ha => ?_⟩
    · have := do_len hm (clA (staleM l r) x).op
      show _ ≤ _ + (if ((clA (staleM l r) x).op.kind == 2) = true then 1 else 0)
      omega
    · have hxi := hi x (by simp)
      unfold inR at hxi
      simp only [Bool.and_eq_true, decide_eq_true_eq] at hxi
      rw [stale_len] at hxi
      obtain ⟨k, rfl⟩ : ∃ k : Nat, x = k := ⟨x.toNat, by omega⟩
      rw [clA_nat]
      by_cases hka : k = a
      · subst hka
        rw [stale_at h.lt]
        have ho : (hAt l k).op = ownD.op := by rw [← h.own]; rfl
        rw [ho]
        have h7 : (stA (staleM l r) p).length ≠ 8 := by
          have h3 : ((k : Int) :: p).countP (putB (staleM l r)) ≤ 8 := by
            refine Nat.le_trans (puts_all _ (List.nodup_cons.2 ⟨hxp, hnp⟩) fun i hi' => ?_) (puts_stale h)
            rcases List.mem_cons.1 hi' with rfl | hi'
            · exact hi _ (by simp)
            · exact hi _ (List.mem_append_left _ hi')
          rw [List.countP_cons] at h3
          have h4 : putB (staleM l r) (k : Int) = true := by
            unfold putB
            rw [clA_nat, stale_at h.lt, ho]
            rfl
          rw [if_pos h4] at h3
          omega
        rw [doP_ok hm keyOwn, if_neg (show ¬ ownD.op.kind = 1 by decide), if_pos (show ownD.op.kind = 2 from rfl), if_neg (fun e => h7 e.2)]
        exact look_put _ _ _
      · have hap : (a : Int) ∈ p := by
          rcases List.mem_append.1 ha with h3 | h3
          · exact h3
          · rw [List.mem_singleton] at h3
            omega
        have h3 := h2 hap
        by_cases hk : k < l.length
        · rw [stale_at hk]
          exact (doP_other hm (o := (hAt l k).op) (fun e => h.oth k hk hka e.symm)).trans h3
        · obtain rfl : k = l.length := by omega
          rw [stale_end, doP_reads hm rfl]
          exact h3
theorem goes_nodup {m : List Cl} : ∀ (q p : List Int), goesP m p q = true → p.Nodup → (∀ i ∈ p, inR m i = true) → (p ++ q).Nodup ∧ ∀ i ∈ p ++ q, inR m i = true
  | [], p, _, h1, h2 => by rw [List.append_nil]; exact ⟨h1, h2⟩
  | i :: q, p, h, h1, h2 => by
    simp only [goesP, Bool.and_eq_true] at h
    obtain ⟨ho, hg⟩ := h
    unfold okP at ho
    simp only [Bool.and_eq_true, Bool.not_eq_true'] at ho
    obtain ⟨⟨⟨a1, a2⟩, _⟩, _⟩ := ho
    rw [List.append_cons]
    refine goes_nodup q (p ++ [i]) hg ?_ fun j hj => ?_
    · rw [List.nodup_append]
      refine ⟨h1, by simp, fun x hx y hy e => ?_⟩
      rw [List.mem_singleton] at hy
      subst hy
      subst e
      rw [← Bool.not_eq_true, List.contains_iff_mem] at a2
      exact a2 hx
    · rcases List.mem_append.1 hj with h3 | h3
      · exact h2 j h3
      · rw [List.mem_singleton] at h3; subst h3; exact a1
theorem goes_at {m : List Cl} : ∀ (q1 p q2 : List Int) (i : Int), goesP m p (q1 ++ i :: q2) = true → okP m (p ++ q1) i = true
  | [], p, q2, i, h => by
    simp only [List.nil_append, goesP, Bool.and_eq_true] at h
    rw [List.append_nil]
    exact h.1
  | j :: q1, p, q2, i, h => by
    simp only [List.cons_append, goesP, Bool.and_eq_true] at h
    rw [List.append_cons]
    exact goes_at q1 (p ++ [j]) q2 i h.2
theorem full_mem {m : List Cl} {q : List Int} (h : fullP m q = true) {k : Nat} (hk : k < m.length) (he : 0 < (clN m k).en) : (k : Int) ∈ q := by
  unfold fullP at h
  have := List.all_eq_true.1 h k (List.mem_range.2 hk)
  rw [clA_nat, decide_eq_true he, Bool.true_and, Bool.not_not, List.contains_iff_mem] at this
  exact this
theorem own_en (h : StaleD l a) : 0 < (hAt l a).en ∧ (hAt l a).en < 600 * (l.length : Int) + 9000 := by
  have hl := h.lt
  have : lostH l a = false := by unfold lostH; rw [h.own]; rfl
  unfold hAt
  simp only [this, Bool.false_eq_true, if_false]
  rw [h.own]
  show 0 < 600 * (a : Int) + 600 + 8 * 1 + 1 ∧ 600 * (a : Int) + 600 + 8 * 1 + 1 < _
  omega
theorem stale_none (h : StaleD l a) {q : List Int} (hq : holdsP (staleM l r) q = true) : r = ⟨0, true, vT⟩ := by
  unfold holdsP at hq
  simp only [Bool.and_eq_true] at hq
  obtain ⟨_, hg, hf⟩ := hq
  obtain ⟨e1, e2⟩ := own_en h
  have hnm : ((l.length : Nat) : Int) ∈ q := full_mem hf (by rw [stale_len]; omega) (by rw [stale_end]; unfold endC; simp only; omega)
  have ham : (a : Int) ∈ q := full_mem hf (by rw [stale_len]; have := h.lt; omega) (by rw [stale_at h.lt]; exact e1)
  obtain ⟨q1, q2, rfl⟩ := List.append_of_mem hnm
  obtain ⟨hnd, hin⟩ := goes_nodup _ [] hg List.nodup_nil (fun _ h => by cases h)
  rw [List.nil_append] at hnd hin
  have ha1 : (a : Int) ∈ q1 := by
    rcases List.mem_append.1 ham with h1 | h1
    · exact h1
    · rcases List.mem_cons.1 h1 with h1 | h1
      · have := h.lt; omega
      · exfalso
        obtain ⟨r1, r2, rfl⟩ := List.append_of_mem h1
        rw [← List.cons_append, ← List.append_assoc] at hg
        have ho := goes_at _ [] _ _ hg
        rw [List.nil_append] at ho
        unfold okP at ho
        simp only [Bool.and_eq_true, Bool.not_eq_true'] at ho
        have h3 := ho.1.2
        rw [clA_nat, stale_at h.lt, decide_eq_true e1, Bool.true_and, lat_spec _ _ _ e1, List.any_eq_false] at h3
        have := h3 (l.length : Int) (by simp)
        rw [clA_nat, stale_end, decide_eq_true_eq] at this
        exact this e2
  have ho := goes_at q1 [] q2 _ hg
  rw [List.nil_append] at ho
  obtain ⟨_, h4⟩ := stale_st h q1.length q1 rfl (hnd.sublist (List.sublist_append_left _ _)) (fun i hi => hin i (List.mem_append_left _ hi))
  have h4 := h4 ha1
  have hm := stA_may (staleM l r) q1
  unfold okP at ho
  simp only [Bool.and_eq_true, Bool.not_eq_true'] at ho
  have h5 := ho.2
  rw [clA_nat, stale_end] at h5
  have h6 : (doP (stA (staleM l r) q1) (endC l.length r).op).2 = ⟨0, true, vT⟩ := by
    show (doP (stA (staleM l r) q1) ⟨1, ownK, ⟨#[]⟩, ⟨#[]⟩⟩).2 = _
    rw [doP_ok hm getOwn, if_pos rfl, wasR_eq]
    show rpOf (look _ ownK) = _
    rw [h4]
    rfl
  rw [h6, decide_eq_true (show 0 < (endC l.length r).en by unfold endC; simp only; omega), Bool.true_and, Bool.not_eq_false'] at h5
  have : rpEq ⟨0, true, vT⟩ r = true := h5
  unfold rpEq at this
  rw [Bool.and_eq_true, Bool.and_eq_true, beq_iff_eq, beq_iff_eq, beq_iff_eq] at this
  obtain ⟨⟨b1, b2⟩, b3⟩ := this
  obtain ⟨x, y, z⟩ := r
  simp only at b1 b2 b3
  subst b1 b2
  rw [← tx_ext b3]
theorem stale_chk (h : StaleD l a) : chk (staleM l r) = 0 := by
  refine chk_small (by rw [stale_len]; have := h.n11; omega) ?_ fun c hc => ?_
  · unfold staleM
    rw [pendP_snoc]
    have h1 : pendP (hist l) = pH l l.length := pend_hist l l.length
    have h2 := pH_le l l.length
    have : ((endC l.length r).en == 0) = false := by rw [beq_eq_false_iff_ne]; unfold endC; simp only; omega
    rw [this, h1]
    simpa using h2
  · obtain ⟨k, hk, rfl⟩ := mem_clN hc
    rw [stale_len] at hk
    by_cases h1 : k < l.length
    · rw [stale_at h1]; exact may_hist h.ok h1
    · obtain rfl : k = l.length := by omega
      rw [stale_end]
      unfold mayC endC
      simp only
      rw [getOwn]
      simp only [Bool.and_eq_true, Bool.or_eq_true, decide_eq_true_eq]
      exact ⟨⟨⟨⟨by omega, by omega⟩, trivial⟩, by omega⟩, .inr (by omega)⟩
theorem stale_yes (h : StaleD l a) : ∃ q, holdsP (staleM l ⟨0, true, vT⟩) q = true := by
  have hop : ∀ k, k < l.length → (clN (staleM l ⟨0, true, vT⟩) k).op = (dnN l k).op := fun k hk => by rw [stale_at hk]; rfl
  refine ⟨ownQ (l.length + 1), Seq1.holds (τ := fun k => if k < l.length then 600 * (k : Int) + 600 else 600 * (k : Int) + 9000) ⟨fun i j h => by split <;> split <;> omega, fun i hi => ?_, ownQ_nodup _, fun i hi => ownQ_mem.2 (by rw [stale_len] at hi; omega), fun k i hk => ?_, fun k i hk => ?_⟩ (stale_chk h)⟩
  · have := ownQ_mem.1 hi
    unfold inR
    rw [stale_len]
    simp; omega
  · obtain ⟨rfl, hk⟩ := ownQ_at hk
    rw [clA_nat]
    by_cases h1 : k < l.length
    · rw [stale_at h1, if_pos h1]; unfold hAt; simp only; omega
    · obtain rfl : k = l.length := by omega
      rw [stale_end, if_neg h1]
      exact Int.le_refl _
  · obtain ⟨rfl, hk⟩ := ownQ_at hk
    rw [clA_nat, ownQ_take (by omega)]
    by_cases h1 : k < l.length
    · rw [sH_stA hop k (by omega), stale_at h1, if_pos h1]
      rcases hAt_en (l := l) (k := k) with h2 | h2
      · exact .inl h2
      · exact .inr ⟨h2, by rw [hAt_rep (by omega)]; exact rpEq_refl _⟩
    · obtain rfl : k = l.length := by omega
      rw [stale_end, if_neg h1]
      refine .inr ⟨by unfold endC; simp only; omega, ?_⟩
      have hm := stA_may (staleM l ⟨0, true, vT⟩) (ownQ l.length)
      have h4 := (stale_st (r := ⟨0, true, vT⟩) h l.length (ownQ l.length) (ownQ_len _) (ownQ_nodup _) (fun i hi => by
        have := ownQ_mem.1 hi
        unfold inR
        rw [stale_len]
        simp; omega)).2 (ownQ_mem.2 (by have := h.lt; omega))
      show rpEq (doP (stA (staleM l ⟨0, true, vT⟩) (ownQ l.length)) ⟨1, ownK, ⟨#[]⟩, ⟨#[]⟩⟩).2 ⟨0, true, vT⟩ = true
      rw [doP_ok hm getOwn, if_pos rfl, wasR_eq]
      show rpEq (rpOf (look _ ownK)) _ = true
      rw [h4]
      exact rpEq_refl _
theorem stale_iff (h : StaleD l a) (r : Rp) : (∃ q, holdsP (staleM l r) q = true) ↔ r = ⟨0, true, vT⟩ :=
  ⟨fun ⟨_, hq⟩ => stale_none h hq, fun e => by subst e; exact stale_yes h⟩
end
def insD (l : List Dn) (a : Nat) : List Dn := l.take a ++ ownD :: l.drop a
theorem insD_len {l : List Dn} {a : Nat} (ha : a ≤ l.length) : (insD l a).length = l.length + 1 := by unfold insD; rw [List.length_append, List.length_cons, List.length_take, List.length_drop]; omega
theorem insD_at {l : List Dn} {a k : Nat} (ha : a ≤ l.length) : dnN (insD l a) k = if k < a then dnN l k else if k = a then ownD else dnN l (k - 1) := by
  unfold dnN insD
  rw [List.getD_eq_getElem?_getD]
  by_cases h : k < a
  · rw [if_pos h, List.getElem?_append_left (by rw [List.length_take]; omega), List.getElem?_take, if_pos h, List.getD_eq_getElem?_getD]
  · rw [if_neg h, List.getElem?_append_right (by rw [List.length_take]; omega), List.length_take, Nat.min_eq_left ha]
    by_cases h2 : k = a
    · subst h2
      rw [if_pos rfl, Nat.sub_self]
      rfl
    · rw [if_neg h2]
      obtain ⟨j, hj⟩ : ∃ j, k - a = j + 1 := ⟨k - a - 1, by omega⟩
      rw [hj, List.getElem?_cons_succ, List.getElem?_drop, List.getD_eq_getElem?_getD, show a + j = k - 1 by omega]
theorem stale_ins {l : List Dn} {a : Nat} (ha : a ≤ l.length) (hok : OkDn l) (h10 : l.length ≤ 10) (hk : ∀ d ∈ l, d.op.key ≠ ownK) (hf : l.countP (fun d => d.op.kind == 2) ≤ 7) : StaleD (insD l a) a := by
  have hmem : ∀ j, j < l.length → dnN l j ∈ l := fun j hj => by
    unfold dnN
    rw [List.getD_eq_getElem?_getD, List.getElem?_eq_getElem hj]
    exact List.getElem_mem hj
  refine ⟨fun d hd => ?_, by rw [insD_len ha]; omega, by rw [insD_len ha]; omega, ?_, fun k hk1 hk2 => ?_, ?_⟩
  · unfold insD at hd
    rcases List.mem_append.1 hd with h | h
    · exact hok d (List.mem_of_mem_take h)
    · rcases List.mem_cons.1 h with rfl | h
      · exact ⟨keyOwn, by decide, by decide⟩
      · exact hok d (List.mem_of_mem_drop h)
  · rw [insD_at ha, if_neg (by omega), if_pos rfl]
  · rw [insD_len ha] at hk1
    rw [insD_at ha, if_neg hk2]
    split
    · exact hk _ (hmem _ (by omega))
    · exact hk _ (hmem _ (by omega))
  · unfold insD
    rw [List.countP_append, List.countP_cons, ← Nat.add_assoc, ← List.countP_append, List.take_append_drop]
    split <;> omega
end Go.Proofs.YtaojblejnpemkaaDoor
namespace Go.Proofs.YtaojblejnpemkaaDoor
open Go.RowKit Go.Maps
def dones (l : List Dn) : List Value := l.flatMap doneC
theorem dones_snoc (l : List Dn) (d : Dn) : dones (l ++ [d]) = dones l ++ doneC d := by simp [dones]
def preD (l : List Dn) (a k : Nat) : List Dn := if k ≤ a then l.take k else (insD l a).take (k + 1)
def midD (l : List Dn) (a k : Nat) : List Dn := if k < a then l.take k else (insD l a).take (k + 1)
theorem insD_get {l : List Dn} {a k : Nat} (ha : a ≤ l.length) (hk : k < l.length + 1) : (insD l a)[k]? = some (if k < a then dnN l k else if k = a then ownD else dnN l (k - 1)) := by
  rw [dn_at (by rw [insD_len ha]; exact hk), insD_at ha]
theorem mid_ne {l : List Dn} {a k : Nat} (h : k ≠ a) : midD l a k = preD l a k := by
  unfold midD preD
  by_cases h1 : k < a
  · rw [if_pos h1, if_pos (by omega)]
  · rw [if_neg h1, if_neg (by omega)]
theorem ins_take {l : List Dn} {a : Nat} (ha : a ≤ l.length) : (insD l a).take a = l.take a := by
  unfold insD
  rw [List.take_append_of_le_length (by rw [List.length_take]; omega), List.take_take, Nat.min_self]
theorem mid_eq {l : List Dn} {a : Nat} (ha : a ≤ l.length) : midD l a a = preD l a a ++ [ownD] := by
  unfold midD preD
  rw [if_neg (Nat.lt_irrefl a), if_pos (Nat.le_refl a), take_snoc' (insD_get ha (by omega)), ins_take ha, if_neg (Nat.lt_irrefl a), if_pos rfl]
theorem pre_succ {l : List Dn} {a k : Nat} (ha : a ≤ l.length) (hk : k < l.length) : preD l a (k + 1) = midD l a k ++ [dnN l k] := by
  unfold midD preD
  by_cases h : k < a
  · rw [if_pos (show k + 1 ≤ a by omega), if_pos h, take_snoc' (dn_at hk)]
  · rw [if_neg (show ¬ k + 1 ≤ a by omega), if_neg h, take_snoc' (insD_get ha (show k + 1 < l.length + 1 by omega)), if_neg (by omega), if_neg (by omega), Nat.add_sub_cancel]
theorem mid_end {l : List Dn} {a : Nat} (ha : a ≤ l.length) : midD l a l.length = insD l a := by
  unfold midD
  rw [if_neg (by omega), List.take_of_length_le (by rw [insD_len ha]; exact Nat.le_refl _)]
theorem pre_len {l : List Dn} {a k : Nat} (ha : a ≤ l.length) (hk : k ≤ l.length) : (preD l a k).length ≤ l.length + 1 ∧ (midD l a k).length ≤ l.length + 1 := by
  unfold preD midD
  constructor <;> split
  · rw [List.length_take]; omega
  · rw [List.length_take, insD_len ha]; omega
  · rw [List.length_take]; omega
  · rw [List.length_take, insD_len ha]; omega
theorem elDoneL : ElemT Tryd.prog 41 55 8 72 := ElemT.of (.agg (doneC ⟨0, ⟨0, ⟨#[]⟩, ⟨#[]⟩, ⟨#[]⟩⟩, 0, 0, false⟩).toArray) Tryd.underlying41 (by kernel_rfl) rfl (by decide)
theorem SlD.of_owns {w : World} {base : Nat} {v : Value} {l : List Dn} (h : w.ownsRow base 55 8 v l.length (dones l)) : ∃ a cap, v = .slice a l.length cap ∧ SlD w a cap l := by
  obtain ⟨a, cap, rfl, hr, hle, hmx⟩ := Row.of_owns h
  exact ⟨a, cap, rfl, hr, hle, hmx⟩
theorem done_one (d : Dn) : ∀ u ∈ (#[Value.int .i64 d.cli, .int .u8 d.op.kind, .string d.op.key, .string d.op.old, .string d.op.val, .int .u8 d.ah, .int .u8 d.be, .bool d.lost] : Array Value).toList, u.oneCell' = true := by simp [Value.oneCell']
end Go.Proofs.YtaojblejnpemkaaDoor
namespace Go.Proofs.YtaojblejnpemkaaDoor
open Go.RowKit Go.Maps
theorem wp_appM {P : Program} {w : World} {o : Oper} {a : Act} {K : Act → World → Prop} {Q : Exit → Act → World → Prop} (s x : Operand) (t t' e e' : TypeId) {size bytes : Nat} (hT : ElemT P t e size bytes) (ht' : P.underlying t' = some (.slice e'))
    (ho : o.op = .call { callee := .builtin .append, args := #[s, x], argTypes := #[t, t'] })
    (base : Nat) (v : Value) (n : Nat) (xs : List Value) (hs : a.eval s = v) (hown : w.ownsRow base e size v n xs)
    (ad : Addr) (m c : Nat) (news : List Value) (hx : a.eval x = .slice (some ad) m c) (hl : news.length = m * size) (hnews : ∀ j u, news[j]? = some u → w.cell? (ad.add j) = some u) (h1 : ∀ u ∈ news, u.oneCell' = true)
    (hn : n + m ≤ 4294967296) (hby : bytes ≤ 4096) (hbase : base ≤ w.heap.size)
    (h : ∀ v' w', w'.ownsRow base e size v' (n + m) (xs ++ news) → w.grownBy w' v.ownBlock → K (a.put o.dst v') w') : o.wp P a w K Q := by
  obtain ⟨i, z, ht, hi, hz, hsize, hbytes, hzs, hsz⟩ := hT.ex
  obtain ⟨b0, c0, hv0, _⟩ := Row.of_owns hown
  have hb1 : (n + m) * bytes ≤ 4294967296 * 4096 := Nat.mul_le_mul hn hby
  obtain ⟨v', w', hr, h2, h3, _⟩ := run_append_own (P := P) (w := w) base t o.type e i z size bytes ht hi hz hsize hbytes hzs hsz v n xs hown ad m c news hl hnews h1 (by unfold maxLen; omega) (by omega) hbase
  have he : (execOp a.eval { o with op := .call { callee := .builtin .append, args := #[s, x], argTypes := #[t, t] } }).run P w = .ok (.value v') w' := exec_append (o := { o with op := .call { callee := .builtin .append, args := #[s, x], argTypes := #[t, t] } }) s x t t rfl _ _ hs hx hr
  exact wp_runL ((exec_append_mixed ht ht' ho (hs.trans hv0) hx).trans he) (h v' w' h2 h3)
theorem build_cl (c : Cl) (w : World) : (Instr.buildSlice 22 1 #[(0, .agg (clvA c))]).run Tryd.prog w = .ok (.slice (some ⟨w.heap.size, 0, none⟩) 1 1) (w.alloc (.cells (clvA c) 38)) := by kernel_rfl
theorem cells_bel {w w' : World} {g : Nat} {xs : List Value} (hb : Below w.heap.size w w') (hg : g < w.heap.size) (h : ∀ (j : Nat) (u : Value), xs[j]? = some u → w.cell? ((⟨g, 0, none⟩ : Addr).add j) = some u) : ∀ (j : Nat) (u : Value), xs[j]? = some u → w'.cell? ((⟨g, 0, none⟩ : Addr).add j) = some u := fun j u hj => by
  have := h j u hj
  rw [addr_add] at this ⊢
  exact (hb.cell hg).trans this
set_option maxRecDepth 100000 in
theorem wp_bsl {w : World} {a : Act} {K : Act → World → Prop} {Q : Exit → Act → World → Prop} {dst : Option Tmp} {ty' : TypeId} {pos : String} {af : Array Edge} {gd : Option (Nat × Bool)} (x : Operand) (c : Cl) (hx : a.eval x = .agg (clvA c))
    (h : K (a.put dst (.slice (some ⟨w.heap.size, 0, none⟩) 1 1)) (w.alloc (.cells (clvA c) 38))) : (Oper.mk dst (.buildSlice 22 1 #[(0, x)]) ty' pos af gd).wp Tryd.prog a w K Q :=
  wp_runL (w' := w.alloc (.cells (clvA c) 38)) (v := .slice (some ⟨w.heap.size, 0, none⟩) 1 1) (by have hbp := build_cl c w; unfold execOp; simp [hx, hbp]) h
theorem hrow_cells {w : World} {B g cap n : Nat} {m : List Cl} (h : HRow w B g cap n m) : ∀ (j : Nat) (u : Value), (calls m)[j]? = some u → w.cell? ((⟨g, 0, none⟩ : Addr).add j) = some u := fun j u hj => by
  have h3 := (List.getElem?_eq_some_iff.1 hj).1
  rw [h.1] at h3
  rw [addr_add, Nat.zero_add, h.cellAt _ h3, hj]
theorem calls_one {m : List Cl} : ∀ u ∈ calls m, u.oneCell' = true := by
  intro u hu
  unfold calls at hu
  obtain ⟨c, _, hc⟩ := List.mem_flatMap.1 hu
  exact (clv_new c).2.2 u hc
theorem new_cells (w : World) (c : Cl) : ∀ (j : Nat) (u : Value), (callC c)[j]? = some u → (w.alloc (.cells (clvA c) 38)).cell? ((⟨w.heap.size, 0, none⟩ : Addr).add j) = some u := fun j u hj => by
  rw [addr_add, Nat.zero_add]
  exact blk_cell (heap_alloc_new w _) j u (by rw [← Array.getElem?_toList]; exact hj)
theorem c1_end (n : Nat) (r : Rp) : (⟨3, ⟨1, ownK, ⟨#[]⟩, ⟨#[]⟩⟩, r, 600 * (n : Int) + 9000, 600 * (n : Int) + 9000 + 1⟩ : Cl) = endC n r := by
  unfold endC
  rw [Int.add_assoc]
  rfl
theorem told_iff {told : Tx} {fb tb : Bool} (h1 : (ByteArray.toList told == []) = fb) (h2 : (ByteArray.toList told == [118]) = tb) : (⟨0, !fb, told⟩ : Rp) = ⟨0, true, vT⟩ ↔ tb = true := by
  have hv : vT.toList = [118] := by decide +kernel
  subst h1 h2
  constructor
  · intro h
    injection h with _ _ h3
    rw [h3, hv]
    rfl
  · intro h
    rw [beq_iff_eq] at h
    have e : told = vT := tx_ext (h.trans hv.symm)
    rw [e, hv]
    rfl
theorem own_list : ownK.toList = [111, 119, 110] := by decide +kernel
section
variable {T : Lib.PrintTabs}
set_option maxRecDepth 100000 in
set_option maxHeartbeats 4000000 in
theorem stale_law (a : Option Addr) (cap : Nat) (l : List Dn) (at' : Int) (told : Tx) (hb : ∀ y ∈ l, okB y) (w : World) (hs : SlD w a cap l) (hT : Tabs T w) :
    Calls Tryd.prog 6 #[.slice a l.length cap, .int .i64 at', .string told] w fun e w' => e = .returned (.bool true) ∧ Below w.heap.size w w' := by
  have HB := Lib.hid hb
  clear hb
  go_enter Tryd.func6, Tryd.ntmps6
  refine wp_seq_k (fun K hK => ?_)
  have HK := Lib.hid hK
  clear hK
  go_wp2
  refine HK.out _ _ ?_
  clear HK
  refine wp_seq_k (fun K hK => ?_)
  have HK := Lib.hid hK
  clear hK
  go_wp2_with (go_at_call 14; refine (awake_any hT).mono ?_; rintro e w1 ⟨rfl, hA1⟩)
  refine HK.out _ _ ?_
  clear HK
  have hs1 := hs.below hA1.bel
  obtain ⟨gb, hg⟩ : ∃ gb, greatP l 10 = gb := ⟨_, rfl⟩
  have HG := Lib.hid hg
  by_cases hgo : gb = false ∧ told.size ≤ 16
  case neg =>
    cases gb
    case true =>
      clear hg hgo
      go_wp2_with (go_at_call 15; refine (great_any a cap l 10 (by decide) w1 hs1).mono ?_; rintro e w2 ⟨rfl, hb2⟩; rw [HG.out])
      go_ret
      exact ⟨rfl, hA1.bel.trans (hb2.mono hA1.bel.size)⟩
    case false =>
      have hx : 16 < told.size := by
        have : ¬ told.size ≤ 16 := fun h => hgo ⟨rfl, h⟩
        omega
      clear hg hgo
      go_wp2_with (go_at_call 15; refine (great_any a cap l 10 (by decide) w1 hs1).mono ?_; rintro e w2 ⟨rfl, hb2⟩; rw [HG.out])
      all_goals
        first
        | (go_ret
           exact ⟨rfl, hA1.bel.trans (hb2.mono hA1.bel.size)⟩)
        | (exfalso; simp at *; omega)
  case pos =>
    obtain ⟨rfl, hv16⟩ := hgo
    obtain ⟨hl, hok⟩ := greatP_no hg HB.out
    have HOK := Lib.hid hok
    clear hg hok
    refine wp_seq_k (fun K hK => ?_)
    have HK := Lib.hid hK
    clear hK
    go_wp2_with (go_at_call 15; refine (great_any a cap l 10 (by decide) w1 hs1).mono ?_; rintro e w2 ⟨rfl, hb2⟩; rw [HG.out])
    refine HK.out _ _ ?_
    clear HK
    have hA2 := hA1.below hb2
    have hs2 := hs1.below hb2
    obtain ⟨aq, haq⟩ : ∃ k : Nat, (at' % 18446744073709551616 % ((l.length + 1 : Nat) : Int)).toNat = k := ⟨_, rfl⟩
    have hal : aq ≤ l.length := by have := u64_lt at' (l.length + 1) (by omega); omega
    have hm2 : wrap64 ((IntKind.u64.wrap at').tmod ((l.length : Int) + 1)) = (aq : Int) := by
      have hmd := (u64_mod at' (l.length + 1) (by omega) (by omega)).trans (congrArg (fun k : Nat => (k : Int)) haq)
      rw [u64_small (show l.length + 1 ≤ 1000000 by omega)] at hmd
      have : ((l.length : Int) + 1) = ((l.length + 1 : Nat) : Int) := by omega
      rw [this, hmd, ← IntWalk.i64_left]
      exact IntWalk.i64_in _ (by omega)
    have HM2 := Lib.hid hm2
    clear hm2 haq hs hs1 hb2 hA1
    refine wp_seq_k (fun K hK => ?_)
    have HK := Lib.hid hK
    clear hK
    go_wp2
    refine HK.out _ _ ?_
    clear HK
    rw [HM2.out]
    refine wp_seq_k (fun K hK => ?_)
    have HK := Lib.hid hK
    clear hK
    go_wp2
    refine HK.out _ _ ?_
    clear HK
    refine wp_seq_k (fun K hK => ?_)
    have HK := Lib.hid hK
    clear hK
    go_wp2
    refine HK.out _ _ ?_
    clear HK
    have hr := hs2.row
    have hle := hs2.le
    have hmx := hs2.max
    unfold maxLen at hmx
    have HOKK := Lib.hid hmx
    refine wp_seq_k (fun K hK => ?_)
    go_cut [7, 8] (fun o ks wr => ∃ n : Nat, ks = .int .i64 n ∧ n = l.countP (fun d => d.op.kind == 2) ∧ (∀ d ∈ l, d.op.key ≠ ownK) ∧ wr.ownsRow w2.heap.size 55 8 o (insD l aq).length (dones (insD l aq)) ∧ Below w2.heap.size w2 wr)
    case first =>
      go_wp2
      go_loopw [7, 8, 9] (fun o ks i wr => ∃ k : Nat, k ≤ l.length ∧ i = .int .i64 k ∧ ks = .int .i64 ((l.take k).countP (fun d => d.op.kind == 2) : Nat) ∧ Hid (∀ d ∈ l.take k, d.op.key ≠ ownK) ∧ wr.ownsRow w2.heap.size 55 8 o (preD l aq k).length (dones (preD l aq k)) ∧ Below w2.heap.size w2 wr) (fun _ _ i _ => l.length + 1 - (intOf i).toNat)
      case atStart => exact ⟨0, by omega, rfl, rfl, Lib.hid (fun d hd => by cases hd), (by unfold preD; rw [if_pos (Nat.zero_le _)]; exact World.ownsRow_nil _ _ _ _), Below.refl _ _⟩
      case round =>
        obtain ⟨k, hk, rfl, rfl, HNK, hO, hbr⟩ := hrel
        refine wp_seq_k (fun K hK => ?_)
        have HK := Lib.hid hK
        clear hK
        go_wp2
        refine HK.out _ _ ?_
        clear HK
        have hpl := pre_len hal hk
        have hcp : (l.take k).countP (fun d => d.op.kind == 2) ≤ 10 := Nat.le_trans List.countP_le_length (by rw [List.length_take]; omega)
        refine wp_seq_k (fun K hK => ?_)
        have HK2 := Lib.hid hK
        clear hK
        refine wp_block ?_
        refine wp_seq_k (fun K hK => ?_)
        go_cut [7] (fun o wr => wr.ownsRow w2.heap.size 55 8 o (midD l aq k).length (dones (midD l aq k)) ∧ Below w2.heap.size w2 wr)
        case first =>
          by_cases hka : k = aq
          case pos =>
            have HKA := Lib.hid hka
            have hki : ((k : Int) == (aq : Int)) = true := by rw [hka]; simp
            obtain ⟨pl, hpl2⟩ : ∃ n, (preD l aq k).length = n := ⟨_, rfl⟩
            rw [hpl2] at hO hpl
            have HPL := Lib.hid hpl2
            clear hpl2 hka
            go_wp2_with (at_builtin; refine wpList_append1 rfl _ _ 41 55 elDoneL rfl w2.heap.size _ pl _ rfl hO #[.int .i64 0, .int .u8 2, .string ⟨#[111, 119, 110]⟩, .string ⟨#[]⟩, .string ⟨#[118]⟩, .int .u8 0, .int .u8 1, .bool false] rfl (done_one ownD) 55 rfl (by omega) (by decide) hbr.size ?_; intro v' w' hO' hb' _)
            go_meet
            refine ⟨?_, hbr.trans hb'⟩
            obtain rfl := HKA.out
            rw [mid_eq hal, dones_snoc, List.length_append, List.length_singleton, HPL.out]
            exact hO'
          case neg =>
            have hki : ((k : Int) == (aq : Int)) = false := by rw [beq_eq_false_iff_ne]; omega
            have HKA := Lib.hid hka
            clear hka
            go_wp2
            go_meet
            rw [mid_ne HKA.out]
            exact ⟨hO, hbr⟩
        obtain ⟨hO2, hbr2⟩ := hcut
        refine hK _ _ ?_
        clear hK hO hbr
        by_cases hkl : k = l.length
        case pos =>
          have hkb : ((k : Int) == (l.length : Int)) = true := by rw [hkl]; simp
          have HKL := Lib.hid hkl
          clear hkl
          go_wp2
          (try simp only [Exit.inBlock, Exit.then])
          go_meet
          have hkl := HKL.out
          rw [hkl, mid_end hal] at hO2
          have hkk := HNK.out
          rw [hkl, List.take_length] at hkk
          exact ⟨_, rfl, by rw [hkl, List.take_length], hkk, hO2, hbr2⟩
        case neg =>
          have hlt : k < l.length := by omega
          have hkb : ((k : Int) == (l.length : Int)) = false := by rw [beq_eq_false_iff_ne]; omega
          have hpn := pre_succ hal hlt
          have htk := take_snoc' (dn_at hlt)
          have hmem : dnN l k ∈ l := List.mem_of_getElem? (dn_at hlt)
          obtain ⟨bb, off, rfl, hblt, ht⟩ := hr.flat doneC_len (by decide) (dn_at hlt)
          obtain ⟨d, hd⟩ : ∃ d, dnN l k = d := ⟨_, rfl⟩
          rw [hd] at ht hpn htk hmem
          have HPN := Lib.hid hpn
          have HTK := Lib.hid htk
          have HME := Lib.hid hmem
          have c0 : wc.cell? ⟨bb, off + k * 8, none⟩ = some (.int .i64 d.cli) := (hbr2.cell hblt).trans (ht 0 (.int .i64 d.cli) rfl)
          have c1 := (hbr2.cell hblt).trans (ht 1 (.int .u8 d.op.kind) rfl)
          have c2 := (hbr2.cell hblt).trans (ht 2 (.string d.op.key) rfl)
          have c3 := (hbr2.cell hblt).trans (ht 3 (.string d.op.old) rfl)
          have c4 := (hbr2.cell hblt).trans (ht 4 (.string d.op.val) rfl)
          have c5 := (hbr2.cell hblt).trans (ht 5 (.int .u8 d.ah) rfl)
          have c6 := (hbr2.cell hblt).trans (ht 6 (.int .u8 d.be) rfl)
          have c7 := (hbr2.cell hblt).trans (ht 7 (.bool d.lost) rfl)
          obtain ⟨kd, hkd⟩ : ∃ n, d.op.kind = n := ⟨_, rfl⟩
          obtain ⟨key, hkey⟩ : ∃ n, d.op.key = n := ⟨_, rfl⟩
          rw [hkd] at c1
          rw [hkey] at c2
          have HKD := Lib.hid hkd
          have HKEY := Lib.hid hkey
          clear hd hpn htk hmem ht hkl hkd hkey
          by_cases hown : key = ownK
          case pos =>
            subst hown
            go_wp2
            (try simp only [Exit.noGoto])
            go_ret
            exact ⟨rfl, hA2.bel.trans (hbr2.mono hA2.bel.size)⟩
          case neg =>
            have hne : (ByteArray.toList key == [111, 119, 110]) = false := by
              rw [beq_eq_false_iff_ne]
              intro e
              exact hown (tx_ext (e.trans own_list.symm))
            have HOWN := Lib.hid hown
            clear hown
            refine wp_seq_k (fun K hK => ?_)
            have HK := Lib.hid hK
            clear hK
            go_wp2
            refine HK.out _ _ ?_
            clear HK
            refine wp_seq_k (fun K hK => ?_)
            have HK := Lib.hid hK
            clear hK
            go_wp2
            refine HK.out _ _ ?_
            clear HK
            obtain ⟨pl, hpl2⟩ : ∃ n, (midD l aq k).length = n := ⟨_, rfl⟩
            rw [hpl2] at hO2 hpl
            have HPL := Lib.hid hpl2
            clear hpl2
            by_cases hk2 : kd = 2
            case pos =>
              have hkb2 : (kd == 2) = true := by rw [beq_iff_eq]; exact hk2
              have HK22 := Lib.hid hk2
              clear hk2
              refine wp_seq_k (fun K hK => ?_)
              have HK := Lib.hid hK
              clear hK
              go_wp2
              refine HK.out _ _ ?_
              clear HK
              go_wp2_with (at_builtin; refine wpList_append1 rfl _ _ 41 55 elDoneL rfl w2.heap.size _ pl _ rfl hO2 #[.int .i64 d.cli, .int .u8 kd, .string key, .string d.op.old, .string d.op.val, .int .u8 d.ah, .int .u8 d.be, .bool d.lost] rfl (by simp [Value.oneCell']) 55 rfl (by omega) (by decide) hbr2.size ?_; intro v' w' hO' hb' _)
              (try simp only [Exit.inBlock, Exit.then])
              refine HK2.out _ _ ?_
              clear HK2
              go_wp2
              go_roundw
              case rel =>
                refine ⟨k + 1, by omega, by go_num, ?_, Lib.hid fun x hx => ?_, ?_, hbr2.trans hb'⟩
                · have e : (l.take (k + 1)).countP (fun d => d.op.kind == 2) = (l.take k).countP (fun d => d.op.kind == 2) + 1 := by
                    rw [HTK.out, List.countP_append, List.countP_singleton, HKD.out]
                    rw [if_pos (by rw [beq_iff_eq]; exact HK22.out)]
                  rw [e] <;> go_num
                · rw [HTK.out] at hx
                  rcases List.mem_append.1 hx with hx | hx
                  · exact HNK.out x hx
                  · rw [List.mem_singleton] at hx
                    rw [hx, HKEY.out]
                    exact HOWN.out
                · rw [HPN.out, dones_snoc, List.length_append, List.length_singleton, HPL.out]
                  unfold doneC
                  rw [HKD.out, HKEY.out]
                  exact hO'
              case measure => simp [intOf]; omega
            case neg =>
              have hkb2 : (kd == 2) = false := by rw [beq_eq_false_iff_ne]; exact hk2
              have HK22 := Lib.hid hk2
              clear hk2
              refine wp_seq_k (fun K hK => ?_)
              have HK := Lib.hid hK
              clear hK
              go_wp2
              refine HK.out _ _ ?_
              clear HK
              go_wp2_with (at_builtin; refine wpList_append1 rfl _ _ 41 55 elDoneL rfl w2.heap.size _ pl _ rfl hO2 #[.int .i64 d.cli, .int .u8 kd, .string key, .string d.op.old, .string d.op.val, .int .u8 d.ah, .int .u8 d.be, .bool d.lost] rfl (by simp [Value.oneCell']) 55 rfl (by omega) (by decide) hbr2.size ?_; intro v' w' hO' hb' _)
              (try simp only [Exit.inBlock, Exit.then])
              refine HK2.out _ _ ?_
              clear HK2
              go_wp2
              go_roundw
              case rel =>
                refine ⟨k + 1, by omega, by go_num, ?_, Lib.hid fun x hx => ?_, ?_, hbr2.trans hb'⟩
                · have e : (l.take (k + 1)).countP (fun d => d.op.kind == 2) = (l.take k).countP (fun d => d.op.kind == 2) := by
                    rw [HTK.out, List.countP_append, List.countP_singleton, HKD.out]
                    rw [if_neg (by rw [beq_iff_eq]; exact HK22.out)]; rfl
                  rw [e]
                · rw [HTK.out] at hx
                  rcases List.mem_append.1 hx with hx | hx
                  · exact HNK.out x hx
                  · rw [List.mem_singleton] at hx
                    rw [hx, HKEY.out]
                    exact HOWN.out
                · rw [HPN.out, dones_snoc, List.length_append, List.length_singleton, HPL.out]
                  unfold doneC
                  rw [HKD.out, HKEY.out]
                  exact hO'
              case measure => simp [intOf]; omega
    obtain ⟨n, rfl, hn, hkk, hO, hbr⟩ := hcut
    refine hK _ _ ?_
    clear hK
    by_cases h7 : 7 < n
    case pos =>
      clear hn hkk
      go_wp2
      (try simp only [Exit.noGoto])
      go_ret
      exact ⟨rfl, hA2.bel.trans (hbr.mono hA2.bel.size)⟩
    case neg =>
      have hSD := stale_ins hal HOK.out hl hkk (by rw [← hn]; omega)
      clear hn hkk
      refine wp_seq_k (fun K hK => ?_)
      have HK := Lib.hid hK
      clear hK
      go_wp2
      refine HK.out _ _ ?_
      clear HK
      obtain ⟨L, hL⟩ : ∃ L, insD l aq = L := ⟨_, rfl⟩
      rw [hL] at hO hSD
      have hL11 := hSD.n11
      have hLp : 0 < L.length := Nat.lt_of_le_of_lt (Nat.zero_le _) hSD.lt
      have HSD := Lib.hid hSD
      obtain ⟨ga, gcap, rfl, hsG⟩ := SlD.of_owns hO
      clear hL hO hSD h7 hr hs2 hle hmx HOKK
      refine wp_seq_k (fun K hK => ?_)
      have HK := Lib.hid hK
      clear hK
      go_wp2_with (go_at_call 16; refine (history_any ga gcap L (by omega) HSD.out.ok wc hsG).mono ?_; rintro e w3 ⟨⟨v, rfl, hH0⟩, hb3⟩)
      refine HK.out _ _ ?_
      clear HK
      obtain ⟨g, hcap, rfl, hgB⟩ := own_form hH0 hLp
      have hH : HRow w3 wc.heap.size g hcap L.length (hist L) := hH0
      have hbw3 := hbr.trans (hb3.mono hbr.size)
      clear hH0 hbr hb3 hsG
      refine wp_seq_k (fun K hK => ?_)
      have HK := Lib.hid hK
      clear hK
      go_wp2
      refine HK.out _ _ ?_
      clear HK
      refine wp_seq_k (fun K hK => ?_)
      have HK := Lib.hid hK
      clear hK
      go_wp2_with ((first | (with_reducible refine wpList_stNew 38 _ _ ?_) | (with_reducible refine wp_stNew 38 _ _ ?_)); refine ⟨_, _, ⟨Tryd.sizeOf38, rfl, clv_new ⟨3, ⟨1, ownK, ⟨#[]⟩, ⟨#[]⟩⟩, ⟨0, true, vT⟩, 600 * (L.length : Int) + 9000, 600 * (L.length : Int) + 9000 + 1⟩⟩, rfl, ?_⟩)
      refine HK.out _ _ ?_
      clear HK
      have N23 := heap_alloc_new w3 (Obj.cells (clvA ⟨3, ⟨1, ownK, ⟨#[]⟩, ⟨#[]⟩⟩, ⟨0, true, vT⟩, 600 * (L.length : Int) + 9000, 600 * (L.length : Int) + 9000 + 1⟩) 38)
      have hb4 := blw w3 (Obj.cells (clvA ⟨3, ⟨1, ownK, ⟨#[]⟩, ⟨#[]⟩⟩, ⟨0, true, vT⟩, 600 * (L.length : Int) + 9000, 600 * (L.length : Int) + 9000 + 1⟩) 38)
      have hH4 := owns_bl hH hb4
      have hbw4 := hbw3.trans (hb4.mono hbw3.size)
      clear hH hbw3 hb4
      generalize w3.alloc (Obj.cells (clvA ⟨3, ⟨1, ownK, ⟨#[]⟩, ⟨#[]⟩⟩, ⟨0, true, vT⟩, 600 * (L.length : Int) + 9000, 600 * (L.length : Int) + 9000 + 1⟩) 38) = w4 at *
      generalize w3.heap.size = q3 at *
      have k0 := blk_cell N23 0 (.int .i64 3) rfl
      have k1 := blk_cell N23 1 (.int .u8 1) rfl
      have k2 := blk_cell N23 2 (.string ownK) rfl
      have k3 := blk_cell N23 3 (.string ⟨#[]⟩) rfl
      have k4 := blk_cell N23 4 (.string ⟨#[]⟩) rfl
      have k5 := blk_cell N23 5 (.int .i64 0) rfl
      have k6 := blk_cell N23 6 (.bool true) rfl
      have k7 := blk_cell N23 7 (.string vT) rfl
      have k8 := blk_cell N23 8 (.int .i64 (600 * (L.length : Int) + 9000)) rfl
      have k9 := blk_cell N23 9 (.int .i64 (600 * (L.length : Int) + 9000 + 1)) rfl
      refine wp_seq_k (fun K hK => ?_)
      have HK := Lib.hid hK
      clear hK
      go_wp2_with ((first | (with_reducible refine wpList_stNew 38 _ _ ?_) | (with_reducible refine wp_stNew 38 _ _ ?_)); refine ⟨_, _, ⟨Tryd.sizeOf38, rfl, clv_new ⟨3, ⟨1, ownK, ⟨#[]⟩, ⟨#[]⟩⟩, ⟨0, true, vT⟩, 600 * (L.length : Int) + 9000, 600 * (L.length : Int) + 9000 + 1⟩⟩, rfl, ?_⟩)
      refine HK.out _ _ ?_
      clear HK
      have N24 := heap_alloc_new w4 (Obj.cells (clvA ⟨3, ⟨1, ownK, ⟨#[]⟩, ⟨#[]⟩⟩, ⟨0, true, vT⟩, 600 * (L.length : Int) + 9000, 600 * (L.length : Int) + 9000 + 1⟩) 38)
      have hb5 := blw w4 (Obj.cells (clvA ⟨3, ⟨1, ownK, ⟨#[]⟩, ⟨#[]⟩⟩, ⟨0, true, vT⟩, 600 * (L.length : Int) + 9000, 600 * (L.length : Int) + 9000 + 1⟩) 38)
      have N23b := tr_bl hb5 N23
      have hH5 := owns_bl hH4 hb5
      have hbw5 := hbw4.trans (hb5.mono hbw4.size)
      have hq34 : q3 < w4.heap.size := lt_blk N23
      have hg4 : g < w4.heap.size := by
        obtain ⟨cs, hN, _⟩ := hrow_block hH4
        exact lt_blk hN
      have hww4 := hbw4.size
      clear hH4 hbw4 hb5 N23 k0 k1 k2 k3 k4 k5 k6 k7 k8 k9
      generalize w4.alloc (Obj.cells (clvA ⟨3, ⟨1, ownK, ⟨#[]⟩, ⟨#[]⟩⟩, ⟨0, true, vT⟩, 600 * (L.length : Int) + 9000, 600 * (L.length : Int) + 9000 + 1⟩) 38) = w5 at *
      generalize w4.heap.size = q4 at *
      obtain ⟨fb, hfb⟩ : ∃ fb, (ByteArray.toList told == []) = fb := ⟨_, rfl⟩
      refine wp_seq_k (fun K hK => ?_)
      go_cut [] (fun wr => wr.heap[q4]? = some (.cells (clvA ⟨3, ⟨1, ownK, ⟨#[]⟩, ⟨#[]⟩⟩, ⟨0, !fb, told⟩, 600 * (L.length : Int) + 9000, 600 * (L.length : Int) + 9000 + 1⟩) 38 (0, 0)) ∧ w5.grownBy wr (some q4))
      case first =>
        cases fb
        · go_wp2_with ((with_reducible refine wpList_stB 36 _ _ ?_); refine ⟨_, _, _, ⟨_, _, _, Tryd.sizeOf36, rfl, N24, st_repC ⟨3, ⟨1, ownK, ⟨#[]⟩, ⟨#[]⟩⟩, ⟨0, true, vT⟩, 600 * (L.length : Int) + 9000, 600 * (L.length : Int) + 9000 + 1⟩ ⟨0, true, told⟩⟩, ?_⟩; intro w6 N25 g25)
          go_meet
          exact ⟨N25, g25⟩
        · go_wp2_with ((with_reducible refine wpList_stB 36 _ _ ?_); refine ⟨_, _, _, ⟨_, _, _, Tryd.sizeOf36, rfl, N24, st_repC ⟨3, ⟨1, ownK, ⟨#[]⟩, ⟨#[]⟩⟩, ⟨0, true, vT⟩, 600 * (L.length : Int) + 9000, 600 * (L.length : Int) + 9000 + 1⟩ ⟨0, false, told⟩⟩, ?_⟩; intro w6 N25 g25)
          go_meet
          exact ⟨N25, g25⟩
      obtain ⟨N25, g25⟩ := hcut
      refine hK _ _ ?_
      clear hK
      have HFB := Lib.hid hfb
      have hH6 := World.ownsRow.kept hH5 g25 (.inr (fun e => by
        have e : some g = some q4 := e
        injection e with e
        omega))
      have N23c := tr_st g25 N23b (show q4 ≠ q3 by omega)
      have hbw6 := bl_st hbw5 g25 hbw5.size hww4
      clear hfb hH5 N23b N24 g25 hbw5
      refine wp_seq_k (fun K hK => ?_)
      have HK := Lib.hid hK
      clear hK
      go_wp2
      refine HK.out _ _ ?_
      clear HK
      have hg6 : g < wc.heap.size := by
        obtain ⟨cs, hN, _⟩ := hrow_block hH6
        exact lt_blk hN
      refine wp_seq_k (fun K hK => ?_)
      go_cut [14] (fun o wr => wr.ownsRow wc.heap.size 38 10 o (L.length + 1) (calls (hist L ++ [⟨3, ⟨1, ownK, ⟨#[]⟩, ⟨#[]⟩⟩, ⟨0, true, vT⟩, 600 * (L.length : Int) + 9000, 600 * (L.length : Int) + 9000 + 1⟩])) ∧ Below wc.heap.size wc wr)
      case first =>
        have hslc := hrow_slc hH6
        have hcl : (calls (hist L)).length = L.length * 10 := by rw [calls_len, hist_len]; omega
        go_wp2_with fail
        have hS0 : Below wc.heap.size wc wc.drew := (Below.refl _ _).drew
        refine wp_region_held_drew (S := fun w' => Below wc.heap.size wc w') (by kernel_rfl) hS0 (fun _ => ?_)
        have hH7 := owns_bl hH6 hS0
        have N7 := tr_bl hS0 N23c
        generalize wc.drew = w7 at *
        refine wpAnyH_take (i := 0) (oi := ⟨_, _, _, _, _, _⟩) (v := ?_) rfl (by kernel_rfl) (by kernel_rfl) (by kernel_rfl) (fun _ _ _ h => h) (Or.inl ⟨by rfl, ?_⟩) (by assumption) ?_
        rotate_left
        · intro wS hSw; go_simp; (try with_reducible rfl)
        (try simp only [Act.put]); (try simp only [List.setIfInBounds_toArray]); (try simp only [List.set_cons_succ]); (try simp only [List.set_cons_zero])
        refine wpAnyH_take (i := 1) (oi := ⟨_, _, _, _, _, _⟩) (v := ?_) rfl (by kernel_rfl) (by kernel_rfl) (by kernel_rfl) (fun _ _ _ h => h) (Or.inl ⟨by rfl, ?_⟩) (by assumption) ?_
        rotate_left
        · intro wS hSw; go_simp; (try with_reducible rfl)
        (try simp only [Act.put]); (try simp only [List.setIfInBounds_toArray]); (try simp only [List.set_cons_succ]); (try simp only [List.set_cons_zero])
        refine wpAnyH_take (i := 3) (oi := ⟨_, _, _, _, _, _⟩) (v := .agg (clvA ⟨3, ⟨1, ownK, ⟨#[]⟩, ⟨#[]⟩⟩, ⟨0, true, vT⟩, 600 * (L.length : Int) + 9000, 600 * (L.length : Int) + 9000 + 1⟩)) rfl (by kernel_rfl) (by kernel_rfl) (by kernel_rfl) (fun _ _ _ h => h) (Or.inl ⟨by rfl, fun wS hSw => ?_⟩) (by assumption) ?_
        · exact exec_ldB 38 _ ⟨_, _, _, _, _, Tryd.isAgg38, Tryd.sizeOf38, rfl, (tr_bl hSw N23c), arr_all rfl⟩
        (try simp only [Act.put]); (try simp only [List.setIfInBounds_toArray]); (try simp only [List.set_cons_succ]); (try simp only [List.set_cons_zero])
        refine wpAnyH_ready (rs := [2, 4]) (by kernel_rfl) (by simp) ?_
        refine AllReadyH.cons (o := ⟨_, _, _, _, _, _⟩) rfl (fun K' hK' => ?_) (AllReadyH.cons (o := ⟨_, _, _, _, _, _⟩) rfl (fun K' hK' => ?_) AllReadyH.nil)
        · refine (if_pos (by rfl)).mpr ?_
          refine wp_appM _ _ 22 22 38 38 elCallL Tryd.underlying22 rfl wc.heap.size (.slice none 0 0) 0 [] rfl (World.ownsRow_nil _ _ _ _) ⟨g, 0, none⟩ L.length hcap (calls (hist L)) rfl hcl (hrow_cells hH7) calls_one (by omega) (by decide) hS0.size ?_
          intro v8 w8 O8 g8
          have hb8 : Below wc.heap.size wc w8 := hS0.grown g8 hS0.size (fun k e => by cases e)
          rw [List.nil_append, Nat.zero_add] at O8
          refine hK'.out _ _ hb8 (fun _ => ?_)
          (try simp only [Act.put]); (try simp only [List.setIfInBounds_toArray]); (try simp only [List.set_cons_succ]); (try simp only [List.set_cons_zero])
          refine wpAnyH_ready (rs := [4]) (by kernel_rfl) (by simp) ?_
          refine AllReadyH.cons (o := ⟨_, _, _, _, _, _⟩) rfl (fun K' hK' => ?_) AllReadyH.nil
          refine (if_pos (by rfl)).mpr ?_
          refine wp_bsl _ ⟨3, ⟨1, ownK, ⟨#[]⟩, ⟨#[]⟩⟩, ⟨0, true, vT⟩, 600 * (L.length : Int) + 9000, 600 * (L.length : Int) + 9000 + 1⟩ rfl ?_
          have hb9 := hb8.trans ((blw w8 (.cells (clvA ⟨3, ⟨1, ownK, ⟨#[]⟩, ⟨#[]⟩⟩, ⟨0, true, vT⟩, 600 * (L.length : Int) + 9000, 600 * (L.length : Int) + 9000 + 1⟩) 38)).mono hb8.size)
          refine hK'.out _ _ hb9 (fun _ => ?_)
          (try simp only [Act.put]); (try simp only [List.setIfInBounds_toArray]); (try simp only [List.set_cons_succ]); (try simp only [List.set_cons_zero])
          refine wpAnyH_ready (rs := [5]) (by kernel_rfl) (by simp) ?_
          refine AllReadyH.cons (o := ⟨_, _, _, _, _, _⟩) rfl (fun K' hK' => ?_) AllReadyH.nil
          refine (if_pos (by rfl)).mpr ?_
          refine wp_appM _ _ 22 22 38 38 elCallL Tryd.underlying22 rfl wc.heap.size v8 L.length (calls (hist L)) rfl (O8.alloc _) ⟨w8.heap.size, 0, none⟩ 1 1 (callC ⟨3, ⟨1, ownK, ⟨#[]⟩, ⟨#[]⟩⟩, ⟨0, true, vT⟩, 600 * (L.length : Int) + 9000, 600 * (L.length : Int) + 9000 + 1⟩) rfl rfl (new_cells w8 ⟨3, ⟨1, ownK, ⟨#[]⟩, ⟨#[]⟩⟩, ⟨0, true, vT⟩, 600 * (L.length : Int) + 9000, 600 * (L.length : Int) + 9000 + 1⟩) (clv_new ⟨3, ⟨1, ownK, ⟨#[]⟩, ⟨#[]⟩⟩, ⟨0, true, vT⟩, 600 * (L.length : Int) + 9000, 600 * (L.length : Int) + 9000 + 1⟩).2.2 (by omega) (by decide) hb9.size ?_
          intro v10 w10 O10 g10
          have hb10 := hb9.grown g10 hb9.size (fun k e => (O8.lt k e).1)
          refine hK'.out _ _ hb10 (fun _ => ?_)
          (try simp only [Act.put]); (try simp only [List.setIfInBounds_toArray]); (try simp only [List.set_cons_succ]); (try simp only [List.set_cons_zero])
          refine wpAnyH_take (i := 6) (oi := ⟨_, _, _, _, _, _⟩) (v := ?_) rfl (by kernel_rfl) (by kernel_rfl) (by kernel_rfl) (fun _ _ _ h => h) (Or.inl ⟨by rfl, ?_⟩) (by assumption) ?_
          rotate_left
          · intro wS hSw; go_simp; (try with_reducible rfl)
          (try simp only [Act.put]); (try simp only [List.setIfInBounds_toArray]); (try simp only [List.set_cons_succ]); (try simp only [List.set_cons_zero])
          refine wpAnyH_done (by kernel_rfl) ?_ _
          go_wp2
          go_meet
          refine ⟨?_, hb10⟩
          rw [show calls (hist L ++ [⟨3, ⟨1, ownK, ⟨#[]⟩, ⟨#[]⟩⟩, ⟨0, true, vT⟩, 600 * (L.length : Int) + 9000, 600 * (L.length : Int) + 9000 + 1⟩]) = calls (hist L) ++ callC ⟨3, ⟨1, ownK, ⟨#[]⟩, ⟨#[]⟩⟩, ⟨0, true, vT⟩, 600 * (L.length : Int) + 9000, 600 * (L.length : Int) + 9000 + 1⟩ by simp [calls]]
          exact O10
        · refine (if_pos (by rfl)).mpr ?_
          refine wp_bsl _ ⟨3, ⟨1, ownK, ⟨#[]⟩, ⟨#[]⟩⟩, ⟨0, true, vT⟩, 600 * (L.length : Int) + 9000, 600 * (L.length : Int) + 9000 + 1⟩ rfl ?_
          have hb8 := hS0.trans ((blw w7 (.cells (clvA ⟨3, ⟨1, ownK, ⟨#[]⟩, ⟨#[]⟩⟩, ⟨0, true, vT⟩, 600 * (L.length : Int) + 9000, 600 * (L.length : Int) + 9000 + 1⟩) 38)).mono hS0.size)
          have nc8 := new_cells w7 ⟨3, ⟨1, ownK, ⟨#[]⟩, ⟨#[]⟩⟩, ⟨0, true, vT⟩, 600 * (L.length : Int) + 9000, 600 * (L.length : Int) + 9000 + 1⟩
          have q7lt : w7.heap.size < (w7.alloc (.cells (clvA ⟨3, ⟨1, ownK, ⟨#[]⟩, ⟨#[]⟩⟩, ⟨0, true, vT⟩, 600 * (L.length : Int) + 9000, 600 * (L.length : Int) + 9000 + 1⟩) 38)).heap.size := by simp
          have hH8 := hH7.alloc (.cells (clvA ⟨3, ⟨1, ownK, ⟨#[]⟩, ⟨#[]⟩⟩, ⟨0, true, vT⟩, 600 * (L.length : Int) + 9000, 600 * (L.length : Int) + 9000 + 1⟩) 38)
          refine hK'.out _ _ hb8 (fun _ => ?_)
          (try simp only [Act.put]); (try simp only [List.setIfInBounds_toArray]); (try simp only [List.set_cons_succ]); (try simp only [List.set_cons_zero])
          generalize w7.alloc (.cells (clvA ⟨3, ⟨1, ownK, ⟨#[]⟩, ⟨#[]⟩⟩, ⟨0, true, vT⟩, 600 * (L.length : Int) + 9000, 600 * (L.length : Int) + 9000 + 1⟩) 38) = w8 at *
          refine wpAnyH_ready (rs := [2]) (by kernel_rfl) (by simp) ?_
          refine AllReadyH.cons (o := ⟨_, _, _, _, _, _⟩) rfl (fun K' hK' => ?_) AllReadyH.nil
          refine (if_pos (by rfl)).mpr ?_
          refine wp_appM _ _ 22 22 38 38 elCallL Tryd.underlying22 rfl wc.heap.size (.slice none 0 0) 0 [] rfl (World.ownsRow_nil _ _ _ _) ⟨g, 0, none⟩ L.length hcap (calls (hist L)) rfl hcl (hrow_cells hH8) calls_one (by omega) (by decide) hb8.size ?_
          intro v9 w9 O9 g9
          have hb9 : Below wc.heap.size wc w9 := hb8.grown g9 hb8.size (fun k e => by cases e)
          have hbn : Below w8.heap.size w8 w9 := (Below.refl _ _).grown g9 (Nat.le_refl _) (fun k e => by cases e)
          rw [List.nil_append, Nat.zero_add] at O9
          refine hK'.out _ _ hb9 (fun _ => ?_)
          (try simp only [Act.put]); (try simp only [List.setIfInBounds_toArray]); (try simp only [List.set_cons_succ]); (try simp only [List.set_cons_zero])
          refine wpAnyH_ready (rs := [5]) (by kernel_rfl) (by simp) ?_
          refine AllReadyH.cons (o := ⟨_, _, _, _, _, _⟩) rfl (fun K' hK' => ?_) AllReadyH.nil
          refine (if_pos (by rfl)).mpr ?_
          refine wp_appM _ _ 22 22 38 38 elCallL Tryd.underlying22 rfl wc.heap.size v9 L.length (calls (hist L)) rfl O9 ⟨w7.heap.size, 0, none⟩ 1 1 (callC ⟨3, ⟨1, ownK, ⟨#[]⟩, ⟨#[]⟩⟩, ⟨0, true, vT⟩, 600 * (L.length : Int) + 9000, 600 * (L.length : Int) + 9000 + 1⟩) rfl rfl (cells_bel hbn q7lt nc8) (clv_new ⟨3, ⟨1, ownK, ⟨#[]⟩, ⟨#[]⟩⟩, ⟨0, true, vT⟩, 600 * (L.length : Int) + 9000, 600 * (L.length : Int) + 9000 + 1⟩).2.2 (by omega) (by decide) hb9.size ?_
          intro v10 w10 O10 g10
          have hb10 := hb9.grown g10 hb9.size (fun k e => (O9.lt k e).1)
          refine hK'.out _ _ hb10 (fun _ => ?_)
          (try simp only [Act.put]); (try simp only [List.setIfInBounds_toArray]); (try simp only [List.set_cons_succ]); (try simp only [List.set_cons_zero])
          refine wpAnyH_take (i := 6) (oi := ⟨_, _, _, _, _, _⟩) (v := ?_) rfl (by kernel_rfl) (by kernel_rfl) (by kernel_rfl) (fun _ _ _ h => h) (Or.inl ⟨by rfl, ?_⟩) (by assumption) ?_
          rotate_left
          · intro wS hSw; go_simp; (try with_reducible rfl)
          (try simp only [Act.put]); (try simp only [List.setIfInBounds_toArray]); (try simp only [List.set_cons_succ]); (try simp only [List.set_cons_zero])
          refine wpAnyH_done (by kernel_rfl) ?_ _
          go_wp2
          go_meet
          refine ⟨?_, hb10⟩
          rw [show calls (hist L ++ [⟨3, ⟨1, ownK, ⟨#[]⟩, ⟨#[]⟩⟩, ⟨0, true, vT⟩, 600 * (L.length : Int) + 9000, 600 * (L.length : Int) + 9000 + 1⟩]) = calls (hist L) ++ callC ⟨3, ⟨1, ownK, ⟨#[]⟩, ⟨#[]⟩⟩, ⟨0, true, vT⟩, 600 * (L.length : Int) + 9000, 600 * (L.length : Int) + 9000 + 1⟩ by simp [calls]]
          exact O10
      obtain ⟨hO14, hb14⟩ := hcut
      refine hK _ _ ?_
      clear hK
      have hbw14 := hbw6.trans (hb14.mono hbw6.size)
      replace hH6 := owns_bl hH6 hb14
      have N25b := tr_bl hb14 N25
      have hg6 := Nat.lt_of_lt_of_le hg6 hb14.size
      clear hb14 N23c N25 hbw6
      obtain ⟨good, hgood⟩ : ∃ l, hist L ++ [⟨3, ⟨1, ownK, ⟨#[]⟩, ⟨#[]⟩⟩, ⟨0, true, vT⟩, 600 * (L.length : Int) + 9000, 600 * (L.length : Int) + 9000 + 1⟩] = l := ⟨_, rfl⟩
      rw [hgood] at hO14
      have HGOOD := Lib.hid hgood
      clear hgood
      refine wp_seq_k (fun K hK => ?_)
      go_cut [15] (fun o wr => wr.ownsRow wc.heap.size 38 10 o (L.length + 1) (calls (hist L ++ [⟨3, ⟨1, ownK, ⟨#[]⟩, ⟨#[]⟩⟩, ⟨0, !fb, told⟩, 600 * (L.length : Int) + 9000, 600 * (L.length : Int) + 9000 + 1⟩])) ∧ Below wc.heap.size wc wr)
      case first =>
        have hslc := hrow_slc hH6
        have hcl : (calls (hist L)).length = L.length * 10 := by rw [calls_len, hist_len]; omega
        go_wp2_with fail
        have hS0 : Below wc.heap.size wc wc.drew := (Below.refl _ _).drew
        refine wp_region_held_drew (S := fun w' => Below wc.heap.size wc w') (by kernel_rfl) hS0 (fun _ => ?_)
        have hH7 := owns_bl hH6 hS0
        have N7 := tr_bl hS0 N25b
        generalize wc.drew = w7 at *
        refine wpAnyH_take (i := 0) (oi := ⟨_, _, _, _, _, _⟩) (v := ?_) rfl (by kernel_rfl) (by kernel_rfl) (by kernel_rfl) (fun _ _ _ h => h) (Or.inl ⟨by rfl, ?_⟩) (by assumption) ?_
        rotate_left
        · intro wS hSw; go_simp; (try with_reducible rfl)
        (try simp only [Act.put]); (try simp only [List.setIfInBounds_toArray]); (try simp only [List.set_cons_succ]); (try simp only [List.set_cons_zero])
        refine wpAnyH_take (i := 1) (oi := ⟨_, _, _, _, _, _⟩) (v := ?_) rfl (by kernel_rfl) (by kernel_rfl) (by kernel_rfl) (fun _ _ _ h => h) (Or.inl ⟨by rfl, ?_⟩) (by assumption) ?_
        rotate_left
        · intro wS hSw; go_simp; (try with_reducible rfl)
        (try simp only [Act.put]); (try simp only [List.setIfInBounds_toArray]); (try simp only [List.set_cons_succ]); (try simp only [List.set_cons_zero])
        refine wpAnyH_take (i := 3) (oi := ⟨_, _, _, _, _, _⟩) (v := .agg (clvA ⟨3, ⟨1, ownK, ⟨#[]⟩, ⟨#[]⟩⟩, ⟨0, !fb, told⟩, 600 * (L.length : Int) + 9000, 600 * (L.length : Int) + 9000 + 1⟩)) rfl (by kernel_rfl) (by kernel_rfl) (by kernel_rfl) (fun _ _ _ h => h) (Or.inl ⟨by rfl, fun wS hSw => ?_⟩) (by assumption) ?_
        · exact exec_ldB 38 _ ⟨_, _, _, _, _, Tryd.isAgg38, Tryd.sizeOf38, rfl, (tr_bl hSw N25b), arr_all rfl⟩
        (try simp only [Act.put]); (try simp only [List.setIfInBounds_toArray]); (try simp only [List.set_cons_succ]); (try simp only [List.set_cons_zero])
        refine wpAnyH_ready (rs := [2, 4]) (by kernel_rfl) (by simp) ?_
        refine AllReadyH.cons (o := ⟨_, _, _, _, _, _⟩) rfl (fun K' hK' => ?_) (AllReadyH.cons (o := ⟨_, _, _, _, _, _⟩) rfl (fun K' hK' => ?_) AllReadyH.nil)
        · refine (if_pos (by rfl)).mpr ?_
          refine wp_appM _ _ 22 22 38 38 elCallL Tryd.underlying22 rfl wc.heap.size (.slice none 0 0) 0 [] rfl (World.ownsRow_nil _ _ _ _) ⟨g, 0, none⟩ L.length hcap (calls (hist L)) rfl hcl (hrow_cells hH7) calls_one (by omega) (by decide) hS0.size ?_
          intro v8 w8 O8 g8
          have hb8 : Below wc.heap.size wc w8 := hS0.grown g8 hS0.size (fun k e => by cases e)
          rw [List.nil_append, Nat.zero_add] at O8
          refine hK'.out _ _ hb8 (fun _ => ?_)
          (try simp only [Act.put]); (try simp only [List.setIfInBounds_toArray]); (try simp only [List.set_cons_succ]); (try simp only [List.set_cons_zero])
          refine wpAnyH_ready (rs := [4]) (by kernel_rfl) (by simp) ?_
          refine AllReadyH.cons (o := ⟨_, _, _, _, _, _⟩) rfl (fun K' hK' => ?_) AllReadyH.nil
          refine (if_pos (by rfl)).mpr ?_
          refine wp_bsl _ ⟨3, ⟨1, ownK, ⟨#[]⟩, ⟨#[]⟩⟩, ⟨0, !fb, told⟩, 600 * (L.length : Int) + 9000, 600 * (L.length : Int) + 9000 + 1⟩ rfl ?_
          have hb9 := hb8.trans ((blw w8 (.cells (clvA ⟨3, ⟨1, ownK, ⟨#[]⟩, ⟨#[]⟩⟩, ⟨0, !fb, told⟩, 600 * (L.length : Int) + 9000, 600 * (L.length : Int) + 9000 + 1⟩) 38)).mono hb8.size)
          refine hK'.out _ _ hb9 (fun _ => ?_)
          (try simp only [Act.put]); (try simp only [List.setIfInBounds_toArray]); (try simp only [List.set_cons_succ]); (try simp only [List.set_cons_zero])
          refine wpAnyH_ready (rs := [5]) (by kernel_rfl) (by simp) ?_
          refine AllReadyH.cons (o := ⟨_, _, _, _, _, _⟩) rfl (fun K' hK' => ?_) AllReadyH.nil
          refine (if_pos (by rfl)).mpr ?_
          refine wp_appM _ _ 22 22 38 38 elCallL Tryd.underlying22 rfl wc.heap.size v8 L.length (calls (hist L)) rfl (O8.alloc _) ⟨w8.heap.size, 0, none⟩ 1 1 (callC ⟨3, ⟨1, ownK, ⟨#[]⟩, ⟨#[]⟩⟩, ⟨0, !fb, told⟩, 600 * (L.length : Int) + 9000, 600 * (L.length : Int) + 9000 + 1⟩) rfl rfl (new_cells w8 ⟨3, ⟨1, ownK, ⟨#[]⟩, ⟨#[]⟩⟩, ⟨0, !fb, told⟩, 600 * (L.length : Int) + 9000, 600 * (L.length : Int) + 9000 + 1⟩) (clv_new ⟨3, ⟨1, ownK, ⟨#[]⟩, ⟨#[]⟩⟩, ⟨0, !fb, told⟩, 600 * (L.length : Int) + 9000, 600 * (L.length : Int) + 9000 + 1⟩).2.2 (by omega) (by decide) hb9.size ?_
          intro v10 w10 O10 g10
          have hb10 := hb9.grown g10 hb9.size (fun k e => (O8.lt k e).1)
          refine hK'.out _ _ hb10 (fun _ => ?_)
          (try simp only [Act.put]); (try simp only [List.setIfInBounds_toArray]); (try simp only [List.set_cons_succ]); (try simp only [List.set_cons_zero])
          refine wpAnyH_take (i := 6) (oi := ⟨_, _, _, _, _, _⟩) (v := ?_) rfl (by kernel_rfl) (by kernel_rfl) (by kernel_rfl) (fun _ _ _ h => h) (Or.inl ⟨by rfl, ?_⟩) (by assumption) ?_
          rotate_left
          · intro wS hSw; go_simp; (try with_reducible rfl)
          (try simp only [Act.put]); (try simp only [List.setIfInBounds_toArray]); (try simp only [List.set_cons_succ]); (try simp only [List.set_cons_zero])
          refine wpAnyH_done (by kernel_rfl) ?_ _
          go_wp2
          go_meet
          refine ⟨?_, hb10⟩
          rw [show calls (hist L ++ [⟨3, ⟨1, ownK, ⟨#[]⟩, ⟨#[]⟩⟩, ⟨0, !fb, told⟩, 600 * (L.length : Int) + 9000, 600 * (L.length : Int) + 9000 + 1⟩]) = calls (hist L) ++ callC ⟨3, ⟨1, ownK, ⟨#[]⟩, ⟨#[]⟩⟩, ⟨0, !fb, told⟩, 600 * (L.length : Int) + 9000, 600 * (L.length : Int) + 9000 + 1⟩ by simp [calls]]
          exact O10
        · refine (if_pos (by rfl)).mpr ?_
          refine wp_bsl _ ⟨3, ⟨1, ownK, ⟨#[]⟩, ⟨#[]⟩⟩, ⟨0, !fb, told⟩, 600 * (L.length : Int) + 9000, 600 * (L.length : Int) + 9000 + 1⟩ rfl ?_
          have hb8 := hS0.trans ((blw w7 (.cells (clvA ⟨3, ⟨1, ownK, ⟨#[]⟩, ⟨#[]⟩⟩, ⟨0, !fb, told⟩, 600 * (L.length : Int) + 9000, 600 * (L.length : Int) + 9000 + 1⟩) 38)).mono hS0.size)
          have nc8 := new_cells w7 ⟨3, ⟨1, ownK, ⟨#[]⟩, ⟨#[]⟩⟩, ⟨0, !fb, told⟩, 600 * (L.length : Int) + 9000, 600 * (L.length : Int) + 9000 + 1⟩
          have q7lt : w7.heap.size < (w7.alloc (.cells (clvA ⟨3, ⟨1, ownK, ⟨#[]⟩, ⟨#[]⟩⟩, ⟨0, !fb, told⟩, 600 * (L.length : Int) + 9000, 600 * (L.length : Int) + 9000 + 1⟩) 38)).heap.size := by simp
          have hH8 := hH7.alloc (.cells (clvA ⟨3, ⟨1, ownK, ⟨#[]⟩, ⟨#[]⟩⟩, ⟨0, !fb, told⟩, 600 * (L.length : Int) + 9000, 600 * (L.length : Int) + 9000 + 1⟩) 38)
          refine hK'.out _ _ hb8 (fun _ => ?_)
          (try simp only [Act.put]); (try simp only [List.setIfInBounds_toArray]); (try simp only [List.set_cons_succ]); (try simp only [List.set_cons_zero])
          generalize w7.alloc (.cells (clvA ⟨3, ⟨1, ownK, ⟨#[]⟩, ⟨#[]⟩⟩, ⟨0, !fb, told⟩, 600 * (L.length : Int) + 9000, 600 * (L.length : Int) + 9000 + 1⟩) 38) = w8 at *
          refine wpAnyH_ready (rs := [2]) (by kernel_rfl) (by simp) ?_
          refine AllReadyH.cons (o := ⟨_, _, _, _, _, _⟩) rfl (fun K' hK' => ?_) AllReadyH.nil
          refine (if_pos (by rfl)).mpr ?_
          refine wp_appM _ _ 22 22 38 38 elCallL Tryd.underlying22 rfl wc.heap.size (.slice none 0 0) 0 [] rfl (World.ownsRow_nil _ _ _ _) ⟨g, 0, none⟩ L.length hcap (calls (hist L)) rfl hcl (hrow_cells hH8) calls_one (by omega) (by decide) hb8.size ?_
          intro v9 w9 O9 g9
          have hb9 : Below wc.heap.size wc w9 := hb8.grown g9 hb8.size (fun k e => by cases e)
          have hbn : Below w8.heap.size w8 w9 := (Below.refl _ _).grown g9 (Nat.le_refl _) (fun k e => by cases e)
          rw [List.nil_append, Nat.zero_add] at O9
          refine hK'.out _ _ hb9 (fun _ => ?_)
          (try simp only [Act.put]); (try simp only [List.setIfInBounds_toArray]); (try simp only [List.set_cons_succ]); (try simp only [List.set_cons_zero])
          refine wpAnyH_ready (rs := [5]) (by kernel_rfl) (by simp) ?_
          refine AllReadyH.cons (o := ⟨_, _, _, _, _, _⟩) rfl (fun K' hK' => ?_) AllReadyH.nil
          refine (if_pos (by rfl)).mpr ?_
          refine wp_appM _ _ 22 22 38 38 elCallL Tryd.underlying22 rfl wc.heap.size v9 L.length (calls (hist L)) rfl O9 ⟨w7.heap.size, 0, none⟩ 1 1 (callC ⟨3, ⟨1, ownK, ⟨#[]⟩, ⟨#[]⟩⟩, ⟨0, !fb, told⟩, 600 * (L.length : Int) + 9000, 600 * (L.length : Int) + 9000 + 1⟩) rfl rfl (cells_bel hbn q7lt nc8) (clv_new ⟨3, ⟨1, ownK, ⟨#[]⟩, ⟨#[]⟩⟩, ⟨0, !fb, told⟩, 600 * (L.length : Int) + 9000, 600 * (L.length : Int) + 9000 + 1⟩).2.2 (by omega) (by decide) hb9.size ?_
          intro v10 w10 O10 g10
          have hb10 := hb9.grown g10 hb9.size (fun k e => (O9.lt k e).1)
          refine hK'.out _ _ hb10 (fun _ => ?_)
          (try simp only [Act.put]); (try simp only [List.setIfInBounds_toArray]); (try simp only [List.set_cons_succ]); (try simp only [List.set_cons_zero])
          refine wpAnyH_take (i := 6) (oi := ⟨_, _, _, _, _, _⟩) (v := ?_) rfl (by kernel_rfl) (by kernel_rfl) (by kernel_rfl) (fun _ _ _ h => h) (Or.inl ⟨by rfl, ?_⟩) (by assumption) ?_
          rotate_left
          · intro wS hSw; go_simp; (try with_reducible rfl)
          (try simp only [Act.put]); (try simp only [List.setIfInBounds_toArray]); (try simp only [List.set_cons_succ]); (try simp only [List.set_cons_zero])
          refine wpAnyH_done (by kernel_rfl) ?_ _
          go_wp2
          go_meet
          refine ⟨?_, hb10⟩
          rw [show calls (hist L ++ [⟨3, ⟨1, ownK, ⟨#[]⟩, ⟨#[]⟩⟩, ⟨0, !fb, told⟩, 600 * (L.length : Int) + 9000, 600 * (L.length : Int) + 9000 + 1⟩]) = calls (hist L) ++ callC ⟨3, ⟨1, ownK, ⟨#[]⟩, ⟨#[]⟩⟩, ⟨0, !fb, told⟩, 600 * (L.length : Int) + 9000, 600 * (L.length : Int) + 9000 + 1⟩ by simp [calls]]
          exact O10
      obtain ⟨hO15, hb15⟩ := hcut
      refine hK _ _ ?_
      clear hK
      have hO14b := owns_bl hO14 hb15
      have hbw15 := hbw14.trans (hb15.mono hbw14.size)
      clear hO14 hb15 hH6 N25b hbw14 hg6
      have hgl : good = staleM L ⟨0, true, vT⟩ := by rw [← HGOOD.out, c1_end]; rfl
      have hbl : hist L ++ [⟨3, ⟨1, ownK, ⟨#[]⟩, ⟨#[]⟩⟩, ⟨0, !fb, told⟩, 600 * (L.length : Int) + 9000, 600 * (L.length : Int) + 9000 + 1⟩] = staleM L ⟨0, !fb, told⟩ := by rw [c1_end]; rfl
      rw [hgl] at hO14b
      rw [hbl] at hO15
      have hln : ∀ r, (staleM L r).length = L.length + 1 := fun r => stale_len
      obtain ⟨ga4, gc4, rfl, hs14⟩ := SlC.of_owns (l := staleM L ⟨0, true, vT⟩) (by rw [hln]; exact hO14b)
      obtain ⟨ga5, gc5, rfl, hs15⟩ := SlC.of_owns (l := staleM L ⟨0, !fb, told⟩) (by rw [hln]; exact hO15)
      obtain ⟨tb, htb⟩ : ∃ tb, (ByteArray.toList told == [118]) = tb := ⟨_, rfl⟩
      have hyes := stale_yes HSD.out
      have hbad : (∃ q, holdsP (staleM L ⟨0, !fb, told⟩) q = true) ↔ tb = true := (stale_iff HSD.out ⟨0, !fb, told⟩).trans (told_iff HFB.out htb)
      have hT15 := hA2.tabs.below hbw15
      have hfin := hA2.bel.trans (hbw15.mono hA2.bel.size)
      have hl1 : (staleM L ⟨0, true, vT⟩).length ≤ 12 := by rw [hln]; omega
      have hl2 : (staleM L ⟨0, !fb, told⟩).length ≤ 12 := by rw [hln]; omega
      have HY := Lib.hid hyes
      have HBD := Lib.hid hbad
      have HFIN := Lib.hid hfin
      clear hyes hbad hgl hbl hln hO14b hO15 hfin hbw15
      generalize staleM L ⟨0, true, vT⟩ = m1 at *
      generalize staleM L ⟨0, !fb, told⟩ = m2 at *
      go_wp2_with fail
      go_at_call 18
      refine (orders_ab hT15 hs14 hl1 true (yes HY.out)).mono ?_
      rintro e w20 ⟨rfl, hb20⟩
      go_wp2_with fail
      go_at_call 18
      refine (orders_ab (hT15.below hb20) (hs15.below hb20) hl2 tb HBD.out).mono ?_
      rintro e w21 ⟨rfl, hb21⟩
      cases tb
      all_goals
        go_wp2
        go_ret
        exact ⟨rfl, HFIN.out.trans ((bl_tr hb20 hb21).mono HFIN.out.size)⟩
end
end Go.Proofs.YtaojblejnpemkaaDoor
