/- Texts that the claim leans on, part 10: M12, M1, M13, Open, Args. -/
import Derived.Test.YtaojblejnpemkaaDoorZ1
import Derived.Test.YtaojblejnpemkaaDoorZ2
import Derived.Test.YtaojblejnpemkaaDoorZ3
import Derived.Test.YtaojblejnpemkaaDoorZ4
import Derived.Test.YtaojblejnpemkaaDoorZ5
import Derived.Test.YtaojblejnpemkaaDoorZ6
import Derived.Test.YtaojblejnpemkaaDoorZ7
import Derived.Test.YtaojblejnpemkaaDoorZ8
import Derived.Test.YtaojblejnpemkaaDoorZ9
import Derived.Test.YtaojblejnpemkaaDoorRows
import Derived.WalkKit
import Derived.WalkSpells
import Derived.WalkLawsBesides
import Derived.Handy
import Derived.Deep.QuietTactic
import Derived.BigQuiet
import Derived.Deep.DeepCutAuto
import Derived.Lib.Hide
import Derived.RegionTactic
import Derived.ChangeAlike
import Derived.Laws.ResultCell
import Derived.Outline
import Derived.IntWalk
import Derived.ChangeSlices
import Derived.ProofKit
import Derived.Deep.Slices
import Derived.Deep.Strs
import Derived.Lib.SmallJoins
import Derived.Lib.LaidU8
import Derived.Lib.LaidPrint
import Derived.PinnedBridge
import Derived.Test.YtaojblejnpemkaaDoorTie
import Derived.Test.YtaojblejnpemkaaDoorCards
import Derived.ChangeMaps5
import Derived.Lay
import Derived.SevenTiedAt
import Derived.LoopN
import Derived.Shelf.Strconv.Quote
import Derived.Shelf.Strings.BuilderK
import Derived.Shelf.Strings.BuilderF
import Derived.Lib.QuoteLoop
import Derived.Lib.MapLaws
import Derived.Laws.BytesArg
import Derived.Maps.OwnSet
import Derived.Maps.Keyed
import Derived.WideKeyEntry
import Derived.DeepKeys4
import Derived.Laws.BitsAllLaws
import Derived.Laws.Shifts
import Derived.Laws.Rows
import Derived.Deep.Quiet
import Derived.Deep.RegionHeld3
import Derived.Laws.EntriesVeiled
import Derived.StillTailTactics
import Derived.Deep.RegionWith
import Derived.Lib.Overlaps
import Derived.OpenShut
import Derived.Laws.Strings
import Derived.Laws.CopyOwn
import Derived.Laws.CopyRow
import Derived.Laws.NewBlocks
import Derived.Deep.RegionLaw
namespace Go.Proofs.YtaojblejnpemkaaDoor
open Go.RowKit Go.Maps
theorem callC_len (c : Cl) : (callC c).length = 10 := rfl
def rp3 (r : Rp) : List Value := [.int .i64 r.err, .bool r.found, .string r.val]
abbrev HRow (w : World) (B g cap n : Nat) (m : List Cl) : Prop := w.ownsRow B 38 10 (.slice (some ⟨g, 0, none⟩) n cap) n (calls m)
section
variable {w w' : World} {B g cap n k : Nat} {m : List Cl} {c c' : Cl}
theorem hrow_len (h : HRow w B g cap n m) : m.length = n := by
  have h1 := h.1
  rw [calls_len] at h1
  omega
theorem hrow_cell (h : HRow w B g cap n m) (hk : m[k]? = some c) (j : Nat) (u : Value) (hj : (callC c)[j]? = some u) : w.cell? ⟨g, k * 10 + j, none⟩ = some u := by
  have h2 : (calls m)[k * 10 + j]? = some u := flat_at callC_len hk j u hj
  have h3 := (List.getElem?_eq_some_iff.1 h2).1
  rw [h.1] at h3
  rw [h.cellAt _ h3, h2]
theorem hrow_cell0 (h : HRow w B g cap n m) (hk : m[k]? = some c) (u : Value) (hj : (callC c)[0]? = some u) : w.cell? ⟨g, k * 10, none⟩ = some u := hrow_cell h hk 0 u hj
theorem hrow_stored (h : HRow w B g cap n m) (hk : m[k]? = some c) {j : Nat} {u : Value} (hj : j < 10) (hc : (callC c).set j u = callC c') :
    HRow (w.setCell ⟨g, k * 10 + j, none⟩ u) B g cap n (m.set k c') ∧ w.grownBy (w.setCell ⟨g, k * 10 + j, none⟩ u) (some g) := by
  have h1 := World.ownsRow.stored h (k * 10 + j) u
  have h2 : (calls m).set (k * 10 + j) u = calls (m.set k c') := flat_set callC_len hk hj hc
  rw [h2] at h1
  exact h1
def spl (cs : Array Value) (o : Nat) (vs : List Value) : Array Value := (cs.toList.take o ++ vs ++ cs.toList.drop (o + vs.length)).toArray
theorem spl_size {cs : Array Value} {o : Nat} {vs : List Value} (h : o + vs.length ≤ cs.size) : (spl cs o vs).size = cs.size := by
  unfold spl
  rw [List.size_toArray]
  simp only [List.length_append, List.length_take, List.length_drop, Array.length_toList]
  omega
theorem rep_st {cs : Array Value} {o : Nat} (r : Rp) (h : o + 3 ≤ cs.size) : o + 3 ≤ cs.size ∧ (Value.agg #[.int .i64 r.err, .bool r.found, .string r.val]).cells.size = 3 ∧ (∀ u ∈ (Value.agg #[.int .i64 r.err, .bool r.found, .string r.val]).cells.toList, u.oneCell' = true) ∧
    (cs.toList.take o ++ (Value.agg #[.int .i64 r.err, .bool r.found, .string r.val]).cells.toList ++ cs.toList.drop (o + 3)).toArray = spl cs o (rp3 r) := ⟨h, rfl, (rpl_new r).2.2, rfl⟩
theorem int_st {cs : Array Value} {o : Nat} (e : Int) (h : o + 1 ≤ cs.size) : o + 1 ≤ cs.size ∧ (Value.int .i64 e).cells.size = 1 ∧ (∀ u ∈ (Value.int .i64 e).cells.toList, u.oneCell' = true) ∧
    (cs.toList.take o ++ (Value.int .i64 e).cells.toList ++ cs.toList.drop (o + 1)).toArray = spl cs o [.int .i64 e] := ⟨h, rfl, by simp [Value.cells, Value.oneCell'], rfl⟩
theorem hrow_block (h : HRow w B g cap n m) : ∃ cs, w.heap[g]? = some (.cells cs 38 (0, 0)) ∧ n * 10 ≤ cs.size := by
  obtain ⟨cs, h1, _, _, h2⟩ := own_block h
  exact ⟨cs, h1, h2⟩
theorem hrow_spl (h : HRow w B g cap n m) {cs : Array Value} (hN : w.heap[g]? = some (.cells cs 38 (0, 0))) (hk : m[k]? = some c) {j : Nat} {vs : List Value} (hN' : w'.heap[g]? = some (.cells (spl cs (k * 10 + j) vs) 38 (0, 0)))
    (hj : j + vs.length ≤ 10) (hv : (callC c).take j ++ vs ++ (callC c).drop (j + vs.length) = callC c') : HRow w' B g cap n (m.set k c') := by
  have hlt := (List.getElem?_eq_some_iff.1 hk).1
  have hl := hrow_len h
  have h1 := own_splice h hN hN' (o := k * 10 + j) (vs := vs) (by omega) rfl
  have h2 := flat_splice callC_len (vs := vs) (x' := c') (j := j) hk hj hv
  unfold HRow calls
  rw [← h2]
  exact h1
theorem set_atM {k : Nat} (h : k < m.length) (c : Cl) : (m.set k c)[k]? = some c := by rw [List.getElem?_set, if_pos rfl, if_pos h]
theorem own_form {v : Value} {xs : List Value} {e : TypeId} {size : Nat} (h : w.ownsRow B e size v n xs) (hn : 0 < n) : ∃ g cap, v = .slice (some ⟨g, 0, none⟩) n cap ∧ B ≤ g := by
  obtain ⟨_, h | ⟨g, cap, cur, hv, hb, _⟩⟩ := h
  · omega
  · exact ⟨g, cap, hv, hb⟩
theorem hrow_slc (h : HRow w B g cap n m) : SlC w (some ⟨g, 0, none⟩) cap m := by
  have hl := hrow_len h
  subst hl
  obtain ⟨a, cp, hv, hs⟩ := SlC.of_owns h
  injection hv with h1 _ h2
  subst h1 h2
  exact hs
end
theorem u64_mod (x : Int) (n : Nat) (h0 : 0 < n) (hn : n ≤ 1000000) : (IntKind.u64.wrap x).tmod (IntKind.u64.wrap (n : Int)) = ((x % 18446744073709551616 % (n : Int)).toNat : Int) := by
  have h : ∀ y : Int, IntKind.u64.wrap y = y % 18446744073709551616 := fun y => by unfold IntKind.wrap; rfl
  rw [h, h, Int.emod_eq_of_lt (a := (n : Int)) (by omega) (by omega), Int.tmod_eq_emod_of_nonneg (by omega)]
  have := Int.emod_nonneg (x % 18446744073709551616) (show (n : Int) ≠ 0 by omega)
  omega
theorem u64_lt (x : Int) (n : Nat) (h0 : 0 < n) : (x % 18446744073709551616 % (n : Int)).toNat < n := by
  have := Int.emod_lt_of_pos (x % 18446744073709551616) (show (0 : Int) < n by omega)
  omega
theorem hist_at' (l : List Dn) {k : Nat} (h : k < l.length) : (hist l)[k]? = some (hAt l k) := hist_at l h
theorem pend_take (l : List Dn) : ∀ k, k ≤ l.length → pendP (histN l k) = pH l k := fun k _ => pend_hist l k
theorem pH_en (l : List Dn) (k : Nat) : pH l (k + 1) = if (hAt l k).en = 0 then pH l k + 1 else pH l k := by
  rw [← pend_hist, histN_succ, pendP_snoc, pend_hist]
  by_cases h : (hAt l k).en = 0
  · rw [if_pos h, if_pos (by rw [h]; rfl)]
  · rw [if_neg h, if_neg (by rw [beq_iff_eq]; exact h), Nat.add_zero]
end Go.Proofs.YtaojblejnpemkaaDoor
namespace Go.Proofs.YtaojblejnpemkaaDoor
theorem seq_pos {l : List Dn} {m : List Cl} (pos : Nat → Nat) (hl : m.length = l.length) (hlt : ∀ k, k < l.length → pos k < l.length) (hinj : ∀ i j, i < l.length → j < l.length → pos i = pos j → i = j) (hsur : ∀ j, j < l.length → ∃ k, k < l.length ∧ pos k = j)
    (hop : ∀ k, k < l.length → (clN m (pos k)).op = (dnN l k).op) (hst : ∀ k, k < l.length → (clN m (pos k)).st ≤ 600 * (k : Int) + 600)
    (hen : ∀ k, k < l.length → (clN m (pos k)).en = 0 ∨ (600 * (k : Int) + 600 < (clN m (pos k)).en ∧ (clN m (pos k)).rep = (doP (sH l k) (dnN l k).op).2)) :
    Seq1 m ((List.range l.length).map fun k => (pos k : Int)) (fun k => 600 * (k : Int) + 600) := by
  have hat : ∀ (k : Nat) (i : Int), ((List.range l.length).map fun k => (pos k : Int))[k]? = some i → i = pos k ∧ k < l.length := by
    intro k i h
    rw [List.getElem?_map] at h
    obtain ⟨j, hj, rfl⟩ := Option.map_eq_some_iff.1 h
    obtain ⟨h3, h4⟩ := List.getElem?_eq_some_iff.1 hj
    rw [List.length_range] at h3
    rw [List.getElem_range] at h4
    subst h4
    exact ⟨rfl, h3⟩
  have htake : ∀ k, k ≤ l.length → ((List.range l.length).map fun k => (pos k : Int)).take k = (List.range k).map fun k => (pos k : Int) := by
    intro k h
    rw [← List.map_take, List.take_range, Nat.min_eq_left h]
  have hsA : ∀ k, k ≤ l.length → stA m ((List.range k).map fun k => (pos k : Int)) = sH l k := by
    intro k
    induction k with
    | zero => intro _; rfl
    | succ k ih =>
      intro h
      rw [List.range_succ, List.map_append, List.map_singleton, stA_snoc, ih (by omega), clA_nat, hop k (by omega)]
      rfl
  refine ⟨fun i j h => by omega, fun i hi => ?_, ?_, fun i hi => ?_, fun k i hk => ?_, fun k i hk => ?_⟩
  · obtain ⟨k, hk, rfl⟩ := List.mem_map.1 hi
    have := hlt k (List.mem_range.1 hk)
    unfold inR
    rw [hl]
    simp; omega
  · rw [List.nodup_iff_pairwise_ne, List.pairwise_map]
    refine (List.nodup_iff_pairwise_ne.1 List.nodup_range).imp_of_mem fun {a b} ha hb h e => h ?_
    exact hinj _ _ (List.mem_range.1 ha) (List.mem_range.1 hb) (by omega)
  · rw [hl] at hi
    obtain ⟨k, hk, e⟩ := hsur i hi
    exact List.mem_map.2 ⟨k, List.mem_range.2 hk, by rw [e]⟩
  · obtain ⟨rfl, h⟩ := hat k i hk
    rw [clA_nat]; exact hst k h
  · obtain ⟨rfl, h⟩ := hat k i hk
    rw [clA_nat, htake k (by omega), hsA k (by omega), hop k h]
    rcases hen k h with h1 | ⟨h1, h2⟩
    · exact .inl h1
    · refine .inr ⟨h1, ?_⟩
      rw [h2]; exact rpEq_refl _
def longC (c : Cl) (more : Int) (lost : Bool) (p : Nat) : Cl :=
  { c with
    rep := if 0 < c.en ∧ lost = true ∧ p < 8 then nilRp else c.rep
    st := if more < c.st then c.st - more else c.st
    en := if 0 < c.en ∧ lost = true ∧ p < 8 then 0 else if 0 < c.en then c.en + more else c.en }
def longM (l : List Dn) (w : Nat) (more : Int) (lost : Bool) : List Cl := (hist l).set w (longC (hAt l w) more lost (pH l l.length))
def turnM (m : List Cl) (f : Nat) : List Cl := m.drop f ++ m.take f
section
variable {l : List Dn} {w : Nat} {more : Int} {lost : Bool}
theorem longM_len : (longM l w more lost).length = l.length := by unfold longM; rw [List.length_set, hist_len]
theorem longM_at {k : Nat} (hk : k < l.length) : clN (longM l w more lost) k = if w = k then longC (hAt l w) more lost (pH l l.length) else hAt l k := by
  unfold clN longM
  rw [List.getD_eq_getElem?_getD, List.getElem?_set, hist_len]
  split
  · rename_i h; subst h; rw [if_pos hk]; rfl
  · rw [hist_at l hk]; rfl
theorem hAt_en {k : Nat} : (hAt l k).en = 0 ∨ 600 * (k : Int) + 600 < (hAt l k).en := by
  unfold hAt
  simp only
  split
  · exact .inl rfl
  · exact .inr (by omega)
theorem hAt_rep {k : Nat} (h : 0 < (hAt l k).en) : (hAt l k).rep = (doP (sH l k) (dnN l k).op).2 := by
  unfold hAt at h ⊢
  simp only at h ⊢
  by_cases hl : lostH l k = true
  · rw [if_pos hl] at h; omega
  · rw [if_neg hl]
theorem longM_ok (hok : OkDn l) (hm : 0 ≤ more) {k : Nat} (hk : k < l.length) :
    (clN (longM l w more lost) k).op = (dnN l k).op ∧ (clN (longM l w more lost) k).st ≤ 600 * (k : Int) + 600 ∧
    ((clN (longM l w more lost) k).en = 0 ∨ (600 * (k : Int) + 600 < (clN (longM l w more lost) k).en ∧ (clN (longM l w more lost) k).rep = (doP (sH l k) (dnN l k).op).2)) ∧ mayC (clN (longM l w more lost) k) = true := by
  rw [longM_at hk]
  have h0 : (hAt l k).st ≤ 600 * (k : Int) + 600 := by unfold hAt; simp only; omega
  have hE := hAt_en (l := l) (k := k)
  have hM := may_hist hok hk
  split
  · rename_i h
    subst h
    refine ⟨rfl, ?_, ?_, ?_⟩
    · unfold longC; simp only; split <;> omega
    · unfold longC
      simp only
      split
      · exact .inl rfl
      · rename_i h1
        split
        · rename_i h2
          exact .inr ⟨by omega, hAt_rep h2⟩
        · exact .inl (by omega)
    · unfold mayC at hM ⊢
      unfold longC
      simp only [Bool.and_eq_true, Bool.or_eq_true, decide_eq_true_eq, beq_iff_eq] at hM ⊢
      obtain ⟨⟨⟨⟨h1, h2⟩, h3⟩, h4⟩, h5⟩ := hM
      refine ⟨⟨⟨⟨h1, h2⟩, h3⟩, ?_⟩, ?_⟩
      · split <;> omega
      · by_cases h6 : 0 < (hAt l w).en ∧ lost = true ∧ pH l l.length < 8
        · simp only [if_pos h6]
          exact .inl ⟨trivial, nil_rp⟩
        · simp only [if_neg h6]
          by_cases h7 : 0 < (hAt l w).en
          · simp only [if_pos h7]
            right
            split <;> omega
          · simp only [if_neg h7]
            rcases h5 with h5 | h5
            · exact .inl h5
            · omega
  · refine ⟨rfl, h0, ?_, hM⟩
    rcases hE with h1 | h1
    · exact .inl h1
    · exact .inr ⟨h1, hAt_rep (by omega)⟩
theorem longM_pend (hw : w < l.length) (hm : 0 ≤ more) : pendP (longM l w more lost) ≤ 8 := by
  have hp : pendP (hist l) = pH l l.length := pend_hist l l.length
  have h8 := pH_le l l.length
  unfold pendP at hp ⊢
  unfold longM
  rw [List.countP_set (by rw [hist_len]; exact hw)]
  have hg : (hist l)[w]'(by rw [hist_len]; exact hw) = hAt l w := by
    have := hist_at l hw
    rw [List.getElem?_eq_getElem (by rw [hist_len]; exact hw)] at this
    exact Option.some.inj this
  rw [hg, hp]
  have hE := hAt_en (l := l) (k := w)
  unfold longC
  simp only
  by_cases h1 : 0 < (hAt l w).en ∧ lost = true ∧ pH l l.length < 8
  · rw [if_pos h1]
    have : ((hAt l w).en == 0) = false := by rw [beq_eq_false_iff_ne]; omega
    rw [this]
    simp
    omega
  · rw [if_neg h1]
    by_cases h2 : 0 < (hAt l w).en
    · rw [if_pos h2]
      have : ((hAt l w).en + more == 0) = false := by rw [beq_eq_false_iff_ne]; omega
      rw [this]
      simp
      omega
    · rw [if_neg h2]
      have h3 : (hAt l w).en = 0 := by omega
      have : 0 < pH l l.length := by
        rw [← hp]
        exact List.countP_pos_iff.2 ⟨hAt l w, by rw [← hg]; exact List.getElem_mem _, by rw [h3]; rfl⟩
      rw [h3]
      simp
      omega
theorem mem_clN {m : List Cl} {c : Cl} (h : c ∈ m) : ∃ k, k < m.length ∧ c = clN m k := by
  obtain ⟨k, hk, rfl⟩ := List.getElem_of_mem h
  exact ⟨k, hk, by unfold clN; rw [List.getD_eq_getElem?_getD, List.getElem?_eq_getElem hk]; rfl⟩
theorem longM_chk (hok : OkDn l) (hw : w < l.length) (hm : 0 ≤ more) (h12 : l.length ≤ 12) : chk (longM l w more lost) = 0 := by
  refine chk_small (by rw [longM_len]; exact h12) (longM_pend hw hm) fun c hc => ?_
  obtain ⟨k, hk, rfl⟩ := mem_clN hc
  rw [longM_len] at hk
  exact (longM_ok hok hm hk).2.2.2
theorem longer_holds (hok : OkDn l) (hw : w < l.length) (hm : 0 ≤ more) (h12 : l.length ≤ 12) : ∃ r, holdsP (longM l w more lost) r = true :=
  ⟨_, (seq_own longM_len (fun _ hk => (longM_ok hok hm hk).1) (fun _ hk => (longM_ok hok hm hk).2.1) (fun _ hk => (longM_ok hok hm hk).2.2.1)).holds (longM_chk hok hw hm h12)⟩
theorem turnM_len {m : List Cl} {f : Nat} (hf : f ≤ m.length) : (turnM m f).length = m.length := by unfold turnM; rw [List.length_append, List.length_drop, List.length_take]; omega
theorem turnM_at {m : List Cl} {f k : Nat} (hf : f < m.length) (hk : k < m.length) : (turnM m f)[k]? = m[(f + k) % m.length]? := by
  unfold turnM
  by_cases h : k < m.length - f
  · rw [List.getElem?_append_left (by rw [List.length_drop]; omega), List.getElem?_drop, Nat.mod_eq_of_lt (by omega)]
  · rw [List.getElem?_append_right (by rw [List.length_drop]; omega), List.length_drop, List.getElem?_take, if_pos (by omega)]
    have : (f + k) % m.length = k - (m.length - f) := by
      rw [Nat.mod_eq_sub_mod (by omega), Nat.mod_eq_of_lt (by omega)]
      omega
    rw [this]
def posT (n f k : Nat) : Nat := if k < f then n - f + k else k - f
theorem turn_pos {m : List Cl} {f k : Nat} (hf : f < m.length) (hk : k < m.length) : clN (turnM m f) (posT m.length f k) = clN m k := by
  unfold clN
  have hp : posT m.length f k < m.length := by unfold posT; split <;> omega
  rw [List.getD_eq_getElem?_getD, List.getD_eq_getElem?_getD, turnM_at hf hp]
  have : (f + posT m.length f k) % m.length = k := by
    unfold posT
    split
    · rw [Nat.mod_eq_sub_mod (by omega), Nat.mod_eq_of_lt (by omega)]
      omega
    · rw [Nat.mod_eq_of_lt (by omega)]
      omega
  rw [this]
theorem turn_chk {m : List Cl} {f : Nat} (hf : f ≤ m.length) (h12 : m.length ≤ 12) (hp : pendP m ≤ 8) (hm : ∀ c ∈ m, mayC c = true) : chk (turnM m f) = 0 := by
  refine chk_small (by rw [turnM_len hf]; exact h12) ?_ fun c hc => ?_
  · have : pendP (turnM m f) = pendP m := by
      unfold pendP turnM
      rw [List.countP_append, Nat.add_comm, ← List.countP_append, List.take_append_drop]
    omega
  · unfold turnM at hc
    rcases List.mem_append.1 hc with h | h
    · exact hm c (List.mem_of_mem_drop h)
    · exact hm c (List.mem_of_mem_take h)
theorem turned_holds (hok : OkDn l) (hw : w < l.length) (hm : 0 ≤ more) (h12 : l.length ≤ 12) {f : Nat} (hf : f < l.length) : ∃ r, holdsP (turnM (longM l w more lost) f) r = true := by
  have hL : (longM l w more lost).length = l.length := longM_len
  have hat : ∀ k, k < l.length → clN (turnM (longM l w more lost) f) (posT l.length f k) = clN (longM l w more lost) k := by
    intro k hk
    have := turn_pos (m := longM l w more lost) (f := f) (k := k) (by omega) (by omega)
    rwa [hL] at this
  refine ⟨_, (seq_pos (posT l.length f) (by rw [turnM_len (by omega), hL]) ?_ ?_ ?_ (fun k hk => ?_) (fun k hk => ?_) (fun k hk => ?_)).holds (turn_chk (by omega) (by omega) (longM_pend hw hm) fun c hc => ?_)⟩
  · intro k hk; unfold posT; split <;> omega
  · intro i j hi hj h; unfold posT at h; split at h <;> split at h <;> omega
  · intro j hj
    by_cases h : j < l.length - f
    · exact ⟨j + f, by omega, by unfold posT; rw [if_neg (by omega)]; omega⟩
    · exact ⟨j - (l.length - f), by omega, by unfold posT; rw [if_pos (by omega)]; omega⟩
  · rw [hat k hk]; exact (longM_ok hok hm hk).1
  · rw [hat k hk]; exact (longM_ok hok hm hk).2.1
  · rw [hat k hk]; exact (longM_ok hok hm hk).2.2.1
  · obtain ⟨k, hk, rfl⟩ := mem_clN hc
    exact (longM_ok hok hm (by omega)).2.2.2
end
end Go.Proofs.YtaojblejnpemkaaDoor
namespace Go.Proofs.YtaojblejnpemkaaDoor
open Go.RowKit Go.Maps
theorem set_selfM {m : List Cl} {k : Nat} {c : Cl} (h : m[k]? = some c) : m.set k c = m := by
  refine List.ext_getElem? fun i => ?_
  rw [List.getElem?_set]
  split
  · rename_i e
    subst e
    rw [if_pos (List.getElem?_eq_some_iff.1 h).1, h]
  · rfl
theorem orders_ab {T : Lib.PrintTabs} {l : List Cl} {w : World} {a : Option Addr} {cap : Nat} (hT : Tabs T w) (hs : SlC w a cap l) (hl : l.length ≤ 12) (b : Bool) (hb : (∃ r, holdsP l r = true) ↔ b = true) :
    Calls Tryd.prog 18 #[.slice a l.length cap] w fun e w' => e = .returned (.bool b) ∧ Below w.heap.size w w' := by
  refine (orders_any hT hs (grow_fac l) (fac_room hl)).mono fun e w' h1 => ?_
  obtain ⟨⟨b', rfl, hf⟩, hb1⟩ := h1
  exact ⟨by rw [bool_iff hf hb], hb1⟩
theorem Aw.mono2 {T : Lib.PrintTabs} {w0 w w' : World} (h : Aw T w0 w) (hb : Below w.heap.size w w') : Aw T w0 w' := h.below hb
theorem u64_ne {n : Nat} (h0 : 0 < n) (hn : n ≤ 1000000) : ¬ IntKind.u64.wrap (n : Int) = 0 := by
  have h : IntKind.u64.wrap (n : Int) = (n : Int) % 18446744073709551616 := by unfold IntKind.wrap; rfl
  rw [h]
  omega
section
variable {T : Lib.PrintTabs}
set_option maxRecDepth 100000 in
set_option maxHeartbeats 4000000 in
theorem longer_law (a : Option Addr) (cap : Nat) (l : List Dn) (which more : Int) (lost : Bool) (fr : Int) (hb : ∀ y ∈ l, okB y) (w : World) (hs : SlD w a cap l) (hT : Tabs T w) :
    Calls Tryd.prog 5 #[.slice a l.length cap, .int .i64 which, .int .i64 more, .bool lost, .int .i64 fr] w fun e w' => e = .returned (.bool true) ∧ Below w.heap.size w w' := by
  have HB := Lib.hid hb
  clear hb
  go_enter Tryd.func5, Tryd.ntmps5
  refine wp_seq_k (fun K hK => ?_)
  have HK := Lib.hid hK
  clear hK
  go_wp2
  refine HK.out _ _ ?_
  clear HK
  refine wp_seq_k (fun K hK => ?_)
  have HK := Lib.hid hK
  clear hK
  go_wp2_with (go_at_call 14; refine (awake_any hT).mono ?_; rintro e w1 ⟨rfl, hA1⟩)
  refine HK.out _ _ ?_
  clear HK
  have hs1 := hs.below hA1.bel
  obtain ⟨gb, hg⟩ : ∃ gb, greatP l 12 = gb := ⟨_, rfl⟩
  have HG := Lib.hid hg
  by_cases hgo : gb = false ∧ 0 < l.length ∧ 0 ≤ more ∧ more ≤ 1048576
  case neg =>
    cases gb
    case true =>
      clear hg hgo
      go_wp2_with (go_at_call 15; refine (great_any a cap l 12 (by decide) w1 hs1).mono ?_; rintro e w2 ⟨rfl, hb2⟩; rw [HG.out])
      go_ret
      exact ⟨rfl, hA1.bel.trans (hb2.mono hA1.bel.size)⟩
    case false =>
      have hx : l.length = 0 ∨ (0 < l.length ∧ more < 0) ∨ (0 < l.length ∧ 0 ≤ more ∧ 1048576 < more) := by
        by_cases h1 : l.length = 0
        · exact .inl h1
        · by_cases h2 : more < 0
          · exact .inr (.inl ⟨by omega, h2⟩)
          · refine .inr (.inr ⟨by omega, by omega, ?_⟩)
            have : ¬ (0 < l.length ∧ 0 ≤ more ∧ more ≤ 1048576) := fun h => hgo ⟨rfl, h⟩
            omega
      clear hg hgo
      go_wp2_with (go_at_call 15; refine (great_any a cap l 12 (by decide) w1 hs1).mono ?_; rintro e w2 ⟨rfl, hb2⟩; rw [HG.out])
      all_goals
        first
        | (go_ret
           exact ⟨rfl, hA1.bel.trans (hb2.mono hA1.bel.size)⟩)
        | (exfalso; simp at *; omega)
  case pos =>
    obtain ⟨rfl, hl0, hm0, hm1⟩ := hgo
    obtain ⟨hl, hok⟩ := greatP_no hg HB.out
    have HOK := Lib.hid hok
    clear hg hok
    refine wp_seq_k (fun K hK => ?_)
    have HK := Lib.hid hK
    clear hK
    go_wp2_with (go_at_call 15; refine (great_any a cap l 12 (by decide) w1 hs1).mono ?_; rintro e w2 ⟨rfl, hb2⟩; rw [HG.out])
    refine HK.out _ _ ?_
    clear HK
    have hA2 := hA1.below hb2
    have hs2 := hs1.below hb2
    refine wp_seq_k (fun K hK => ?_)
    have HK := Lib.hid hK
    clear hK
    go_wp2_with (go_at_call 16; refine (history_any a cap l (by omega) HOK.out w2 hs2).mono ?_; rintro e w3 ⟨⟨v, rfl, hO⟩, hb3⟩)
    refine HK.out _ _ ?_
    clear HK
    have hA3 := hA2.below hb3
    obtain ⟨g, hcap, rfl, hgB⟩ := own_form hO hl0
    have hgw : w2.heap.size ≤ w3.heap.size := hb3.size
    have hH : HRow w3 w2.heap.size g hcap l.length (hist l) := hO
    clear hO hs hs1 hs2 hb2 hA1
    obtain ⟨wq, hwq⟩ : ∃ k : Nat, (which % 18446744073709551616 % (l.length : Int)).toNat = k := ⟨_, rfl⟩
    obtain ⟨fq, hfq⟩ : ∃ k : Nat, (fr % 18446744073709551616 % (l.length : Int)).toNat = k := ⟨_, rfl⟩
    have hwl : wq < l.length := by rw [← hwq]; exact u64_lt _ _ hl0
    have hfl : fq < l.length := by rw [← hfq]; exact u64_lt _ _ hl0
    have HW := Lib.hid hwq
    have HF := Lib.hid hfq
    clear hwq hfq
    refine wp_seq_k (fun K hK => ?_)
    have HK6 := Lib.hid hK
    clear hK
    go_wp2_with fail
    refine wp_region_held_drew (S := fun _ => True) (by kernel_rfl) trivial (fun _ => ?_)
    refine wpAnyH_take (i := 0) (oi := ⟨_, _, _, _, _, _⟩) (v := ?_) rfl (by kernel_rfl) (by kernel_rfl) (by kernel_rfl) (fun _ _ _ h => h) (Or.inl ⟨by rfl, ?_⟩) (by assumption) ?_
    rotate_left
    · intro wS hSw; go_simp; (try with_reducible rfl)
    (try simp only [Act.put]); (try simp only [List.setIfInBounds_toArray]); (try simp only [List.set_cons_succ]); (try simp only [List.set_cons_zero])
    refine wpAnyH_take (i := 1) (oi := ⟨_, _, _, _, _, _⟩) (v := ?_) rfl (by kernel_rfl) (by kernel_rfl) (by kernel_rfl) (fun _ _ _ h => h) (Or.inl ⟨by rfl, ?_⟩) (by assumption) ?_
    rotate_left
    · intro wS hSw; go_simp; (try with_reducible rfl)
    (try simp only [Act.put]); (try simp only [List.setIfInBounds_toArray]); (try simp only [List.set_cons_succ]); (try simp only [List.set_cons_zero])
    refine wpAnyH_take (i := 2) (oi := ⟨_, _, _, _, _, _⟩) (v := ?_) rfl (by kernel_rfl) (by kernel_rfl) (by kernel_rfl) (fun _ _ _ h => h) (Or.inl ⟨by rfl, ?_⟩) (by assumption) ?_
    rotate_left
    · intro wS hSw; go_simp; (try with_reducible rfl)
    (try simp only [Act.put]); (try simp only [List.setIfInBounds_toArray]); (try simp only [List.set_cons_succ]); (try simp only [List.set_cons_zero])
    refine wpAnyH_take (i := 3) (oi := ⟨_, _, _, _, _, _⟩) (v := ?_) rfl (by kernel_rfl) (by kernel_rfl) (by kernel_rfl) (fun _ _ _ h => h) (Or.inl ⟨by rfl, ?_⟩) (by assumption) ?_
    rotate_left
    · intro wS hSw; go_simp; (try with_reducible rfl)
    (try simp only [Act.put]); (try simp only [List.setIfInBounds_toArray]); (try simp only [List.set_cons_succ]); (try simp only [List.set_cons_zero])
    refine wpAnyH_take (i := 4) (oi := ⟨_, _, _, _, _, _⟩) (v := ?_) rfl (by kernel_rfl) (by kernel_rfl) (by kernel_rfl) (fun _ _ _ h => h) (Or.inl ⟨by rfl, ?_⟩) (by assumption) ?_
    rotate_left
    · intro wS hSw; go_simp; (try with_reducible rfl)
    (try simp only [Act.put]); (try simp only [List.setIfInBounds_toArray]); (try simp only [List.set_cons_succ]); (try simp only [List.set_cons_zero])
    refine wpAnyH_take (i := 5) (oi := ⟨_, _, _, _, _, _⟩) (v := .int .u64 (wq : Int)) rfl (by kernel_rfl) (by kernel_rfl) (by kernel_rfl) (fun _ _ _ h => h) (Or.inl ⟨by rfl, fun wS hSw => ?_⟩) (by assumption) ?_
    · go_simp; rw [if_neg (u64_ne hl0 (by omega)), u64_mod _ _ hl0 (by omega), HW.out]
    (try simp only [Act.put]); (try simp only [List.setIfInBounds_toArray]); (try simp only [List.set_cons_succ]); (try simp only [List.set_cons_zero])
    refine wpAnyH_take (i := 6) (oi := ⟨_, _, _, _, _, _⟩) (v := .int .i64 (wq : Int)) rfl (by kernel_rfl) (by kernel_rfl) (by kernel_rfl) (fun _ _ _ h => h) (Or.inl ⟨by rfl, fun wS hSw => ?_⟩) (by assumption) ?_
    · go_simp; exact IntWalk.i64_in _ (by omega)
    (try simp only [Act.put]); (try simp only [List.setIfInBounds_toArray]); (try simp only [List.set_cons_succ]); (try simp only [List.set_cons_zero])
    refine wpAnyH_take (i := 7) (oi := ⟨_, _, _, _, _, _⟩) (v := ?_) rfl (by kernel_rfl) (by kernel_rfl) (by kernel_rfl) (fun _ _ _ h => h) (Or.inl ⟨by rfl, ?_⟩) (by assumption) ?_
    rotate_left
    · intro wS hSw; go_simp; (try with_reducible rfl)
    (try simp only [Act.put]); (try simp only [List.setIfInBounds_toArray]); (try simp only [List.set_cons_succ]); (try simp only [List.set_cons_zero])
    refine wpAnyH_take (i := 8) (oi := ⟨_, _, _, _, _, _⟩) (v := ?_) rfl (by kernel_rfl) (by kernel_rfl) (by kernel_rfl) (fun _ _ _ h => h) (Or.inl ⟨by rfl, ?_⟩) (by assumption) ?_
    rotate_left
    · intro wS hSw; go_simp; (try with_reducible rfl)
    (try simp only [Act.put]); (try simp only [List.setIfInBounds_toArray]); (try simp only [List.set_cons_succ]); (try simp only [List.set_cons_zero])
    refine wpAnyH_take (i := 9) (oi := ⟨_, _, _, _, _, _⟩) (v := ?_) rfl (by kernel_rfl) (by kernel_rfl) (by kernel_rfl) (fun _ _ _ h => h) (Or.inl ⟨by rfl, ?_⟩) (by assumption) ?_
    rotate_left
    · intro wS hSw; go_simp; (try with_reducible rfl)
    (try simp only [Act.put]); (try simp only [List.setIfInBounds_toArray]); (try simp only [List.set_cons_succ]); (try simp only [List.set_cons_zero])
    refine wpAnyH_take (i := 10) (oi := ⟨_, _, _, _, _, _⟩) (v := ?_) rfl (by kernel_rfl) (by kernel_rfl) (by kernel_rfl) (fun _ _ _ h => h) (Or.inl ⟨by rfl, ?_⟩) (by assumption) ?_
    rotate_left
    · intro wS hSw; go_simp; (try with_reducible rfl)
    (try simp only [Act.put]); (try simp only [List.setIfInBounds_toArray]); (try simp only [List.set_cons_succ]); (try simp only [List.set_cons_zero])
    refine wpAnyH_take (i := 11) (oi := ⟨_, _, _, _, _, _⟩) (v := ?_) rfl (by kernel_rfl) (by kernel_rfl) (by kernel_rfl) (fun _ _ _ h => h) (Or.inl ⟨by rfl, ?_⟩) (by assumption) ?_
    rotate_left
    · intro wS hSw; go_simp; (try with_reducible rfl)
    (try simp only [Act.put]); (try simp only [List.setIfInBounds_toArray]); (try simp only [List.set_cons_succ]); (try simp only [List.set_cons_zero])
    refine wpAnyH_take (i := 12) (oi := ⟨_, _, _, _, _, _⟩) (v := .int .u64 (fq : Int)) rfl (by kernel_rfl) (by kernel_rfl) (by kernel_rfl) (fun _ _ _ h => h) (Or.inl ⟨by rfl, fun wS hSw => ?_⟩) (by assumption) ?_
    · go_simp; rw [if_neg (u64_ne hl0 (by omega)), u64_mod _ _ hl0 (by omega), HF.out]
    (try simp only [Act.put]); (try simp only [List.setIfInBounds_toArray]); (try simp only [List.set_cons_succ]); (try simp only [List.set_cons_zero])
    refine wpAnyH_take (i := 13) (oi := ⟨_, _, _, _, _, _⟩) (v := .int .i64 (fq : Int)) rfl (by kernel_rfl) (by kernel_rfl) (by kernel_rfl) (fun _ _ _ h => h) (Or.inl ⟨by rfl, fun wS hSw => ?_⟩) (by assumption) ?_
    · go_simp; exact IntWalk.i64_in _ (by omega)
    (try simp only [Act.put]); (try simp only [List.setIfInBounds_toArray]); (try simp only [List.set_cons_succ]); (try simp only [List.set_cons_zero])
    refine wpAnyH_take (i := 14) (oi := ⟨_, _, _, _, _, _⟩) (v := ?_) rfl (by kernel_rfl) (by kernel_rfl) (by kernel_rfl) (fun _ _ _ h => h) (Or.inl ⟨by rfl, ?_⟩) (by assumption) ?_
    rotate_left
    · intro wS hSw; go_simp; (try with_reducible rfl)
    (try simp only [Act.put]); (try simp only [List.setIfInBounds_toArray]); (try simp only [List.set_cons_succ]); (try simp only [List.set_cons_zero])
    refine wpAnyH_take (i := 15) (oi := ⟨_, _, _, _, _, _⟩) (v := ?_) rfl (by kernel_rfl) (by kernel_rfl) (by kernel_rfl) (fun _ _ _ h => h) (Or.inl ⟨by rfl, ?_⟩) (by assumption) ?_
    rotate_left
    · intro wS hSw; go_simp; (try with_reducible rfl)
    (try simp only [Act.put]); (try simp only [List.setIfInBounds_toArray]); (try simp only [List.set_cons_succ]); (try simp only [List.set_cons_zero])
    refine wpAnyH_done (by kernel_rfl) ?_ _
    go_wp2
    refine HK6.out _ _ ?_
    clear HK6
    have hA4 := hA2
    have hH4 : HRow w3.drew w2.heap.size g hcap l.length (hist l) := hH
    have hgw4 : w2.heap.size ≤ w3.drew.heap.size := hgw
    have hb4 : Below w2.heap.size w2 w3.drew := hb3.drew
    clear hH hA3 hA4 hgw HW HF hb3
    generalize w3.drew = w4 at *
    refine wp_seq_k (fun K hK => ?_)
    have HK := Lib.hid hK
    clear hK
    go_wp2
    refine HK.out _ _ ?_
    clear HK
    have hnil : Hid (hist l = histN l l.length) := Lib.hid rfl
    refine wp_seq_k (fun K hK => ?_)
    go_cut [12] (fun p wr => p = .int .i64 (pH l l.length) ∧ wr = w4)
    case first =>
      go_wp2
      go_loopw [12, 13] (fun p i wr => ∃ k : Nat, k ≤ l.length ∧ i = .int .i64 k ∧ p = .int .i64 (pH l k) ∧ wr = w4) (fun _ i _ => l.length - (intOf i).toNat)
      case atStart => exact ⟨0, by omega, rfl, rfl, rfl⟩
      case round =>
        obtain ⟨k, hk, rfl, rfl, rfl⟩ := hrel
        by_cases hlt : k < l.length
        · have c9 := hrow_cell hH4 (hist_at' l hlt) 9 (.int .i64 (hAt l k).en) rfl
          have hp8 := pH_le l k
          have HP := Lib.hid (pH_en l k)
          generalize (hAt l k).en = en at *
          by_cases he : en = 0
          · go_wp2
            go_roundw
            case rel => exact ⟨k + 1, by omega, by go_num, by rw [HP.out, if_pos he] <;> rfl, trivial⟩
            case measure => simp [intOf]; omega
          · go_wp2
            go_roundw
            case rel => exact ⟨k + 1, by omega, by go_num, by rw [HP.out, if_neg he], trivial⟩
            case measure => simp [intOf]; omega
        · obtain rfl : k = l.length := by omega
          go_wp2
          go_meet
          exact ⟨rfl, rfl⟩
    obtain ⟨rfl, rfl⟩ := hcut
    refine hK _ _ ?_
    clear hK
    refine wp_seq_k (fun K hK => ?_)
    have HK := Lib.hid hK
    clear hK
    go_wp2
    refine HK.out _ _ ?_
    clear HK
    obtain ⟨c, hc⟩ : ∃ c, hAt l wq = c := ⟨_, rfl⟩
    obtain ⟨p, hp⟩ : ∃ p, pH l l.length = p := ⟨_, rfl⟩
    have hk := hist_at' l hwl
    rw [hc] at hk
    rw [hp]
    have HLG := Lib.hid (show longM l wq more lost = (hist l).set wq (longC c more lost p) by unfold longM; rw [hc, hp])
    have HCE := Lib.hid (show 0 ≤ c.en ∧ c.en ≤ 9223372036854775807 - 1048576 ∧ 1 ≤ c.st ∧ c.st ≤ 1000000 by
      rw [← hc]
      have h1 := okdn_at HOK.out hwl
      unfold hAt
      simp only
      split <;> omega)
    have HHL := Lib.hid (hist_len l)
    clear hc hp
    refine wp_seq_k (fun K hK => ?_)
    go_cut [] (fun wr => HRow wr w2.heap.size g hcap l.length ((hist l).set wq { longC c more lost p with st := c.st }) ∧ Below w2.heap.size w2 wr)
    case first =>
      obtain ⟨cs, hN, hcs⟩ := hrow_block hH4
      have hz1 : wq * 10 + 9 + 1 ≤ cs.size := by omega
      have hz2 : wq * 10 + 5 + 3 ≤ cs.size := by omega
      have c9 := hrow_cell hH4 hk 9 (.int .i64 c.en) rfl
      by_cases he : 0 < c.en
      case neg =>
        have hcc : { longC c more lost p with st := c.st } = c := by
          unfold longC
          simp only [he, false_and, if_false]
        have HCC := Lib.hid hcc
        clear hcc
        go_wp2
        go_meet
        refine ⟨?_, hb4⟩
        rw [HCC.out, set_selfM hk]
        exact hH4
      case pos =>
        have hee := HCE.out
        obtain ⟨he1, he2, _, _⟩ := hee
        by_cases ha : lost = true ∧ p < 8
        case pos =>
          have hcc : { longC c more lost p with st := c.st } = ({ c with en := 0, rep := nilRp } : Cl) := by
            unfold longC
            simp only [if_pos (show 0 < c.en ∧ lost = true ∧ p < 8 from ⟨he, ha⟩)]
          have HCC := Lib.hid hcc
          clear hcc
          obtain ⟨rfl, hp8⟩ := ha
          go_wp2_with (first
            | ((first | (with_reducible refine wpList_stB 3 _ _ ?_) | (with_reducible refine wp_stB 3 _ _ ?_)); refine ⟨_, _, _, ⟨_, _, _, Tryd.sizeOf3, rfl, ‹_›, int_st 0 hz1⟩, ?_⟩; intro w5 N5 g5; have hz6 : wq * 10 + 5 + 3 ≤ (spl cs (wq * 10 + 9) [.int .i64 0]).size := (spl_size (cs := cs) (vs := [.int .i64 0]) hz1).symm ▸ hz2; have H5 := hrow_spl hH4 hN hk (c' := { c with en := 0 }) N5 (Nat.le_refl 10) rfl; clear hN c9 hz1 hz2)
            | ((with_reducible refine wpList_stB 36 _ _ ?_); refine ⟨_, _, _, ⟨_, _, _, Tryd.sizeOf36, rfl, N5, rep_st nilRp hz6⟩, ?_⟩; intro w6 N6 g6))
          go_meet
          have H6 := hrow_spl H5 N5 (set_atM (by rw [hist_len]; exact hwl) _) (c' := { c with en := 0, rep := nilRp }) N6 (by decide) rfl
          rw [List.set_set] at H6
          refine ⟨?_, bl_st (bl_st hb4 g5 hgw4 hgB) g6 (Nat.le_trans hgw4 g5.size) hgB⟩
          rw [HCC.out]
          exact H6
        case neg =>
          have hcc : { longC c more lost p with st := c.st } = ({ c with en := c.en + more } : Cl) := by
            unfold longC
            simp only [if_neg (show ¬ (0 < c.en ∧ lost = true ∧ p < 8) from fun h => ha h.2), if_pos he]
          have HCC := Lib.hid hcc
          clear hcc
          have hx : lost = false ∨ (lost = true ∧ ¬ p < 8) := by
            cases lost
            · exact .inl rfl
            · exact .inr ⟨rfl, fun h => ha ⟨rfl, h⟩⟩
          clear ha
          rcases hx with rfl | ⟨rfl, hp8⟩
          all_goals
            go_wp2_with ((first | (with_reducible refine wpList_stB 3 _ _ ?_) | (with_reducible refine wp_stB 3 _ _ ?_)); refine ⟨_, _, _, ⟨_, _, _, Tryd.sizeOf3, rfl, ‹_›, int_st (c.en + more) hz1⟩, ?_⟩; intro w5 N5 g5)
            go_meet
            have H5 := hrow_spl hH4 hN hk (c' := { c with en := c.en + more }) N5 (Nat.le_refl 10) rfl
            refine ⟨?_, bl_st hb4 g5 hgw4 hgB⟩
            rw [HCC.out]
            exact H5
    obtain ⟨hH5, hb5⟩ := hcut
    refine hK _ _ ?_
    clear hK hH4 hb4 hk
    obtain ⟨d, hd⟩ : ∃ d, longC c more lost p = d := ⟨_, rfl⟩
    have hds : d.st = if more < c.st then c.st - more else c.st := by rw [← hd]; rfl
    rw [hd] at hH5
    have HLG2 := Lib.hid (HLG.out.trans (by rw [hd] : (hist l).set wq (longC c more lost p) = (hist l).set wq d))
    have HDS := Lib.hid hds
    clear hd hds HLG
    refine wp_seq_k (fun K hK => ?_)
    go_cut [] (fun wr => HRow wr w2.heap.size g hcap l.length (longM l wq more lost) ∧ Below w2.heap.size w2 wr)
    case first =>
      have hk := set_atM (m := hist l) (by rw [hist_len]; exact hwl) { d with st := c.st }
      obtain ⟨cs, hN, hcs⟩ := hrow_block hH5
      have hz1 : wq * 10 + 8 + 1 ≤ cs.size := by omega
      have c8 := hrow_cell hH5 hk 8 (.int .i64 c.st) rfl
      have hee := HCE.out
      obtain ⟨_, _, he3, he4⟩ := hee
      by_cases hm : more < c.st
      case neg =>
        go_wp2
        go_meet
        refine ⟨?_, hb5⟩
        rw [HLG2.out]
        have : ({ d with st := c.st } : Cl) = d := by have := HDS.out; rw [if_neg (by omega)] at this; cases d; simp only at this; rw [this]
        rw [← this]
        exact hH5
      case pos =>
        go_wp2_with ((first | (with_reducible refine wpList_stB 3 _ _ ?_) | (with_reducible refine wp_stB 3 _ _ ?_)); refine ⟨_, _, _, ⟨_, _, _, Tryd.sizeOf3, rfl, ‹_›, int_st (c.st - more) hz1⟩, ?_⟩; intro w6 N6 g6)
        go_meet
        have H6 := hrow_spl hH5 hN hk (c' := { d with st := c.st - more }) N6 (by show 8 + 1 ≤ 10; decide) rfl
        rw [List.set_set] at H6
        refine ⟨?_, bl_st hb5 g6 hb5.size hgB⟩
        rw [HLG2.out]
        have : ({ d with st := c.st - more } : Cl) = d := by have := HDS.out; rw [if_pos hm] at this; cases d; simp only at this; rw [this]
        rw [← this]
        exact H6
    obtain ⟨hH6, hb6⟩ := hcut
    refine hK _ _ ?_
    clear hK hH5 hb5 HCE HDS HLG2
    obtain ⟨m, hm⟩ : ∃ m, longM l wq more lost = m := ⟨_, rfl⟩
    have hml : m.length = l.length := by rw [← hm]; exact longM_len
    rw [hm] at hH6
    have HM := Lib.hid hm
    have HML := Lib.hid hml
    have HTL := Lib.hid ((turnM_len (m := m) (f := fq) (by omega)).trans hml)
    have hgc : g < wc.heap.size := by
      obtain ⟨cs, hN, _⟩ := hrow_block hH6
      exact lt_blk hN
    clear hm hml
    refine wp_seq_k (fun K hK => ?_)
    have HK := Lib.hid hK
    clear hK
    go_wp2
    refine HK.out _ _ ?_
    clear HK
    refine wp_seq_k (fun K hK => ?_)
    go_cut [15] (fun o wr => ∃ q cp, o = .slice q (turnM m fq).length cp ∧ SlC wr q cp (turnM m fq) ∧ Below wc.heap.size wc wr)
    case first =>
      go_wp2
      go_loopw [15, 16] (fun o i wr => ∃ k : Nat, k ≤ l.length ∧ i = .int .i64 k ∧ Below wc.heap.size wc wr ∧ wr.ownsRow wc.heap.size 38 10 o k (calls ((turnM m fq).take k))) (fun _ i _ => l.length - (intOf i).toNat)
      case atStart => exact ⟨0, by omega, rfl, Below.refl _ _, World.ownsRow_nil _ _ _ _⟩
      case round =>
        obtain ⟨k, hk, rfl, hbr, hO⟩ := hrel
        by_cases hlt : k < l.length
        · obtain ⟨j, hj⟩ : ∃ j, (fq + k) % l.length = j := ⟨_, rfl⟩
          have hjl : j < l.length := by rw [← hj]; exact Nat.mod_lt _ hl0
          have hmj : m[j]? = some (clN m j) := by
            unfold clN
            rw [List.getD_eq_getElem?_getD, List.getElem?_eq_getElem (by rw [HML.out]; exact hjl)]
            rfl
          have htj : (turnM m fq)[k]? = some (clN m j) := by
            rw [turnM_at (by rw [HML.out]; exact hfl) (by rw [HML.out]; exact hlt), HML.out, hj]
            exact hmj
          have htm : ((fq : Int) + (k : Int)).tmod (l.length : Int) = (j : Int) := by
            rw [Int.tmod_eq_emod_of_nonneg (by omega), ← hj]
            exact (Int.natCast_emod (fq + k) l.length).symm
          obtain ⟨c, hc⟩ : ∃ c, clN m j = c := ⟨_, rfl⟩
          rw [hc] at hmj htj
          have HTJ := Lib.hid htj
          clear hj htj hc
          have k0 := (hbr.cell hgc).trans (hrow_cell0 hH6 hmj (.int .i64 c.cli) rfl)
          have k1 := (hbr.cell hgc).trans (hrow_cell hH6 hmj 1 (.int .u8 c.op.kind) rfl)
          have k2 := (hbr.cell hgc).trans (hrow_cell hH6 hmj 2 (.string c.op.key) rfl)
          have k3 := (hbr.cell hgc).trans (hrow_cell hH6 hmj 3 (.string c.op.old) rfl)
          have k4 := (hbr.cell hgc).trans (hrow_cell hH6 hmj 4 (.string c.op.val) rfl)
          have k5 := (hbr.cell hgc).trans (hrow_cell hH6 hmj 5 (.int .i64 c.rep.err) rfl)
          have k6 := (hbr.cell hgc).trans (hrow_cell hH6 hmj 6 (.bool c.rep.found) rfl)
          have k7 := (hbr.cell hgc).trans (hrow_cell hH6 hmj 7 (.string c.rep.val) rfl)
          have k8 := (hbr.cell hgc).trans (hrow_cell hH6 hmj 8 (.int .i64 c.st) rfl)
          have k9 := (hbr.cell hgc).trans (hrow_cell hH6 hmj 9 (.int .i64 c.en) rfl)
          go_wp2_with (at_builtin; refine wpList_append1 rfl _ _ 22 38 elCallL rfl wc.heap.size _ k _ rfl hO #[.int .i64 c.cli, .int .u8 c.op.kind, .string c.op.key, .string c.op.old, .string c.op.val, .int .i64 c.rep.err, .bool c.rep.found, .string c.rep.val, .int .i64 c.st, .int .i64 c.en] rfl (clv_new c).2.2 38 rfl (by omega) (by decide) hbr.size ?_; intro v' w' hO' hb' _)
          go_roundw
          case rel => exact ⟨k + 1, by omega, by go_num, hbr.trans hb', by rw [take_snoc' HTJ.out]; simp only [calls, List.flatMap_append, List.flatMap_cons, List.flatMap_nil, List.append_nil]; exact hO'⟩
          case measure => simp [intOf]; omega
        · obtain rfl : k = l.length := by omega
          go_wp2
          go_meet
          rw [List.take_of_length_le (by rw [HTL.out]; exact Nat.le_refl _)] at hO
          obtain ⟨q, cp, e, hq⟩ := SlC.of_owns (l := turnM m fq) (by rw [HTL.out]; exact hO)
          exact ⟨q, cp, e, hq, hbr⟩
    obtain ⟨q, cp, rfl, hq, hbq⟩ := hcut
    refine hK _ _ ?_
    clear hK
    have hy1 := longer_holds (l := l) (w := wq) (more := more) (lost := lost) HOK.out hwl hm0 hl
    have hy2 := turned_holds (l := l) (w := wq) (more := more) (lost := lost) HOK.out hwl hm0 hl hfl
    rw [HM.out] at hy1 hy2
    have hA7 : Aw T w _ := (hA2.mono2 hb6).below hbq
    have hs7 := (hrow_slc hH6).below hbq
    have o1 := orders_ab hA7.tabs hs7 (by have := HML.out; omega) true (yes hy1)
    rw [HML.out] at o1
    clear hy1 hH6 hs7
    have hA7b := Lib.hid hA7.bel
    have hT7 := hA7.tabs
    clear hA7
    go_wp2_with fail
    go_at_call 18
    refine o1.mono ?_
    rintro e w8 ⟨rfl, hb8⟩
    go_wp2_with fail
    go_at_call 18
    refine (orders_ab (hT7.below hb8) (hq.below hb8) (by have := HTL.out; omega) true (yes hy2)).mono ?_
    rintro e w9 ⟨rfl, hb9⟩
    go_wp2
    go_ret
    exact ⟨rfl, hA7b.out.trans ((bl_tr hb8 hb9).mono hA7b.out.size)⟩
end
end Go.Proofs.YtaojblejnpemkaaDoor
namespace Go.Proofs.YtaojblejnpemkaaDoor
open Go.ChangeShapes Go.WideShapes Go.ChangeAt Go.RowKit
variable {H : Type} {enc : TypeId × Value → H} {P : Program}
theorem open_row_ints {W : World} {base : Nat} {sp : Nat → Bool} {hd : Bool} {b0 : Nat} {t e : TypeId} {k : IntKind} {v : Value} {d : DataW H} {p : List MemPlace}
    (ht : P.underlying t = some (.slice e)) (he : P.underlying e = some (.int k)) (hc : P.cellsOf e = 1) (hv : Value.okWide P W .any base t v) (h : DataW.Trod enc P W b0 sp hd t v d p) :
    ∃ (a : Option Addr) (l : List Int) (cap : Nat), v = .slice a l.length cap ∧ Row W a (l.map (Value.int k)) ∧ l.length ≤ cap ∧ cap ≤ maxLen ∧ ∀ n ∈ l, (Lit.int k n).wf = true := by
  obtain ⟨a0, len, cap, rfl⟩ := okWide_slice ht hv
  obtain ⟨fuel, hf⟩ := h
  rcases open_ints ht he hc hf with ⟨hcs, hx⟩ | ⟨a, len', cap', zs, hcs, _, hl, hm, hz, hx, hcell, hwz⟩
  · simp [Value.cells] at hcs
    obtain ⟨rfl, rfl, rfl⟩ := hcs
    exact ⟨none, [], 0, rfl, .inl rfl, Nat.le_refl _, by simp, by simp⟩
  · simp [Value.cells] at hcs
    obtain ⟨rfl, rfl, rfl⟩ := hcs
    have hlen : len ≤ zs.length := by rw [hz]; split <;> omega
    refine ⟨some a, zs.take len, cap, by simp; omega, ?_, by simp; omega, hm, fun n hn => hwz n (List.mem_of_mem_take hn)⟩
    by_cases h0 : len = 0
    · left; simp [h0]
    · right
      obtain ⟨b, off, rfl, hc'⟩ := ints_at hcell (by omega)
      refine ⟨b, off, rfl, fun i u hu => ?_⟩
      have hi := (List.getElem?_eq_some_iff.1 hu).1
      simp only [List.length_map, List.length_take] at hi
      rw [hc' i (by omega)]
      simp only [List.getElem?_map, List.getElem?_take_of_lt (show i < len by omega), Option.map_eq_some_iff] at hu
      obtain ⟨z, hz2, rfl⟩ := hu
      rw [List.getD_eq_getElem?_getD, hz2]
      rfl
end Go.Proofs.YtaojblejnpemkaaDoor
namespace Go.Proofs.YtaojblejnpemkaaDoor
open Go.ChangeShapes Go.WideShapes Go.ChangeAt Go.RowKit
section
variable {H : Type} {enc : TypeId × Value → H} {P : Program} {w : World} {base : Nat} {spare : Nat → Bool} {held : Bool}
theorem trodAll_4 {t0 t1 t2 t3 : TypeId} {args : Array Value} {ds : List (DataW H)} {ps : List MemPlace} (h : DataW.TrodAll enc P w base spare held [t0, t1, t2, t3] args.toList ds ps) :
    ∃ v0 v1 v2 v3 d0 d1 d2 d3 p0 p1 p2 p3, args = #[v0, v1, v2, v3] ∧ ds = [d0, d1, d2, d3] ∧ ps = p0 ++ p1 ++ p2 ++ p3 ∧ DataW.Trod enc P w base spare held t0 v0 d0 p0 ∧ DataW.Trod enc P w base spare held t1 v1 d1 p1 ∧ DataW.Trod enc P w base spare held t2 v2 d2 p2 ∧ DataW.Trod enc P w base spare held t3 v3 d3 p3 := by
  obtain ⟨v0, vs0, d0, e0, p0, q0, hargs, rfl, rfl, h0, r0⟩ := trodAll_cons h
  obtain ⟨v1, vs1, d1, e1, p1, q1, rfl, rfl, rfl, h1, r1⟩ := trodAll_cons r0
  obtain ⟨v2, vs2, d2, e2, p2, q2, rfl, rfl, rfl, h2, r2⟩ := trodAll_cons r1
  obtain ⟨v3, vs3, d3, e3, p3, q3, rfl, rfl, rfl, h3, r3⟩ := trodAll_cons r2
  obtain ⟨rfl, rfl, rfl⟩ := trodAll_nil r3
  exact ⟨v0, v1, v2, v3, d0, d1, d2, d3, p0, p1, p2, p3, by cases args; simp_all, rfl, by simp, h0, h1, h2, h3⟩
theorem trodAll_5 {t0 t1 t2 t3 t4 : TypeId} {args : Array Value} {ds : List (DataW H)} {ps : List MemPlace} (h : DataW.TrodAll enc P w base spare held [t0, t1, t2, t3, t4] args.toList ds ps) :
    ∃ v0 v1 v2 v3 v4 d0 d1 d2 d3 d4 p0 p1 p2 p3 p4, args = #[v0, v1, v2, v3, v4] ∧ ds = [d0, d1, d2, d3, d4] ∧ ps = p0 ++ p1 ++ p2 ++ p3 ++ p4 ∧ DataW.Trod enc P w base spare held t0 v0 d0 p0 ∧ DataW.Trod enc P w base spare held t1 v1 d1 p1 ∧ DataW.Trod enc P w base spare held t2 v2 d2 p2 ∧ DataW.Trod enc P w base spare held t3 v3 d3 p3 ∧ DataW.Trod enc P w base spare held t4 v4 d4 p4 := by
  obtain ⟨v0, vs0, d0, e0, p0, q0, hargs, rfl, rfl, h0, r0⟩ := trodAll_cons h
  obtain ⟨v1, vs1, d1, e1, p1, q1, rfl, rfl, rfl, h1, r1⟩ := trodAll_cons r0
  obtain ⟨v2, vs2, d2, e2, p2, q2, rfl, rfl, rfl, h2, r2⟩ := trodAll_cons r1
  obtain ⟨v3, vs3, d3, e3, p3, q3, rfl, rfl, rfl, h3, r3⟩ := trodAll_cons r2
  obtain ⟨v4, vs4, d4, e4, p4, q4, rfl, rfl, rfl, h4, r4⟩ := trodAll_cons r3
  obtain ⟨rfl, rfl, rfl⟩ := trodAll_nil r4
  exact ⟨v0, v1, v2, v3, v4, d0, d1, d2, d3, d4, p0, p1, p2, p3, p4, by cases args; simp_all, rfl, by simp, h0, h1, h2, h3, h4⟩
theorem trodAll_6 {t0 t1 t2 t3 t4 t5 : TypeId} {args : Array Value} {ds : List (DataW H)} {ps : List MemPlace} (h : DataW.TrodAll enc P w base spare held [t0, t1, t2, t3, t4, t5] args.toList ds ps) :
    ∃ v0 v1 v2 v3 v4 v5 d0 d1 d2 d3 d4 d5 p0 p1 p2 p3 p4 p5, args = #[v0, v1, v2, v3, v4, v5] ∧ ds = [d0, d1, d2, d3, d4, d5] ∧ ps = p0 ++ p1 ++ p2 ++ p3 ++ p4 ++ p5 ∧ DataW.Trod enc P w base spare held t0 v0 d0 p0 ∧ DataW.Trod enc P w base spare held t1 v1 d1 p1 ∧ DataW.Trod enc P w base spare held t2 v2 d2 p2 ∧ DataW.Trod enc P w base spare held t3 v3 d3 p3 ∧ DataW.Trod enc P w base spare held t4 v4 d4 p4 ∧ DataW.Trod enc P w base spare held t5 v5 d5 p5 := by
  obtain ⟨v0, vs0, d0, e0, p0, q0, hargs, rfl, rfl, h0, r0⟩ := trodAll_cons h
  obtain ⟨v1, vs1, d1, e1, p1, q1, rfl, rfl, rfl, h1, r1⟩ := trodAll_cons r0
  obtain ⟨v2, vs2, d2, e2, p2, q2, rfl, rfl, rfl, h2, r2⟩ := trodAll_cons r1
  obtain ⟨v3, vs3, d3, e3, p3, q3, rfl, rfl, rfl, h3, r3⟩ := trodAll_cons r2
  obtain ⟨v4, vs4, d4, e4, p4, q4, rfl, rfl, rfl, h4, r4⟩ := trodAll_cons r3
  obtain ⟨v5, vs5, d5, e5, p5, q5, rfl, rfl, rfl, h5, r5⟩ := trodAll_cons r4
  obtain ⟨rfl, rfl, rfl⟩ := trodAll_nil r5
  exact ⟨v0, v1, v2, v3, v4, v5, d0, d1, d2, d3, d4, d5, p0, p1, p2, p3, p4, p5, by cases args; simp_all, rfl, by simp, h0, h1, h2, h3, h4, h5⟩
end
end Go.Proofs.YtaojblejnpemkaaDoor
