/- Texts that the claim leans on, part 16: N17, N18, N19, OM3. -/
import Derived.Test.YtejjneamngkmoaaDoorZ1
import Derived.Test.YtejjneamngkmoaaDoorZ2
import Derived.Test.YtejjneamngkmoaaDoorZ3
import Derived.Test.YtejjneamngkmoaaDoorZ4
import Derived.Test.YtejjneamngkmoaaDoorZ5
import Derived.Test.YtejjneamngkmoaaDoorZ6
import Derived.Test.YtejjneamngkmoaaDoorZ7
import Derived.Test.YtejjneamngkmoaaDoorZ8
import Derived.Test.YtejjneamngkmoaaDoorZ9
import Derived.Test.YtejjneamngkmoaaDoorZ10
import Derived.Test.YtejjneamngkmoaaDoorZ11
import Derived.Test.YtejjneamngkmoaaDoorZ12
import Derived.Test.YtejjneamngkmoaaDoorZ13
import Derived.Test.YtejjneamngkmoaaDoorZ14
import Derived.Test.YtejjneamngkmoaaDoorZ15
import Derived.Test.YtejjneamngkmoaaDoorRows
import Derived.WalkKit
import Derived.WalkSpells
import Derived.WalkLawsBesides
import Derived.Handy
import Derived.Deep.QuietTactic
import Derived.BigQuiet
import Derived.Deep.DeepCutAuto
import Derived.Lib.Hide
import Derived.RegionTactic
import Derived.ChangeAlike
import Derived.Laws.ResultCell
import Derived.Outline
import Derived.Deep.Slices
import Derived.Lib.SmallJoins
import Derived.Deep.RegionHeld
import Derived.ProofKit
import Derived.Laws.StructEq
import Derived.StillTailTactics
import Derived.Deep.RegionWith
import Derived.OpenShut
import Derived.ChangeSlices
import Derived.Laws.IdiomStrings
import Derived.Laws.BytesArg
import Derived.Laws.MakeOwn
import Derived.Lib.SliceRun
import Derived.Laws.BitsAllLaws
import Derived.Great.BuildSlice
import Derived.Great.FillDense
import Derived.Laws.Rows
import Derived.Deep.Quiet
import Derived.Deep.RegionHeld3
import Derived.Laws.CopyOwn
import Derived.Laws.CopyRow
import Derived.Laws.NewBlocks
import Derived.Deep.RegionLaw
namespace Go.Proofs.YtejjneamngkmoaaDoor

section
variable {d : Dk} {rep reg inc v : Int} {body : List UInt8} {o : Vo}
/-- A put whose power goes, and a crash behind it. -/
theorem one_crash (h : Live d) (hr : reg = 1 ∨ reg = 2) (hb : body.length ≤ 43) {i : Nat} (hi : i < 2) (hl : 0 ≤ d.left) (hl2 : d.left < 2) :
    ∃ d', putC d ⟨rep, reg, (i : Nat), v, inc⟩ body = (d', 5) ∧ d'.pl.length = 156 ∧ d'.down = false ∧
    ∀ keep, ∃ n : Bool, ∀ j : Nat, j < 156 → readD (anew d' keep) j = if j = secC reg i ∧ n = true then (fraC rep reg v inc body i, 0) else readD d j := by
  obtain ⟨ef, lf⟩ := sec_first hr hi
  have hlen := h.len
  by_cases h0 : d.left = 0
  · refine ⟨_, put_0 h h0 ef (by omega) hb, hlen, h.dn, fun keep => ⟨false, fun j hj => ?_⟩⟩
    rw [rd_live (anew_live keep (by exact hlen)) hj, rd_live h hj]
    simp [anew, h.w, thruD]
  · have h1 : d.left = 1 := by omega
    refine ⟨_, put_1 h h1 ef (by omega) hb, hlen, h.dn, fun keep => ⟨keepB keep 0, fun j hj => ?_⟩⟩
    rw [rd_live (anew_live keep (by exact hlen)) hj, rd_live h hj]
    simp only [anew, thruD]
    cases hk : keepB keep 0 with
    | false => simp
    | true =>
      simp only [if_true, and_true]
      rw [rd_set _ (by omega)]
      rfl
theorem store_ok (h : Live d) (hp : 0 ≤ rep ∧ rep ≤ 6) (hr : reg = 1 ∨ reg = 2) (hi : 1 ≤ inc ∧ inc ≤ 1099511627776) (hb : body.length ≤ 43) (hB : Fr d rep reg o) (hv : verO o + 1 ≤ 1099511627776) (hl : d.left < 0 ∨ 4 ≤ d.left) :
    ∃ d', storeC d rep reg inc body = (d', 0) ∧ Live d' ∧ Fr d' rep reg (nextO o inc body) := by
  have hvp := verO_pos hB.ok
  obtain ⟨f, hf, hf2⟩ : ∃ f, (if o.isSome = true then 1 else 0) = f ∧ f < 2 := ⟨_, rfl, by split <;> omega⟩
  rw [store_two h hp hr hi hb (hB.both hp hr) hv, hf, two_all h hr hb hf2 hl]
  have L1 := putP_live h (secC reg f) (fraC rep reg (verO o + 1) inc body f)
  have L2 := putP_live L1 (secC reg (1 - f)) (fraC rep reg (verO o + 1) inc body (1 - f))
  have hs1 := sec_lt hr hf2
  have hs2 := sec_lt hr (i := 1 - f) (by omega)
  have hrd : ∀ j : Nat, j < 156 → readD (putP (putP d (secC reg f) (fraC rep reg (verO o + 1) inc body f)) (secC reg (1 - f)) (fraC rep reg (verO o + 1) inc body (1 - f))) j = if j = secC reg (1 - f) then (fraC rep reg (verO o + 1) inc body (1 - f), 0) else if j = secC reg f then (fraC rep reg (verO o + 1) inc body f, 0) else readD d j := fun j hj => by
    rw [putP_read L1 _ hj hs2, putP_read h _ hj hs1]
  have hne : secC reg (1 - f) ≠ secC reg f := by unfold secC; omega
  have r1 := hrd (secC reg (1 - f)) hs2
  rw [if_pos rfl] at r1
  have r2 := hrd (secC reg f) hs1
  rw [if_neg (Ne.symm hne), if_pos rfl] at r2
  refine ⟨_, rfl, L2, ⟨next_ok hB.ok hv hi hb, ?_, ?_⟩⟩
  · rcases (show f = 0 ∨ f = 1 by omega) with rfl | rfl
    · exact r2
    · exact r1
  · rcases (show f = 0 ∨ f = 1 by omega) with rfl | rfl
    · exact r1
    · exact r2
end
/-- The cell holds that in both copies, or in one, and something older in the other one. -/
def AnyC (d : Dk) (rep : Int) (o : Vo) : Prop := Fr d rep 1 o ∨ ∃ (v c : Int) (b : List UInt8) (i : Nat) (o2 : Vo), o = some (v, c, b) ∧ i < 2 ∧ okO o ∧ okO o2 ∧ verO o2 < v ∧ readD d (secC 1 i) = (fraC rep 1 v c b i, 0) ∧ readD d (secC 1 (1 - i)) = (frR rep 1 (1 - i) o2, 0)
section
variable {d : Dk} {rep : Int} {o : Vo}
theorem any_ok (h : AnyC d rep o) : okO o := by
  rcases h with h | ⟨v, c, b, i, o2, rfl, _, h, _⟩
  · exact h.ok
  · exact h
theorem coR_less {o2 : Vo} {v : Int} {i : Nat} (h : verO o2 < v) : (coR rep 1 i o2).st ≠ 1 ∨ (coR rep 1 i o2).tg.idx < v := by
  match o2, h with
  | none, _ => exact .inl (by simp [coR])
  | some (v2, c, b), h => exact .inr h
theorem any_heal (h : Live d) (hp : 0 ≤ rep ∧ rep ≤ 6) (ha : AnyC d rep o) : loadC d rep 1 = (verO o, bodO o, 0) ∧
    ((∃ d9, healC d rep 1 = (d9, 0) ∧ Live d9 ∧ Fr d9 rep 1 o) ∨ ∃ d9, healC d rep 1 = (d9, 5) ∧ d9.pl.length = 156 ∧ d9.down = false ∧ ∀ keep, AnyC (anew d9 keep) rep o) := by
  have hr : (1 : Int) = 1 ∨ (1 : Int) = 2 := .inl rfl
  rcases ha with hf | ⟨v, c, b, i, o2, rfl, hi, hok, hok2, hlt, r1, r2⟩
  · exact ⟨hf.load h hp hr, .inl ⟨d, heal_same h hp hr hf, h, hf⟩⟩
  · obtain ⟨o1, o2', o3, o4, o5⟩ := hok
    have hc1 : cop d rep 1 i = coR rep 1 i (some (v, c, b)) := cop_fra hp hr hi (by omega) o2' ⟨o3, o4⟩ o5 r1
    have hc2 := cop_fr hp hr (i := 1 - i) (by omega) hok2 r2
    have hold : (cop d rep 1 (1 - i)).st ≠ 1 ∨ (cop d rep 1 (1 - i)).tg.idx < v := by rw [hc2]; exact coR_less hlt
    obtain ⟨e1, e2⟩ := loaded_one hi hc1 hold
    have hs2 := sec_lt hr (i := 1 - i) (by omega)
    have hs1 := sec_lt hr hi
    have hne : secC 1 i ≠ secC 1 (1 - i) := by unfold secC; omega
    have he : healC d rep 1 = putC d ⟨rep, 1, ((1 - i : Nat) : Int), v, c⟩ b := by
      rw [heal_cop h hp hr, e1]
      rw [if_neg (by simp)]
      rcases (show i = 0 ∨ i = 1 by omega) with rfl | rfl
      · simp only [show ((0 : Nat) = 1) = False by simp, if_false]
        rw [hc1]
        simp only [Nat.sub_zero] at hold ⊢
        rw [if_neg]
        · rfl
        · rintro ⟨a1, a2, _⟩
          simp only [coR] at a1 a2
          rcases hold with h2 | h2
          · exact h2 a1.symm
          · omega
      · simp only [if_true]
        rw [hc1]
        simp only [Nat.sub_self] at hold ⊢
        rw [if_neg]
        · rfl
        · rintro ⟨a1, a2, _⟩
          simp only [coR] at a1 a2
          rcases hold with h2 | h2
          · exact h2 a1.symm
          · omega
    have hfr : ∀ {d9 : Dk}, readD d9 (secC 1 i) = (fraC rep 1 v c b i, 0) → readD d9 (secC 1 (1 - i)) = (fraC rep 1 v c b (1 - i), 0) → Fr d9 rep 1 (some (v, c, b)) := fun {d9} q1 q2 => by
      refine ⟨⟨o1, o2', o3, o4, o5⟩, ?_, ?_⟩
      · rcases (show i = 0 ∨ i = 1 by omega) with rfl | rfl
        · exact q1
        · exact q2
      · rcases (show i = 0 ∨ i = 1 by omega) with rfl | rfl
        · exact q2
        · exact q1
    refine ⟨load_one h hp hr hi hc1 hold, ?_⟩
    rw [he]
    by_cases hl : 0 ≤ d.left ∧ d.left < 2
    · obtain ⟨d9, p1, p2, p3, p4⟩ := one_crash (rep := rep) (v := v) (inc := c) h hr o5 (i := 1 - i) (by omega) hl.1 hl.2
      refine .inr ⟨d9, p1, p2, p3, fun keep => ?_⟩
      obtain ⟨n, hn⟩ := p4 keep
      have q1 := hn _ hs1
      have q2 := hn _ hs2
      rw [if_neg (fun hh => hne hh.1)] at q1
      cases n
      case false =>
        rw [if_neg (by simp)] at q2
        exact .inr ⟨v, c, b, i, o2, rfl, hi, ⟨o1, o2', o3, o4, o5⟩, hok2, hlt, q1.trans r1, q2.trans r2⟩
      case true =>
        rw [if_pos ⟨rfl, rfl⟩] at q2
        exact .inl (hfr (q1.trans r1) q2)
    · have hput := put_p (rep := rep) (reg := 1) (v := v) (inc := c) (body := b) h hr o5 (i := 1 - i) (by omega) (by omega) (by omega)
      rw [hput]
      refine .inl ⟨_, rfl, putP_live h _ _, ?_⟩
      have hrd : ∀ j : Nat, j < 156 → readD (putP d (secC 1 (1 - i)) (fraC rep 1 v c b (1 - i))) j = if j = secC 1 (1 - i) then (fraC rep 1 v c b (1 - i), 0) else readD d j := fun j hj => putP_read h _ hj hs2
      have q1 := hrd _ hs1
      rw [if_neg hne, r1] at q1
      have q2 := hrd _ hs2
      rw [if_pos rfl] at q2
      exact hfr q1 q2
theorem any_store {inc : Int} {body : List UInt8} (h : Live d) (hp : 0 ≤ rep ∧ rep ≤ 6) (hi : 1 ≤ inc ∧ inc ≤ 1099511627776) (hb : body.length ≤ 43) (hf : Fr d rep 1 o) (hv : verO o + 1 ≤ 1099511627776) :
    (∃ d', storeC d rep 1 inc body = (d', 0) ∧ Live d' ∧ Fr d' rep 1 (nextO o inc body)) ∨ ∃ d', storeC d rep 1 inc body = (d', 5) ∧ d'.pl.length = 156 ∧ d'.down = false ∧ ∀ keep, AnyC (anew d' keep) rep o ∨ AnyC (anew d' keep) rep (nextO o inc body) := by
  have hr : (1 : Int) = 1 ∨ (1 : Int) = 2 := .inl rfl
  by_cases hl : d.left < 0 ∨ 4 ≤ d.left
  · exact .inl (store_ok h hp hr hi hb hf hv hl)
  · refine .inr ⟨(storeC d rep 1 inc body).1, ?_, ?_, ?_, fun keep => ?_⟩
    · have := (store_crash h hp hr hi hb hf hv (by omega) []).1
      rw [if_neg (by omega)] at this
      rw [← this]
    · exact (store_crash h hp hr hi hb hf hv (by omega) []).2.1
    · exact (store_crash h hp hr hi hb hf hv (by omega) []).2.2.1
    · obtain ⟨_, _, _, e4, _⟩ := store_crash h hp hr hi hb hf hv (by omega) keep
      rcases e4 with ⟨_, g⟩ | g | ⟨_, f, hf2, _, r1, r2⟩
      · exact .inl (.inl g)
      · exact .inr (.inl g)
      · exact .inr (.inr ⟨verO o + 1, inc, body, f, o, rfl, hf2, next_ok hf.ok hv hi hb, hf.ok, by omega, r1, r2⟩)
/-- What a cell says, as metadata. -/
def IsM (o : Vo) (m : Mt) : Prop := (o = none ∧ m = zM) ∨ ∃ v, o = some (v, m.i, metaL m.r m.p m.i) ∧ 0 < v ∧ mayM m.r m.p m.i = true
/-- Behind a power that went: so says the cell, whatever is kept, behind a crash and a start. -/
def GoneM (d' : Dk) (rep : Int) (o : Vo) (m m2 : Mt) : Prop := d'.pl.length = 156 ∧ d'.down = false ∧ ∀ keep, ∃ o' m', AnyC (anew d' keep) rep o' ∧ IsM o' m' ∧ verO o' ≤ verO o + 1 ∧ (m' = m ∨ m' = m2)
theorem isM_i {m : Mt} (h : IsM o m) : 0 ≤ m.i := by
  rcases h with ⟨_, rfl⟩ | ⟨v, _, _, hm⟩
  · decide
  · have := may_bd hm; omega
theorem isM_next {m2 : Mt} (hok : okO o) (hm : mayM m2.r m2.p m2.i = true) : IsM (nextO o m2.i (metaL m2.r m2.p m2.i)) m2 := .inr ⟨_, rfl, by have := verO_pos hok; omega, hm⟩
theorem mstore_m {m m2 : Mt} (h : Live d) (hp : 0 ≤ rep ∧ rep ≤ 6) (hf : Fr d rep 1 o) (hm : IsM o m) (hv : verO o + 1 ≤ 1099511627776) (hm2 : mayM m2.r m2.p m2.i = true) :
    (∃ d', storeM d rep m2 = (d', m2, 0) ∧ Live d' ∧ Fr d' rep 1 (nextO o m2.i (metaL m2.r m2.p m2.i))) ∨ ∃ d', storeM d rep m2 = (d', zM, 5) ∧ GoneM d' rep o m m2 := by
  obtain ⟨b1, b2, b3, b4, b5, b6⟩ := may_bd hm2
  have hl := Nat.le_trans (metaL_len m2.r m2.p m2.i) (show 13 ≤ 43 by decide)
  rcases any_store (inc := m2.i) (body := metaL m2.r m2.p m2.i) h hp ⟨b5, b6⟩ hl hf hv with ⟨d', e, l, f⟩ | ⟨d', e, l1, l2, k⟩
  · refine .inl ⟨d', ?_, l, f⟩
    unfold storeM
    rw [e, hm2, if_neg (by simp), if_neg (by simp)]
  · refine .inr ⟨d', ?_, l1, l2, fun keep => ?_⟩
    · unfold storeM
      rw [e, hm2, if_neg (by simp), if_pos (by simp)]
    · rcases k keep with g | g
      · exact ⟨o, m, g, hm, by omega, .inl rfl⟩
      · exact ⟨_, m2, g, isM_next hf.ok hm2, by rw [next_ver]; omega, .inr rfl⟩
theorem begin_m {m : Mt} (h : Live d) (hp : 0 ≤ rep ∧ rep ≤ 6) (ha : AnyC d rep o) (hm : IsM o m) (hv : verO o + 1 ≤ 1099511627776) (hi : m.i < 1099511627776) :
    (∃ d', beginM d rep = (d', ⟨m.r, m.p, m.i + 1⟩, 0) ∧ Live d' ∧ Fr d' rep 1 (nextO o (m.i + 1) (metaL m.r m.p (m.i + 1))) ∧ mayM m.r m.p (m.i + 1) = true) ∨ ∃ d', beginM d rep = (d', zM, 5) ∧ GoneM d' rep o m ⟨m.r, m.p, m.i + 1⟩ := by
  have hm' : mayM m.r m.p (m.i + 1) = true := by
    rcases hm with ⟨_, rfl⟩ | ⟨v, _, _, hm⟩
    · decide
    · have hb := may_bd hm
      simp only [mayM, Bool.and_eq_true, decide_eq_true_eq] at hm ⊢
      exact ⟨⟨hm.1.1, by omega⟩, by omega⟩
  obtain ⟨hl, hh⟩ := any_heal h hp ha
  have hld : ¬ (0 < verO o ∧ parE (bodO o) ≠ 0) ∧ ldM (verO o) (bodO o) = m := by
    rcases hm with ⟨rfl, rfl⟩ | ⟨v, rfl, hv0, hm⟩
    · exact ⟨fun hh => absurd hh.1 (by simp [verO]), rfl⟩
    · obtain ⟨e1, e2⟩ := parE_print hm
      refine ⟨fun hh => hh.2 e1, ?_⟩
      unfold ldM
      exact (if_pos hv0).trans e2
  unfold beginM
  rw [hl]
  simp only
  rw [if_neg (by simp), if_neg hld.1, hld.2, if_neg (by omega)]
  rcases hh with ⟨d9, e9, l9, f9⟩ | ⟨d9, e9, l1, l2, k⟩
  · rw [e9]
    simp only
    rw [if_neg (by simp)]
    rcases mstore_m (m := m) (m2 := ⟨m.r, m.p, m.i + 1⟩) l9 hp f9 hm hv hm' with ⟨d', e, l, f⟩ | ⟨d', e, g⟩
    · exact .inl ⟨d', e, l, f, hm'⟩
    · exact .inr ⟨d', e, g⟩
  · rw [e9]
    simp only
    rw [if_pos (by simp)]
    exact .inr ⟨d9, rfl, l1, l2, fun keep => ⟨o, m, k keep, hm, by omega, .inl rfl⟩⟩
theorem prom_m {m : Mt} (h : Live d) (hp : 0 ≤ rep ∧ rep ≤ 6) (hf : Fr d rep 1 o) (hm : IsM o m) (hv : verO o + 1 ≤ 1099511627776) (r p : Int) :
    promM d rep m r p = (d, zM, 2) ∨ (abvB r p m.r m.p = true ∧ ((∃ d', promM d rep m r p = (d', ⟨r, p, m.i⟩, 0) ∧ Live d' ∧ Fr d' rep 1 (nextO o m.i (metaL r p m.i)) ∧ mayM r p m.i = true) ∨ ∃ d', promM d rep m r p = (d', zM, 5) ∧ GoneM d' rep o m ⟨r, p, m.i⟩)) := by
  by_cases hc : (mayM m.r m.p m.i && balB r p && abvB r p m.r m.p) = true
  · have hc' := hc
    rw [Bool.and_eq_true, Bool.and_eq_true] at hc'
    obtain ⟨b1, b2, b3, b4, b5, b6⟩ := may_bd hc'.1.1
    have hm' := bal_may (i := m.i) hc'.1.2 b5 b6
    refine .inr ⟨hc'.2, ?_⟩
    unfold promM
    rw [if_pos hc]
    rcases mstore_m (m := m) (m2 := ⟨r, p, m.i⟩) h hp hf hm hv hm' with ⟨d', e, l, f⟩ | ⟨d', e, g⟩
    · exact .inl ⟨d', e, l, f, hm'⟩
    · exact .inr ⟨d', e, g⟩
  · exact .inl (prom_no hc)
end
end Go.Proofs.YtejjneamngkmoaaDoor

namespace Go.Proofs.YtejjneamngkmoaaDoor

theorem abq_refl (r p : Int) : abqB r p r p = true := by simp [abqB]
theorem abq_iff (r p r' p' : Int) : abqB r p r' p' = true ↔ (r' < r ∨ (r = r' ∧ p' ≤ p)) := by simp [abqB]
theorem abv_iff (r p r' p' : Int) : abvB r p r' p' = true ↔ (r' < r ∨ (r = r' ∧ p' < p)) := by simp [abvB]
theorem abq_trans {r p r1 p1 r2 p2 : Int} (h : abqB r p r1 p1 = true) (h2 : abqB r1 p1 r2 p2 = true) : abqB r p r2 p2 = true := by
  rw [abq_iff] at *
  omega
theorem abv_abq {r p r1 p1 : Int} (h : abvB r p r1 p1 = true) : abqB r p r1 p1 = true := by
  rw [abq_iff, abv_iff] at *
  omega
theorem abq_total {r p r1 p1 : Int} (h : ¬ abqB r p r1 p1 = true) : abqB r1 p1 r p = true := by
  rw [abq_iff] at *
  omega
structure RiseI (d : Dk) (now : Mt) (begun hr hp tr tp : Int) (n : Nat) : Prop where
  live : Live d
  ex : ∃ (o : Vo) (m : Mt), AnyC d 2 o ∧ IsM o m ∧ verO o ≤ n ∧ m.i ≤ n ∧ now.i ≤ m.i ∧ abqB m.r m.p hr hp = true ∧ (abqB hr hp m.r m.p = true ∨ abqB tr tp m.r m.p = true) ∧ (begun = 0 ∨ (begun = now.i ∧ now = m ∧ Fr d 2 1 o ∧ 0 < begun))
section
variable {d : Dk} {now : Mt} {begun hr hp tr tp : Int} {n : Nat}
theorem rise_new : RiseI (newDk 156) zM 0 0 0 0 0 0 :=
  ⟨new_live, none, zM, .inl (new_fr 2 (.inl rfl)), .inl ⟨rfl, rfl⟩, by decide, by decide, by decide, by decide, .inl (by decide), .inl rfl⟩
theorem RiseI.more (h : RiseI d now begun hr hp tr tp n) : RiseI d now begun hr hp tr tp (n + 1) := by
  obtain ⟨o, m, a1, a2, a3, a4, a5⟩ := h.ex
  exact ⟨h.live, o, m, a1, a2, by omega, by omega, a5⟩
theorem any_left {rep : Int} {o : Vo} (h : AnyC d rep o) (x : Int) : AnyC { d with left := x } rep o := by
  rcases h with h | h
  · exact .inl (fr_left h x)
  · exact .inr h
theorem RiseI.power (h : RiseI d now begun hr hp tr tp n) (x : Int) : RiseI { d with left := x } now begun hr hp tr tp n := by
  obtain ⟨o, m, a1, a2, a3, a4, a5, a6, a7, a8⟩ := h.ex
  refine ⟨live_left h.live x, o, m, any_left a1 x, a2, a3, a4, a5, a6, a7, ?_⟩
  rcases a8 with a8 | ⟨b1, b2, b3, b4⟩
  · exact .inl a8
  · exact .inr ⟨b1, b2, fr_left b3 x, b4⟩
theorem gone_rise {d' : Dk} {o : Vo} {m m2 : Mt} {tr' tp' : Int} (hg : GoneM d' 2 o m m2) (hv : verO o ≤ n) (h1 : m.i ≤ n) (h2 : m2.i ≤ n + 1) (h3 : now.i ≤ m.i) (h4 : now.i ≤ m2.i) (h5 : abqB m.r m.p hr hp = true) (h6 : abqB m2.r m2.p hr hp = true)
    (h7 : abqB hr hp m.r m.p = true ∨ abqB tr' tp' m.r m.p = true) (h8 : abqB hr hp m2.r m2.p = true ∨ abqB tr' tp' m2.r m2.p = true) (keep : List Bool) :
    ∃ d7 d8, crashD d' keep = (d7, 0) ∧ startD d7 = (d8, 0) ∧ RiseI d8 now 0 hr hp tr' tp' (n + 1) := by
  obtain ⟨l1, l2, k⟩ := hg
  obtain ⟨c1, c2⟩ := crash_start (d := d') keep l1 l2
  obtain ⟨o', m', a1, a2, a3, a4⟩ := k keep
  refine ⟨(crashD d' keep).1, anew d' keep, by rw [← c1], c2, anew_live keep l1, o', m', a1, a2, by omega, ?_, ?_, ?_, ?_, .inl rfl⟩
  · rcases a4 with rfl | rfl
    · omega
    · omega
  · rcases a4 with rfl | rfl
    · exact h3
    · exact h4
  · rcases a4 with rfl | rfl
    · exact h5
    · exact h6
  · rcases a4 with rfl | rfl
    · exact h7
    · exact h8
theorem rise_begin (h : RiseI d now begun hr hp tr tp n) (hn : n ≤ 100) :
    (∃ d' r p i, beginM d 2 = (d', ⟨r, p, i⟩, 0) ∧ now.i < i ∧ 0 < i ∧ abqB r p hr hp = true ∧ (abqB hr hp r p = true ∨ abqB tr tp r p = true) ∧ RiseI d' ⟨r, p, i⟩ i r p tr tp (n + 1)) ∨
    ∃ d', beginM d 2 = (d', zM, 5) ∧ ∀ keep, ∃ d7 d8, crashD d' keep = (d7, 0) ∧ startD d7 = (d8, 0) ∧ RiseI d8 now 0 hr hp tr tp (n + 1) := by
  obtain ⟨o, m, a1, a2, a3, a4, a5, a6, a7, a8⟩ := h.ex
  have hi0 := isM_i a2
  rcases begin_m h.live (show (0 : Int) ≤ 2 ∧ (2 : Int) ≤ 6 by omega) a1 a2 (by omega) (by omega) with ⟨d', e, l, f, hm'⟩ | ⟨d', e, g⟩
  · refine .inl ⟨d', m.r, m.p, m.i + 1, e, by omega, by omega, a6, a7, l, _, ⟨m.r, m.p, m.i + 1⟩, .inl f, isM_next (m2 := ⟨m.r, m.p, m.i + 1⟩) (any_ok a1) hm', by rw [next_ver]; omega, by simp only; omega, Int.le_refl _, abq_refl _ _, .inl (abq_refl _ _), .inr ⟨rfl, rfl, f, by omega⟩⟩
  · exact .inr ⟨d', e, gone_rise g a3 a4 (by simp only; omega) a5 (by simp only; omega) a6 a6 a7 a7⟩
theorem rise_prom (h : RiseI d now begun hr hp tr tp n) (hn : n ≤ 100) (hb : 0 < begun) (r p : Int) :
    promM d 2 now r p = (d, zM, 2) ∨
    (∃ d', promM d 2 now r p = (d', ⟨r, p, now.i⟩, 0) ∧ begun = now.i ∧ abqB r p hr hp = true ∧ RiseI d' ⟨r, p, now.i⟩ now.i r p tr tp (n + 1)) ∨
    ∃ d', promM d 2 now r p = (d', zM, 5) ∧ ∀ keep, ∃ d7 d8, crashD d' keep = (d7, 0) ∧ startD d7 = (d8, 0) ∧ (abqB r p tr tp = true → RiseI d8 now 0 hr hp r p (n + 1)) ∧ (abqB r p tr tp = false → RiseI d8 now 0 hr hp tr tp (n + 1)) := by
  obtain ⟨o, m, a1, a2, a3, a4, a5, a6, a7, a8⟩ := h.ex
  rcases a8 with a8 | ⟨b1, rfl, b3, b4⟩
  · omega
  have hi0 := isM_i a2
  rcases prom_m h.live (show (0 : Int) ≤ 2 ∧ (2 : Int) ≤ 6 by omega) b3 a2 (by omega) r p with e | ⟨hab, ⟨d', e, l, f, hm'⟩ | ⟨d', e, g⟩⟩
  · exact .inl e
  · have hq := abq_trans (abv_abq hab) a6
    refine .inr (.inl ⟨d', e, b1, hq, l, _, ⟨r, p, now.i⟩, .inl f, isM_next (m2 := ⟨r, p, now.i⟩) (any_ok a1) hm', by rw [next_ver]; omega, by simp only; omega, Int.le_refl _, abq_refl _ _, .inl (abq_refl _ _), .inr ⟨rfl, rfl, f, by omega⟩⟩)
  · have hq := abq_trans (abv_abq hab) a6
    refine .inr (.inr ⟨d', e, fun keep => ?_⟩)
    cases ht : abqB r p tr tp
    case false =>
      have ht' := abq_total (r := r) (p := p) (r1 := tr) (p1 := tp) (by rw [ht]; simp)
      obtain ⟨d7, d8, c1, c2, I⟩ := gone_rise (now := now) (hr := hr) (hp := hp) (tr' := tr) (tp' := tp) g a3 a4 (by simp only; omega) a5 (Int.le_refl _) a6 hq a7 (.inr ht') keep
      exact ⟨d7, d8, c1, c2, by simp, fun _ => I⟩
    case true =>
      have a7' : abqB hr hp now.r now.p = true ∨ abqB r p now.r now.p = true := .inr (abv_abq hab)
      obtain ⟨d7, d8, c1, c2, I⟩ := gone_rise (now := now) (hr := hr) (hp := hp) (tr' := r) (tp' := p) g a3 a4 (by simp only; omega) a5 (Int.le_refl _) a6 hq a7' (.inr (abq_refl _ _)) keep
      exact ⟨d7, d8, c1, c2, fun _ => I, by simp⟩
end
end Go.Proofs.YtejjneamngkmoaaDoor

namespace Go.Proofs.YtejjneamngkmoaaDoor
open Go.RowKit

structure Stp where
  pb : Bool
  r : Int
  p : Int
  x : Int
  ka : Option Addr
  keep : List Bool
  kc : Nat
/-- Steps that came in. -/
structure Stps (w : World) (a : Option Addr) (l : List Stp) : Prop where
  each : ∀ (j : Nat) (hj : j < l.length), ∃ b off, a = some ⟨b, off, none⟩ ∧ w.cell? ⟨b, off + j * 5, none⟩ = some (.bool l[j].pb) ∧ w.cell? ⟨b, off + j * 5 + 1, none⟩ = some (.int .i64 l[j].r) ∧ w.cell? ⟨b, off + j * 5 + 2, none⟩ = some (.int .i64 l[j].p) ∧ w.cell? ⟨b, off + j * 5 + 3, none⟩ = some (.int .i8 l[j].x) ∧ w.cell? ⟨b, off + j * 5 + 4, none⟩ = some (.slice l[j].ka l[j].keep.length l[j].kc) ∧ Row w l[j].ka (l[j].keep.map Value.bool) ∧ -128 ≤ l[j].x ∧ l[j].x ≤ 127
theorem tr_ne {w w' : World} {q j : Nat} {cs xs : Array Value} {T T' : TypeId} (hg : w.grownBy w' (some q)) (hc : w.heap[q]? = some (.cells cs T (0, 0))) (h : w.heap[j]? = some (.cells xs T' (0, 0))) (hne : T' ≠ T) : w'.heap[j]? = some (.cells xs T' (0, 0)) :=
  tr_st hg h (fun e => by
    subst e
    rw [hc] at h
    injection h with h
    injection h with _ e
    exact hne e.symm)
theorem DiskB.stB {B g gp q : Nat} {wv : Value} {d : Dk} {w w' : World} {cs : Array Value} {T : TypeId} (h : DiskB B g gp wv d w) (hg : w.grownBy w' (some q)) (hc : w.heap[q]? = some (.cells cs T (0, 0))) (h1 : 30 ≠ T) (h2 : 133 ≠ T) (h3 : 158 ≠ T) : DiskB B g gp wv d w' :=
  ⟨tr_ne hg hc h.box h1, tr_ne hg hc h.pls h2, owns_ne h.wts hg hc h3, h.gb, h.pb, h.n0, h.nl, h.lo, h.hi, h.ok, h.wk⟩
theorem stw2 (x : Array Value) (hx : x.size = 2) (a b : Int) : 0 + 2 ≤ x.size ∧ (Value.agg #[.int .i64 a, .int .i64 b]).cells.size = 2 ∧ (∀ u ∈ (Value.agg #[.int .i64 a, .int .i64 b]).cells.toList, u.oneCell' = true) ∧ (x.toList.take 0 ++ (Value.agg #[.int .i64 a, .int .i64 b]).cells.toList ++ x.toList.drop (0 + 2)).toArray = #[.int .i64 a, .int .i64 b] := by
  refine ⟨by omega, rfl, by simp [Value.cells, Value.oneCell'], ?_⟩
  rw [List.drop_of_length_le (by rw [Array.length_toList]; omega)]
  rfl
set_option maxRecDepth 100000 in
set_option maxHeartbeats 4000000 in
theorem rises_law (a : Option Addr) (c : Nat) (ls : List Stp) (w : World) (hl : Stps w a ls) :
    Calls Tryd.prog 13 #[.slice a ls.length c] w fun e w' => e = .returned (.bool true) ∧ Below w.heap.size w w' := by
  by_cases h40 : ls.length ≤ 40
  case neg =>
    have hI : (40 : Int) < ls.length := by omega
    go_enter Tryd.func13, Tryd.ntmps13
    refine wp_seq_k (fun K hK => ?_)
    have HK := Lib.hid hK
    clear hK
    go_wp2
    refine HK.out _ _ ?_
    clear HK
    refine wp_seq_k (fun K hK => ?_)
    have HK := Lib.hid hK
    clear hK
    go_wp2_with (go_at_call 43; refine (mawake_any _).mono ?_; rintro e w1 ⟨rfl, hb1⟩)
    refine HK.out _ _ ?_
    clear HK
    go_wp2
    go_ret
    exact ⟨rfl, hb1⟩
  case pos =>
  have hI : ¬ (40 : Int) < ls.length := by omega
  go_enter Tryd.func13, Tryd.ntmps13
  refine wp_seq_k (fun K hK => ?_)
  have HK := Lib.hid hK
  clear hK
  go_wp2
  refine HK.out _ _ ?_
  clear HK
  refine wp_seq_k (fun K hK => ?_)
  have HK := Lib.hid hK
  clear hK
  go_wp2_with (go_at_call 43; refine (mawake_any _).mono ?_; rintro e w1 ⟨rfl, hb1⟩)
  refine HK.out _ _ ?_
  clear HK
  refine wp_seq_k (fun K hK => ?_)
  have HK := Lib.hid hK
  clear hK
  go_wp2
  refine HK.out _ _ ?_
  clear HK
  refine wp_seq_k (fun K hK => ?_)
  have HK := Lib.hid hK
  clear hK
  go_wp2_with (go_at_call 14; refine (new156 (B := w.heap.size) hb1.size).mono ?_; rintro e w3 ⟨⟨g, gp, rfl, D3⟩, hb3⟩)
  refine HK.out _ _ ?_
  clear HK
  have k3 := (Kt.of hb1 (Nat.le_refl w.heap.size)).trans (Kt.of hb3 hb1.size)
  clear hb1 hb3
  refine wp_seq_k (fun K hK => ?_)
  have HK := Lib.hid hK
  clear hK
  go_wp2
  refine HK.out _ _ ?_
  clear HK
  refine wp_seq_k (fun K hK => ?_)
  have HK := Lib.hid hK
  clear hK
  go_wp2
  refine HK.out _ _ ?_
  clear HK
  have N4 := heap_alloc_new w3 (Obj.cells #[.int .i64 0, .int .i64 0, .int .i64 0] 88)
  have D4 := D3.below (blw w3 (Obj.cells #[.int .i64 0, .int .i64 0, .int .i64 0] 88))
  have k4 := k3.trans (Kt.of (blw w3 (Obj.cells #[.int .i64 0, .int .i64 0, .int .i64 0] 88)) k3.bl.size)
  have hqn : w.heap.size ≤ w3.heap.size := k3.bl.size
  generalize w3.alloc (Obj.cells #[.int .i64 0, .int .i64 0, .int .i64 0] 88) = w4 at *
  generalize w3.heap.size = qn at *
  clear D3 k3
  refine wp_seq_k (fun K hK => ?_)
  have HK := Lib.hid hK
  clear hK
  go_wp2
  refine HK.out _ _ ?_
  clear HK
  have H4 := tr_al (Obj.cells #[.int .i64 0, .int .i64 0] 86) (heap_alloc_new w4 (Obj.cells #[.int .i64 0, .int .i64 0] 86))
  have T4 := heap_alloc_new (w4.alloc (Obj.cells #[.int .i64 0, .int .i64 0] 86)) (Obj.cells #[.int .i64 0, .int .i64 0] 86)
  rw [show (w4.alloc (Obj.cells #[.int .i64 0, .int .i64 0] 86)).heap.size = w4.heap.size + 1 by simp] at T4
  have hbz := (blw w4 (Obj.cells #[.int .i64 0, .int .i64 0] 86)).alloc (by simp) (Obj.cells #[.int .i64 0, .int .i64 0] 86)
  refine wp_seq_k (fun K hK => ?_)
  have HK := Lib.hid hK
  clear hK
  go_wp2_with ((with_reducible refine wpList_stB 86 _ _ ?_); refine ⟨_, _, _, ⟨_, _, _, Tryd.sizeOf86, rfl, H4, stw2 _ rfl 0 0⟩, ?_⟩; intro w5 H5 g5; have T5 := tr_st g5 T4 (by omega); (with_reducible refine wpList_stB 86 _ _ ?_); refine ⟨_, _, _, ⟨_, _, _, Tryd.sizeOf86, rfl, T5, stw2 _ rfl 0 0⟩, ?_⟩; intro w6 T6 g6; have H6 := tr_st g6 H5 (by omega))
  refine HK.out _ _ ?_
  clear HK
  have N6 := tr_ne g6 T5 (tr_ne g5 H4 (tr_bl hbz N4) (by decide)) (by decide)
  have D6 := (((D4.below hbz).stB g5 H4 (by decide) (by decide) (by decide)).stB g6 T5 (by decide) (by decide) (by decide))
  have k6 := ((k4.trans (Kt.of hbz k4.bl.size)).new g5 k4.bl.size (Nat.le_refl _)).new g6 (by have := k4.bl.size; omega) (Nat.le_refl _)
  have hqh : w.heap.size ≤ w4.heap.size := k4.bl.size
  obtain ⟨qt, hqt⟩ : ∃ qt, w4.heap.size + 1 = qt := ⟨_, rfl⟩
  have hht : w4.heap.size ≠ qt := by omega
  have hqt' : w.heap.size ≤ qt := by omega
  rw [hqt] at T6
  simp only [hqt]
  generalize w4.heap.size = qh at *
  clear H4 T4 H5 T5 g5 g6 hbz D4 k4 N4 hqt
  refine wp_seq_k (fun K hK => ?_)
  have HK := Lib.hid hK
  clear hK
  go_wp2_with fail
  go_loopw [9, 6, 10, 11, 12, 13] (fun i bg _ _ _ _ wr => ∃ (j : Nat) (dj : Dk) (wvj : Value) (now : Mt) (begun hr hp tr tp : Int), j ≤ ls.length ∧ i = .int .i64 (j : Nat) ∧ bg = .int .i64 begun ∧ DiskB w.heap.size g gp wvj dj wr ∧ Kt w.heap.size w wr ∧ wr.heap[qn]? = some (.cells #[.int .i64 now.r, .int .i64 now.p, .int .i64 now.i] 88 (0, 0)) ∧ wr.heap[qh]? = some (.cells #[.int .i64 hr, .int .i64 hp] 86 (0, 0)) ∧ wr.heap[qt]? = some (.cells #[.int .i64 tr, .int .i64 tp] 86 (0, 0)) ∧ RiseI dj now begun hr hp tr tp j) (fun i _ _ _ _ _ _ => ls.length - (intOf i).toNat)
  case atStart => exact ⟨0, _, _, zM, 0, 0, 0, 0, 0, by omega, rfl, rfl, D6, k6, N6, H6, T6, rise_new⟩
  case round =>
    clear D6 k6 N6 H6 T6
    obtain ⟨j, dj, wvj, ⟨nr, np, ni⟩, begun, hr, hp, tr, tp, hj, rfl, rfl, D5, k5, N5, H5, T5, I5⟩ := hrel
    simp only at N5
    by_cases hlt : j < ls.length
    case neg =>
      obtain rfl : j = ls.length := by omega
      go_wp2
      refine HK.out _ _ ?_
      clear HK
      go_wp2
      go_ret
      exact ⟨rfl, k5.bl⟩
    case pos =>
      refine wp_seq_k (fun K2 hK2 => ?_)
      have HK2 := Lib.hid hK2
      clear hK2
      go_wp2
      refine HK2.out _ _ ?_
      clear HK2
      refine wp_seq_k (fun K2 hK2 => ?_)
      have HK2 := Lib.hid hK2
      clear hK2
      refine wp_block ?_
      obtain ⟨b, off, rfl, y0, y1, y2, y3, y4, hrow, hx1, hx2⟩ := hl.each j hlt
      have c0 := cell_later k5.bl y0
      have c1 := cell_later k5.bl y1
      have c2 := cell_later k5.bl y2
      have c3 := cell_later k5.bl y3
      have c4 := cell_later k5.bl y4
      have HR : ∀ w', Kt w.heap.size w w' → Row w' ls[j].ka (ls[j].keep.map Value.bool) := fun w' hk => row_kt hrow hk.bl
      generalize ls[j] = st at *
      obtain ⟨pb, r, p, x, ka, keep, kc⟩ := st
      simp only at c0 c1 c2 c3 c4 HR hx1 hx2
      clear y0 y1 y2 y3 y4 hrow
      refine wp_seq_k (fun K hK => ?_)
      have HK := Lib.hid hK
      clear hK
      go_wp2
      refine HK.out _ _ ?_
      clear HK
      have S := heap_alloc_new wr (Obj.cells #[.bool pb, .int .i64 r, .int .i64 p, .int .i8 x, .slice ka keep.length kc] 102)
      have N := tr_al (Obj.cells #[.bool pb, .int .i64 r, .int .i64 p, .int .i8 x, .slice ka keep.length kc] 102) N5
      have H := tr_al (Obj.cells #[.bool pb, .int .i64 r, .int .i64 p, .int .i8 x, .slice ka keep.length kc] 102) H5
      have T := tr_al (Obj.cells #[.bool pb, .int .i64 r, .int .i64 p, .int .i8 x, .slice ka keep.length kc] 102) T5
      have D := D5.below (blw wr (Obj.cells #[.bool pb, .int .i64 r, .int .i64 p, .int .i8 x, .slice ka keep.length kc] 102))
      have k := k5.trans (Kt.of (blw wr (Obj.cells #[.bool pb, .int .i64 r, .int .i64 p, .int .i8 x, .slice ka keep.length kc] 102)) k5.bl.size)
      clear c0 c1 c2 c3 c4 N5 H5 T5 D5 k5
      generalize wr.alloc (Obj.cells #[.bool pb, .int .i64 r, .int .i64 p, .int .i8 x, .slice ka keep.length kc] 102) = w6 at *
      generalize wr.heap.size = qs at *
      have s0 := blk_cell S 0 _ rfl
      have s1 := blk_cell S 1 _ rfl
      have s2 := blk_cell S 2 _ rfl
      have s3 := blk_cell S 3 _ rfl
      have s4 := blk_cell S 4 _ rfl
      by_cases hk20 : keep.length ≤ 20
      case neg =>
        have hI2 : (20 : Int) < keep.length := by omega
        go_wp2
        go_ret
        exact ⟨rfl, k.bl⟩
      case pos =>
      have hI2 : ¬ (20 : Int) < keep.length := by omega
      refine wp_seq_k (fun K hK => ?_)
      have HK := Lib.hid hK
      clear hK
      go_wp2
      refine HK.out _ _ ?_
      clear HK
      refine wp_seq_k (fun K hK => ?_)
      go_cut [] (fun wx => ∃ (d7 : Dk) (wv7 : Value), DiskB w.heap.size g gp wv7 d7 wx ∧ Kt w.heap.size w wx ∧ wx.heap[qs]? = some (Obj.cells #[.bool pb, .int .i64 r, .int .i64 p, .int .i8 x, .slice ka keep.length kc] 102) ∧ wx.heap[qn]? = some (Obj.cells #[.int .i64 nr, .int .i64 np, .int .i64 ni] 88) ∧ wx.heap[qh]? = some (Obj.cells #[.int .i64 hr, .int .i64 hp] 86) ∧ wx.heap[qt]? = some (Obj.cells #[.int .i64 tr, .int .i64 tp] 86) ∧ RiseI d7 ⟨nr, np, ni⟩ begun hr hp tr tp j)
      case first =>
        by_cases hx0 : 0 ≤ x
        case pos =>
          have hpw := power_any D x (by omega)
          rw [power_live I5.live hx0] at hpw
          go_wp2_with (go_at_call 37; refine hpw.mono ?_; rintro e w7 ⟨rfl, D7, hk⟩)
          go_meet
          exact ⟨_, _, D7, k.trans hk, hk.ty _ _ _ S (by decide) (by decide) (by decide), hk.ty _ _ _ N (by decide) (by decide) (by decide), hk.ty _ _ _ H (by decide) (by decide) (by decide), hk.ty _ _ _ T (by decide) (by decide) (by decide), I5.power x⟩
        case neg =>
          go_wp2
          go_meet
          exact ⟨_, _, D, k, S, N, H, T, I5⟩
      clear D k S N H T I5 s0 s1 s2 s3 s4
      obtain ⟨d7, wv7, D, k, S, N, H, T, I⟩ := hcut
      refine hK _ _ ?_; clear hK
      refine wp_seq_k (fun K hK => ?_)
      have HK := Lib.hid hK
      clear hK
      go_wp2
      refine HK.out _ _ ?_
      clear HK
      have hqm : w.heap.size ≤ wc.heap.size := k.bl.size
      have hmn : wc.heap.size ≠ qn := by have := lt_blk N; omega
      have M := heap_alloc_new wc (Obj.cells #[.int .i64 0, .int .i64 0, .int .i64 0] 88)
      have S := tr_al (Obj.cells #[.int .i64 0, .int .i64 0, .int .i64 0] 88) S
      have N := tr_al (Obj.cells #[.int .i64 0, .int .i64 0, .int .i64 0] 88) N
      have H := tr_al (Obj.cells #[.int .i64 0, .int .i64 0, .int .i64 0] 88) H
      have T := tr_al (Obj.cells #[.int .i64 0, .int .i64 0, .int .i64 0] 88) T
      have D := D.below (blw wc (Obj.cells #[.int .i64 0, .int .i64 0, .int .i64 0] 88))
      have k := k.trans (Kt.of (blw wc (Obj.cells #[.int .i64 0, .int .i64 0, .int .i64 0] 88)) k.bl.size)
      generalize wc.alloc (Obj.cells #[.int .i64 0, .int .i64 0, .int .i64 0] 88) = w8 at *
      generalize wc.heap.size = qm at *
      (try clear m0 m1 m2); (try clear n0 n1 n2); (try clear h0 h1); (try clear t0 t1); (try clear s0 s1 s2 s3 s4); obtain ⟨m0, m1, m2, -, -, -⟩ := tri_cells M; obtain ⟨n0, n1, n2, -, -, -⟩ := tri_cells N; obtain ⟨h0, h1⟩ := two_cells H; obtain ⟨t0, t1⟩ := two_cells T; have s0 := blk_cell S 0 _ rfl; have s1 := blk_cell S 1 _ rfl; have s2 := blk_cell S 2 _ rfl; have s3 := blk_cell S 3 _ rfl; have s4 := blk_cell S 4 _ rfl
      refine wp_seq_k (fun K hK => ?_)
      go_cut [13] (fun v wx => v = .bool (pb && decide (0 < begun)) ∧ wx = w8)
      case first =>
        cases pb
        case false =>
          go_wp2
          go_meet
          exact ⟨rfl, rfl⟩
        case true =>
          go_wp2
          go_meet
          exact ⟨by simp, rfl⟩
      obtain ⟨rfl, rfl⟩ := hcut
      refine hK _ _ ?_; clear hK
      cases hpr : (pb && decide (0 < begun))
      case false =>
        clear hpr
        have hbg := begin_any D k.bl.size (by rw [I.live.w]; simp) 2
        rcases rise_begin I (by omega) with ⟨d', r2, p2, i2, e, hi2, hp2, ha, hb, I'⟩ | ⟨d', e, hg⟩
        · rw [e] at hbg
          simp only at hi2
          have hle : ¬ i2 ≤ ni := by omega
          clear e
          refine wp_seq_k (fun K hK => ?_)
          have HK := Lib.hid hK
          clear hK
          go_wp2_with fail
          refine hbg.mono ?_
          rintro e w9 ⟨rfl, ⟨wv9, D⟩, hk⟩
          (try simp only at D)
          simp only [mV]
          (try simp only [zM])
          replace M := hk.ty _ _ _ M (by decide) (by decide) (by decide); replace S := hk.ty _ _ _ S (by decide) (by decide) (by decide); replace N := hk.ty _ _ _ N (by decide) (by decide) (by decide); replace H := hk.ty _ _ _ H (by decide) (by decide) (by decide); replace T := hk.ty _ _ _ T (by decide) (by decide) (by decide); replace k := k.trans hk; clear hk
          clear hbg
          go_wp2_with ((with_reducible refine wpList_stB 88 _ _ ?_); refine ⟨_, _, _, ⟨_, _, _, Tryd.sizeOf88, rfl, M, st3 _ rfl (r2) (p2) (i2)⟩, ?_⟩; intro wa Ma ga; replace N := tr_st ga N hmn; replace H := tr_ne ga M H (by decide); replace T := tr_ne ga M T (by decide); replace S := tr_ne ga M S (by decide); replace D := D.st ga M; replace k := k.new ga hqm (Nat.le_refl _); replace M := Ma; clear ga Ma; (try clear m0 m1 m2); (try clear n0 n1 n2); (try clear h0 h1); (try clear t0 t1); (try clear s0 s1 s2 s3 s4); obtain ⟨m0, m1, m2, -, -, -⟩ := tri_cells M; obtain ⟨n0, n1, n2, -, -, -⟩ := tri_cells N; obtain ⟨h0, h1⟩ := two_cells H; obtain ⟨t0, t1⟩ := two_cells T; have s0 := blk_cell S 0 _ rfl; have s1 := blk_cell S 1 _ rfl; have s2 := blk_cell S 2 _ rfl; have s3 := blk_cell S 3 _ rfl; have s4 := blk_cell S 4 _ rfl)
          refine HK.out _ _ ?_
          clear HK
          refine wp_seq_k (fun K hK => ?_)
          have HK := Lib.hid hK
          clear hK
          go_wp2
          refine HK.out _ _ ?_
          clear HK
          refine wp_seq_k (fun K hK => ?_)
          have HK := Lib.hid hK
          clear hK
          go_wp2
          refine HK.out _ _ ?_
          clear HK
          have HA := Lib.hid ha
          cases hy : abqB hr hp r2 p2
          case false =>
            have HT := Lib.hid (show abqB tr tp r2 p2 = true by
              rcases hb with h | h
              · rw [hy] at h; cases h
              · exact h)
            have HY := Lib.hid hy
            clear ha hb hy
            refine wp_seq_k (fun K hK => ?_)
            have HK := Lib.hid hK
            clear hK
            go_wp2_with fail
            refine (labove_any (r2) (p2) (hr) (hp) _).mono ?_
            rintro e wb ⟨rfl, hbb⟩
            rw [HA.out]
            replace M := tr_bl hbb M
            replace N := tr_bl hbb N
            replace H := tr_bl hbb H
            replace T := tr_bl hbb T
            replace S := tr_bl hbb S
            replace D := D.below hbb
            replace k := k.trans (Kt.of hbb k.bl.size)
            clear hbb
            (try clear m0 m1 m2); (try clear n0 n1 n2); (try clear h0 h1); (try clear t0 t1); (try clear s0 s1 s2 s3 s4); obtain ⟨m0, m1, m2, -, -, -⟩ := tri_cells M; obtain ⟨n0, n1, n2, -, -, -⟩ := tri_cells N; obtain ⟨h0, h1⟩ := two_cells H; obtain ⟨t0, t1⟩ := two_cells T; have s0 := blk_cell S 0 _ rfl; have s1 := blk_cell S 1 _ rfl; have s2 := blk_cell S 2 _ rfl; have s3 := blk_cell S 3 _ rfl; have s4 := blk_cell S 4 _ rfl
            go_wp2_with fail
            refine (labove_any (hr) (hp) (r2) (p2) _).mono ?_
            rintro e wb ⟨rfl, hbb⟩
            rw [HY.out]
            replace M := tr_bl hbb M
            replace N := tr_bl hbb N
            replace H := tr_bl hbb H
            replace T := tr_bl hbb T
            replace S := tr_bl hbb S
            replace D := D.below hbb
            replace k := k.trans (Kt.of hbb k.bl.size)
            clear hbb
            (try clear m0 m1 m2); (try clear n0 n1 n2); (try clear h0 h1); (try clear t0 t1); (try clear s0 s1 s2 s3 s4); obtain ⟨m0, m1, m2, -, -, -⟩ := tri_cells M; obtain ⟨n0, n1, n2, -, -, -⟩ := tri_cells N; obtain ⟨h0, h1⟩ := two_cells H; obtain ⟨t0, t1⟩ := two_cells T; have s0 := blk_cell S 0 _ rfl; have s1 := blk_cell S 1 _ rfl; have s2 := blk_cell S 2 _ rfl; have s3 := blk_cell S 3 _ rfl; have s4 := blk_cell S 4 _ rfl
            go_wp2_with fail
            refine (labove_any (tr) (tp) (r2) (p2) _).mono ?_
            rintro e wb ⟨rfl, hbb⟩
            rw [HT.out]
            replace M := tr_bl hbb M
            replace N := tr_bl hbb N
            replace H := tr_bl hbb H
            replace T := tr_bl hbb T
            replace S := tr_bl hbb S
            replace D := D.below hbb
            replace k := k.trans (Kt.of hbb k.bl.size)
            clear hbb
            (try clear m0 m1 m2); (try clear n0 n1 n2); (try clear h0 h1); (try clear t0 t1); (try clear s0 s1 s2 s3 s4); obtain ⟨m0, m1, m2, -, -, -⟩ := tri_cells M; obtain ⟨n0, n1, n2, -, -, -⟩ := tri_cells N; obtain ⟨h0, h1⟩ := two_cells H; obtain ⟨t0, t1⟩ := two_cells T; have s0 := blk_cell S 0 _ rfl; have s1 := blk_cell S 1 _ rfl; have s2 := blk_cell S 2 _ rfl; have s3 := blk_cell S 3 _ rfl; have s4 := blk_cell S 4 _ rfl
            go_wp2
            refine HK.out _ _ ?_
            clear HK
            refine wp_seq_k (fun K hK => ?_)
            have HK := Lib.hid hK
            clear hK
            go_wp2_with fail
            refine (labove_any (r2) (p2) (hr) (hp) _).mono ?_
            rintro e wb ⟨rfl, hbb⟩
            rw [HA.out]
            replace M := tr_bl hbb M
            replace N := tr_bl hbb N
            replace H := tr_bl hbb H
            replace T := tr_bl hbb T
            replace S := tr_bl hbb S
            replace D := D.below hbb
            replace k := k.trans (Kt.of hbb k.bl.size)
            clear hbb
            (try clear m0 m1 m2); (try clear n0 n1 n2); (try clear h0 h1); (try clear t0 t1); (try clear s0 s1 s2 s3 s4); obtain ⟨m0, m1, m2, -, -, -⟩ := tri_cells M; obtain ⟨n0, n1, n2, -, -, -⟩ := tri_cells N; obtain ⟨h0, h1⟩ := two_cells H; obtain ⟨t0, t1⟩ := two_cells T; have s0 := blk_cell S 0 _ rfl; have s1 := blk_cell S 1 _ rfl; have s2 := blk_cell S 2 _ rfl; have s3 := blk_cell S 3 _ rfl; have s4 := blk_cell S 4 _ rfl
            go_wp2_with ((with_reducible refine wpList_stB 86 _ _ ?_); refine ⟨_, _, _, ⟨_, _, _, Tryd.sizeOf86, rfl, H, stw2 _ rfl (r2) (p2)⟩, ?_⟩; intro wa Ha ga; replace N := tr_ne ga H N (by decide); replace M := tr_ne ga H M (by decide); replace T := tr_st ga T hht; replace S := tr_ne ga H S (by decide); replace D := D.stB ga H (by decide) (by decide) (by decide); replace k := k.new ga hqh (Nat.le_refl _); replace H := Ha; clear ga Ha; (try clear m0 m1 m2); (try clear n0 n1 n2); (try clear h0 h1); (try clear t0 t1); (try clear s0 s1 s2 s3 s4); obtain ⟨m0, m1, m2, -, -, -⟩ := tri_cells M; obtain ⟨n0, n1, n2, -, -, -⟩ := tri_cells N; obtain ⟨h0, h1⟩ := two_cells H; obtain ⟨t0, t1⟩ := two_cells T; have s0 := blk_cell S 0 _ rfl; have s1 := blk_cell S 1 _ rfl; have s2 := blk_cell S 2 _ rfl; have s3 := blk_cell S 3 _ rfl; have s4 := blk_cell S 4 _ rfl)
            refine HK.out _ _ ?_
            clear HK
            refine wp_seq_k (fun K hK => ?_)
            have HK := Lib.hid hK
            clear hK
            go_wp2_with ((with_reducible refine wpList_stB 88 _ _ ?_); refine ⟨_, _, _, ⟨_, _, _, Tryd.sizeOf88, rfl, N, st3 _ rfl (r2) (p2) (i2)⟩, ?_⟩; intro wa Na ga; replace M := tr_st ga M (Ne.symm hmn); replace H := tr_ne ga N H (by decide); replace T := tr_ne ga N T (by decide); replace S := tr_ne ga N S (by decide); replace D := D.st ga N; replace k := k.new ga hqn (Nat.le_refl _); replace N := Na; clear ga Na; (try clear m0 m1 m2); (try clear n0 n1 n2); (try clear h0 h1); (try clear t0 t1); (try clear s0 s1 s2 s3 s4); obtain ⟨m0, m1, m2, -, -, -⟩ := tri_cells M; obtain ⟨n0, n1, n2, -, -, -⟩ := tri_cells N; obtain ⟨h0, h1⟩ := two_cells H; obtain ⟨t0, t1⟩ := two_cells T; have s0 := blk_cell S 0 _ rfl; have s1 := blk_cell S 1 _ rfl; have s2 := blk_cell S 2 _ rfl; have s3 := blk_cell S 3 _ rfl; have s4 := blk_cell S 4 _ rfl)
            refine HK.out _ _ ?_
            clear HK
            go_wp2
            (try simp only [Exit.inBlock, Exit.then])
            refine HK2.out _ _ ?_
            clear HK2
            go_wp2
            go_roundw
            case rel => exact ⟨j + 1, _, _, ⟨r2, p2, i2⟩, i2, r2, p2, tr, tp, by omega, by go_num, rfl, D, k, N, H, T, I'⟩
            case measure => simp [intOf]; omega
          case true =>
            have HY := Lib.hid hy
            clear ha hb hy
            refine wp_seq_k (fun K hK => ?_)
            have HK := Lib.hid hK
            clear hK
            go_wp2_with fail
            refine (labove_any (r2) (p2) (hr) (hp) _).mono ?_
            rintro e wb ⟨rfl, hbb⟩
            rw [HA.out]
            replace M := tr_bl hbb M
            replace N := tr_bl hbb N
            replace H := tr_bl hbb H
            replace T := tr_bl hbb T
            replace S := tr_bl hbb S
            replace D := D.below hbb
            replace k := k.trans (Kt.of hbb k.bl.size)
            clear hbb
            (try clear m0 m1 m2); (try clear n0 n1 n2); (try clear h0 h1); (try clear t0 t1); (try clear s0 s1 s2 s3 s4); obtain ⟨m0, m1, m2, -, -, -⟩ := tri_cells M; obtain ⟨n0, n1, n2, -, -, -⟩ := tri_cells N; obtain ⟨h0, h1⟩ := two_cells H; obtain ⟨t0, t1⟩ := two_cells T; have s0 := blk_cell S 0 _ rfl; have s1 := blk_cell S 1 _ rfl; have s2 := blk_cell S 2 _ rfl; have s3 := blk_cell S 3 _ rfl; have s4 := blk_cell S 4 _ rfl
            go_wp2_with fail
            refine (labove_any (hr) (hp) (r2) (p2) _).mono ?_
            rintro e wb ⟨rfl, hbb⟩
            rw [HY.out]
            replace M := tr_bl hbb M
            replace N := tr_bl hbb N
            replace H := tr_bl hbb H
            replace T := tr_bl hbb T
            replace S := tr_bl hbb S
            replace D := D.below hbb
            replace k := k.trans (Kt.of hbb k.bl.size)
            clear hbb
            (try clear m0 m1 m2); (try clear n0 n1 n2); (try clear h0 h1); (try clear t0 t1); (try clear s0 s1 s2 s3 s4); obtain ⟨m0, m1, m2, -, -, -⟩ := tri_cells M; obtain ⟨n0, n1, n2, -, -, -⟩ := tri_cells N; obtain ⟨h0, h1⟩ := two_cells H; obtain ⟨t0, t1⟩ := two_cells T; have s0 := blk_cell S 0 _ rfl; have s1 := blk_cell S 1 _ rfl; have s2 := blk_cell S 2 _ rfl; have s3 := blk_cell S 3 _ rfl; have s4 := blk_cell S 4 _ rfl
            go_wp2
            refine HK.out _ _ ?_
            clear HK
            refine wp_seq_k (fun K hK => ?_)
            have HK := Lib.hid hK
            clear hK
            go_wp2_with fail
            refine (labove_any (r2) (p2) (hr) (hp) _).mono ?_
            rintro e wb ⟨rfl, hbb⟩
            rw [HA.out]
            replace M := tr_bl hbb M
            replace N := tr_bl hbb N
            replace H := tr_bl hbb H
            replace T := tr_bl hbb T
            replace S := tr_bl hbb S
            replace D := D.below hbb
            replace k := k.trans (Kt.of hbb k.bl.size)
            clear hbb
            (try clear m0 m1 m2); (try clear n0 n1 n2); (try clear h0 h1); (try clear t0 t1); (try clear s0 s1 s2 s3 s4); obtain ⟨m0, m1, m2, -, -, -⟩ := tri_cells M; obtain ⟨n0, n1, n2, -, -, -⟩ := tri_cells N; obtain ⟨h0, h1⟩ := two_cells H; obtain ⟨t0, t1⟩ := two_cells T; have s0 := blk_cell S 0 _ rfl; have s1 := blk_cell S 1 _ rfl; have s2 := blk_cell S 2 _ rfl; have s3 := blk_cell S 3 _ rfl; have s4 := blk_cell S 4 _ rfl
            go_wp2_with ((with_reducible refine wpList_stB 86 _ _ ?_); refine ⟨_, _, _, ⟨_, _, _, Tryd.sizeOf86, rfl, H, stw2 _ rfl (r2) (p2)⟩, ?_⟩; intro wa Ha ga; replace N := tr_ne ga H N (by decide); replace M := tr_ne ga H M (by decide); replace T := tr_st ga T hht; replace S := tr_ne ga H S (by decide); replace D := D.stB ga H (by decide) (by decide) (by decide); replace k := k.new ga hqh (Nat.le_refl _); replace H := Ha; clear ga Ha; (try clear m0 m1 m2); (try clear n0 n1 n2); (try clear h0 h1); (try clear t0 t1); (try clear s0 s1 s2 s3 s4); obtain ⟨m0, m1, m2, -, -, -⟩ := tri_cells M; obtain ⟨n0, n1, n2, -, -, -⟩ := tri_cells N; obtain ⟨h0, h1⟩ := two_cells H; obtain ⟨t0, t1⟩ := two_cells T; have s0 := blk_cell S 0 _ rfl; have s1 := blk_cell S 1 _ rfl; have s2 := blk_cell S 2 _ rfl; have s3 := blk_cell S 3 _ rfl; have s4 := blk_cell S 4 _ rfl)
            refine HK.out _ _ ?_
            clear HK
            refine wp_seq_k (fun K hK => ?_)
            have HK := Lib.hid hK
            clear hK
            go_wp2_with ((with_reducible refine wpList_stB 88 _ _ ?_); refine ⟨_, _, _, ⟨_, _, _, Tryd.sizeOf88, rfl, N, st3 _ rfl (r2) (p2) (i2)⟩, ?_⟩; intro wa Na ga; replace M := tr_st ga M (Ne.symm hmn); replace H := tr_ne ga N H (by decide); replace T := tr_ne ga N T (by decide); replace S := tr_ne ga N S (by decide); replace D := D.st ga N; replace k := k.new ga hqn (Nat.le_refl _); replace N := Na; clear ga Na; (try clear m0 m1 m2); (try clear n0 n1 n2); (try clear h0 h1); (try clear t0 t1); (try clear s0 s1 s2 s3 s4); obtain ⟨m0, m1, m2, -, -, -⟩ := tri_cells M; obtain ⟨n0, n1, n2, -, -, -⟩ := tri_cells N; obtain ⟨h0, h1⟩ := two_cells H; obtain ⟨t0, t1⟩ := two_cells T; have s0 := blk_cell S 0 _ rfl; have s1 := blk_cell S 1 _ rfl; have s2 := blk_cell S 2 _ rfl; have s3 := blk_cell S 3 _ rfl; have s4 := blk_cell S 4 _ rfl)
            refine HK.out _ _ ?_
            clear HK
            go_wp2
            (try simp only [Exit.inBlock, Exit.then])
            refine HK2.out _ _ ?_
            clear HK2
            go_wp2
            go_roundw
            case rel => exact ⟨j + 1, _, _, ⟨r2, p2, i2⟩, i2, r2, p2, tr, tp, by omega, by go_num, rfl, D, k, N, H, T, I'⟩
            case measure => simp [intOf]; omega
        · rw [e] at hbg
          clear e
          obtain ⟨d8, d9, q1, q2, I'⟩ := hg keep
          have HQ1 := Lib.hid q1
          have HQ2 := Lib.hid q2
          clear q1 q2 hg
          refine wp_seq_k (fun K hK => ?_)
          have HK := Lib.hid hK
          clear hK
          go_wp2_with fail
          refine hbg.mono ?_
          rintro e w9 ⟨rfl, ⟨wv9, D⟩, hk⟩
          (try simp only at D)
          simp only [mV]
          (try simp only [zM])
          replace M := hk.ty _ _ _ M (by decide) (by decide) (by decide); replace S := hk.ty _ _ _ S (by decide) (by decide) (by decide); replace N := hk.ty _ _ _ N (by decide) (by decide) (by decide); replace H := hk.ty _ _ _ H (by decide) (by decide) (by decide); replace T := hk.ty _ _ _ T (by decide) (by decide) (by decide); replace k := k.trans hk; clear hk
          clear hbg
          go_wp2_with ((with_reducible refine wpList_stB 88 _ _ ?_); refine ⟨_, _, _, ⟨_, _, _, Tryd.sizeOf88, rfl, M, st3 _ rfl (0) (0) (0)⟩, ?_⟩; intro wa Ma ga; replace N := tr_st ga N hmn; replace H := tr_ne ga M H (by decide); replace T := tr_ne ga M T (by decide); replace S := tr_ne ga M S (by decide); replace D := D.st ga M; replace k := k.new ga hqm (Nat.le_refl _); replace M := Ma; clear ga Ma; (try clear m0 m1 m2); (try clear n0 n1 n2); (try clear h0 h1); (try clear t0 t1); (try clear s0 s1 s2 s3 s4); obtain ⟨m0, m1, m2, -, -, -⟩ := tri_cells M; obtain ⟨n0, n1, n2, -, -, -⟩ := tri_cells N; obtain ⟨h0, h1⟩ := two_cells H; obtain ⟨t0, t1⟩ := two_cells T; have s0 := blk_cell S 0 _ rfl; have s1 := blk_cell S 1 _ rfl; have s2 := blk_cell S 2 _ rfl; have s3 := blk_cell S 3 _ rfl; have s4 := blk_cell S 4 _ rfl)
          refine HK.out _ _ ?_
          clear HK
          have hcr := crash_any D k.bl.size ka kc keep (fun w' hk' => HR w' (k.trans hk'))
          rw [HQ1.out] at hcr
          go_wp2_with fail
          refine hcr.mono ?_
          rintro e wb ⟨rfl, ⟨wvb, D⟩, hk⟩
          (try simp only at D)
          replace M := hk.ty _ _ _ M (by decide) (by decide) (by decide); replace S := hk.ty _ _ _ S (by decide) (by decide) (by decide); replace N := hk.ty _ _ _ N (by decide) (by decide) (by decide); replace H := hk.ty _ _ _ H (by decide) (by decide) (by decide); replace T := hk.ty _ _ _ T (by decide) (by decide) (by decide); replace k := k.trans hk; clear hk
          have hsa := start_any D
          rw [HQ2.out] at hsa
          clear hcr
          go_wp2_with fail
          refine hsa.mono ?_
          rintro e wc ⟨rfl, D, hk⟩
          (try simp only at D)
          replace M := hk.ty _ _ _ M (by decide) (by decide) (by decide); replace S := hk.ty _ _ _ S (by decide) (by decide) (by decide); replace N := hk.ty _ _ _ N (by decide) (by decide) (by decide); replace H := hk.ty _ _ _ H (by decide) (by decide) (by decide); replace T := hk.ty _ _ _ T (by decide) (by decide) (by decide); replace k := k.trans hk; clear hk
          clear hsa
          go_wp2
          (try simp only [Exit.inBlock, Exit.then])
          refine HK2.out _ _ ?_
          clear HK2
          go_wp2
          go_roundw
          case rel => exact ⟨j + 1, _, _, ⟨nr, np, ni⟩, 0, hr, hp, tr, tp, by omega, by go_num, rfl, D, k, N, H, T, I'⟩
          case measure => simp [intOf]; omega
      case true =>
        have hb0 : 0 < begun := by
          rw [Bool.and_eq_true, decide_eq_true_eq] at hpr
          exact hpr.2
        clear hpr
        have hbg := prom_any D k.bl.size (by rw [I.live.w]; simp) 2 nr np ni r p
        rcases rise_prom I (by omega) hb0 r p with e | ⟨d', e, hbe, ha, I'⟩ | ⟨d', e, hg⟩
        · rw [e] at hbg
          clear e
          refine wp_seq_k (fun K hK => ?_)
          have HK := Lib.hid hK
          clear hK
          go_wp2_with fail
          refine hbg.mono ?_
          rintro e w9 ⟨rfl, ⟨wv9, D⟩, hk⟩
          (try simp only at D)
          simp only [mV]
          (try simp only [zM])
          replace M := hk.ty _ _ _ M (by decide) (by decide) (by decide); replace S := hk.ty _ _ _ S (by decide) (by decide) (by decide); replace N := hk.ty _ _ _ N (by decide) (by decide) (by decide); replace H := hk.ty _ _ _ H (by decide) (by decide) (by decide); replace T := hk.ty _ _ _ T (by decide) (by decide) (by decide); replace k := k.trans hk; clear hk
          clear hbg
          go_wp2_with ((with_reducible refine wpList_stB 88 _ _ ?_); refine ⟨_, _, _, ⟨_, _, _, Tryd.sizeOf88, rfl, M, st3 _ rfl (0) (0) (0)⟩, ?_⟩; intro wa Ma ga; replace N := tr_st ga N hmn; replace H := tr_ne ga M H (by decide); replace T := tr_ne ga M T (by decide); replace S := tr_ne ga M S (by decide); replace D := D.st ga M; replace k := k.new ga hqm (Nat.le_refl _); replace M := Ma; clear ga Ma; (try clear m0 m1 m2); (try clear n0 n1 n2); (try clear h0 h1); (try clear t0 t1); (try clear s0 s1 s2 s3 s4); obtain ⟨m0, m1, m2, -, -, -⟩ := tri_cells M; obtain ⟨n0, n1, n2, -, -, -⟩ := tri_cells N; obtain ⟨h0, h1⟩ := two_cells H; obtain ⟨t0, t1⟩ := two_cells T; have s0 := blk_cell S 0 _ rfl; have s1 := blk_cell S 1 _ rfl; have s2 := blk_cell S 2 _ rfl; have s3 := blk_cell S 3 _ rfl; have s4 := blk_cell S 4 _ rfl)
          refine HK.out _ _ ?_
          clear HK
          refine wp_seq_k (fun K hK => ?_)
          have HK := Lib.hid hK
          clear hK
          go_wp2
          refine HK.out _ _ ?_
          clear HK
          go_wp2
          (try simp only [Exit.inBlock, Exit.then])
          refine HK2.out _ _ ?_
          clear HK2
          go_wp2
          go_roundw
          case rel => exact ⟨j + 1, _, _, ⟨nr, np, ni⟩, begun, hr, hp, tr, tp, by omega, by go_num, rfl, D, k, N, H, T, I.more⟩
          case measure => simp [intOf]; omega
        · rw [e] at hbg
          simp only at hbe I'
          clear e
          refine wp_seq_k (fun K hK => ?_)
          have HK := Lib.hid hK
          clear hK
          go_wp2_with fail
          refine hbg.mono ?_
          rintro e w9 ⟨rfl, ⟨wv9, D⟩, hk⟩
          (try simp only at D)
          simp only [mV]
          (try simp only [zM])
          replace M := hk.ty _ _ _ M (by decide) (by decide) (by decide); replace S := hk.ty _ _ _ S (by decide) (by decide) (by decide); replace N := hk.ty _ _ _ N (by decide) (by decide) (by decide); replace H := hk.ty _ _ _ H (by decide) (by decide) (by decide); replace T := hk.ty _ _ _ T (by decide) (by decide) (by decide); replace k := k.trans hk; clear hk
          clear hbg
          go_wp2_with ((with_reducible refine wpList_stB 88 _ _ ?_); refine ⟨_, _, _, ⟨_, _, _, Tryd.sizeOf88, rfl, M, st3 _ rfl (r) (p) (ni)⟩, ?_⟩; intro wa Ma ga; replace N := tr_st ga N hmn; replace H := tr_ne ga M H (by decide); replace T := tr_ne ga M T (by decide); replace S := tr_ne ga M S (by decide); replace D := D.st ga M; replace k := k.new ga hqm (Nat.le_refl _); replace M := Ma; clear ga Ma; (try clear m0 m1 m2); (try clear n0 n1 n2); (try clear h0 h1); (try clear t0 t1); (try clear s0 s1 s2 s3 s4); obtain ⟨m0, m1, m2, -, -, -⟩ := tri_cells M; obtain ⟨n0, n1, n2, -, -, -⟩ := tri_cells N; obtain ⟨h0, h1⟩ := two_cells H; obtain ⟨t0, t1⟩ := two_cells T; have s0 := blk_cell S 0 _ rfl; have s1 := blk_cell S 1 _ rfl; have s2 := blk_cell S 2 _ rfl; have s3 := blk_cell S 3 _ rfl; have s4 := blk_cell S 4 _ rfl)
          refine HK.out _ _ ?_
          clear HK
          refine wp_seq_k (fun K hK => ?_)
          have HK := Lib.hid hK
          clear hK
          go_wp2
          refine HK.out _ _ ?_
          clear HK
          refine wp_seq_k (fun K hK => ?_)
          have HK := Lib.hid hK
          clear hK
          go_wp2
          refine HK.out _ _ ?_
          clear HK
          have HA := Lib.hid ha
          have HF := Lib.hid (abq_refl r p)
          clear ha hbe
          refine wp_seq_k (fun K hK => ?_)
          have HK := Lib.hid hK
          clear hK
          go_wp2_with fail
          refine (labove_any (r) (p) (hr) (hp) _).mono ?_
          rintro e wb ⟨rfl, hbb⟩
          rw [HA.out]
          replace M := tr_bl hbb M
          replace N := tr_bl hbb N
          replace H := tr_bl hbb H
          replace T := tr_bl hbb T
          replace S := tr_bl hbb S
          replace D := D.below hbb
          replace k := k.trans (Kt.of hbb k.bl.size)
          clear hbb
          (try clear m0 m1 m2); (try clear n0 n1 n2); (try clear h0 h1); (try clear t0 t1); (try clear s0 s1 s2 s3 s4); obtain ⟨m0, m1, m2, -, -, -⟩ := tri_cells M; obtain ⟨n0, n1, n2, -, -, -⟩ := tri_cells N; obtain ⟨h0, h1⟩ := two_cells H; obtain ⟨t0, t1⟩ := two_cells T; have s0 := blk_cell S 0 _ rfl; have s1 := blk_cell S 1 _ rfl; have s2 := blk_cell S 2 _ rfl; have s3 := blk_cell S 3 _ rfl; have s4 := blk_cell S 4 _ rfl
          go_wp2_with ((with_reducible refine wpList_stB 86 _ _ ?_); refine ⟨_, _, _, ⟨_, _, _, Tryd.sizeOf86, rfl, H, stw2 _ rfl (r) (p)⟩, ?_⟩; intro wa Ha ga; replace N := tr_ne ga H N (by decide); replace M := tr_ne ga H M (by decide); replace T := tr_st ga T hht; replace S := tr_ne ga H S (by decide); replace D := D.stB ga H (by decide) (by decide) (by decide); replace k := k.new ga hqh (Nat.le_refl _); replace H := Ha; clear ga Ha; (try clear m0 m1 m2); (try clear n0 n1 n2); (try clear h0 h1); (try clear t0 t1); (try clear s0 s1 s2 s3 s4); obtain ⟨m0, m1, m2, -, -, -⟩ := tri_cells M; obtain ⟨n0, n1, n2, -, -, -⟩ := tri_cells N; obtain ⟨h0, h1⟩ := two_cells H; obtain ⟨t0, t1⟩ := two_cells T; have s0 := blk_cell S 0 _ rfl; have s1 := blk_cell S 1 _ rfl; have s2 := blk_cell S 2 _ rfl; have s3 := blk_cell S 3 _ rfl; have s4 := blk_cell S 4 _ rfl)
          refine HK.out _ _ ?_
          clear HK
          refine wp_seq_k (fun K hK => ?_)
          have HK := Lib.hid hK
          clear hK
          go_wp2_with fail
          refine (labove_any (r) (p) (r) (p) _).mono ?_
          rintro e wb ⟨rfl, hbb⟩
          rw [HF.out]
          replace M := tr_bl hbb M
          replace N := tr_bl hbb N
          replace H := tr_bl hbb H
          replace T := tr_bl hbb T
          replace S := tr_bl hbb S
          replace D := D.below hbb
          replace k := k.trans (Kt.of hbb k.bl.size)
          clear hbb
          (try clear m0 m1 m2); (try clear n0 n1 n2); (try clear h0 h1); (try clear t0 t1); (try clear s0 s1 s2 s3 s4); obtain ⟨m0, m1, m2, -, -, -⟩ := tri_cells M; obtain ⟨n0, n1, n2, -, -, -⟩ := tri_cells N; obtain ⟨h0, h1⟩ := two_cells H; obtain ⟨t0, t1⟩ := two_cells T; have s0 := blk_cell S 0 _ rfl; have s1 := blk_cell S 1 _ rfl; have s2 := blk_cell S 2 _ rfl; have s3 := blk_cell S 3 _ rfl; have s4 := blk_cell S 4 _ rfl
          go_wp2_with ((with_reducible refine wpList_stB 86 _ _ ?_); refine ⟨_, _, _, ⟨_, _, _, Tryd.sizeOf86, rfl, H, stw2 _ rfl (r) (p)⟩, ?_⟩; intro wa Ha ga; replace N := tr_ne ga H N (by decide); replace M := tr_ne ga H M (by decide); replace T := tr_st ga T hht; replace S := tr_ne ga H S (by decide); replace D := D.stB ga H (by decide) (by decide) (by decide); replace k := k.new ga hqh (Nat.le_refl _); replace H := Ha; clear ga Ha; (try clear m0 m1 m2); (try clear n0 n1 n2); (try clear h0 h1); (try clear t0 t1); (try clear s0 s1 s2 s3 s4); obtain ⟨m0, m1, m2, -, -, -⟩ := tri_cells M; obtain ⟨n0, n1, n2, -, -, -⟩ := tri_cells N; obtain ⟨h0, h1⟩ := two_cells H; obtain ⟨t0, t1⟩ := two_cells T; have s0 := blk_cell S 0 _ rfl; have s1 := blk_cell S 1 _ rfl; have s2 := blk_cell S 2 _ rfl; have s3 := blk_cell S 3 _ rfl; have s4 := blk_cell S 4 _ rfl)
          refine HK.out _ _ ?_
          clear HK
          refine wp_seq_k (fun K hK => ?_)
          have HK := Lib.hid hK
          clear hK
          go_wp2_with ((with_reducible refine wpList_stB 88 _ _ ?_); refine ⟨_, _, _, ⟨_, _, _, Tryd.sizeOf88, rfl, N, st3 _ rfl (r) (p) (ni)⟩, ?_⟩; intro wa Na ga; replace M := tr_st ga M (Ne.symm hmn); replace H := tr_ne ga N H (by decide); replace T := tr_ne ga N T (by decide); replace S := tr_ne ga N S (by decide); replace D := D.st ga N; replace k := k.new ga hqn (Nat.le_refl _); replace N := Na; clear ga Na; (try clear m0 m1 m2); (try clear n0 n1 n2); (try clear h0 h1); (try clear t0 t1); (try clear s0 s1 s2 s3 s4); obtain ⟨m0, m1, m2, -, -, -⟩ := tri_cells M; obtain ⟨n0, n1, n2, -, -, -⟩ := tri_cells N; obtain ⟨h0, h1⟩ := two_cells H; obtain ⟨t0, t1⟩ := two_cells T; have s0 := blk_cell S 0 _ rfl; have s1 := blk_cell S 1 _ rfl; have s2 := blk_cell S 2 _ rfl; have s3 := blk_cell S 3 _ rfl; have s4 := blk_cell S 4 _ rfl)
          refine HK.out _ _ ?_
          clear HK
          go_wp2
          (try simp only [Exit.inBlock, Exit.then])
          refine HK2.out _ _ ?_
          clear HK2
          go_wp2
          go_roundw
          case rel => exact ⟨j + 1, _, _, ⟨r, p, ni⟩, ni, r, p, tr, tp, by omega, by go_num, rfl, D, k, N, H, T, I'⟩
          case measure => simp [intOf]; omega
        · rw [e] at hbg
          clear e
          obtain ⟨d8, d9, q1, q2, I'⟩ := hg keep
          have HQ1 := Lib.hid q1
          have HQ2 := Lib.hid q2
          clear q1 q2 hg
          refine wp_seq_k (fun K hK => ?_)
          have HK := Lib.hid hK
          clear hK
          go_wp2_with fail
          refine hbg.mono ?_
          rintro e w9 ⟨rfl, ⟨wv9, D⟩, hk⟩
          (try simp only at D)
          simp only [mV]
          (try simp only [zM])
          replace M := hk.ty _ _ _ M (by decide) (by decide) (by decide); replace S := hk.ty _ _ _ S (by decide) (by decide) (by decide); replace N := hk.ty _ _ _ N (by decide) (by decide) (by decide); replace H := hk.ty _ _ _ H (by decide) (by decide) (by decide); replace T := hk.ty _ _ _ T (by decide) (by decide) (by decide); replace k := k.trans hk; clear hk
          clear hbg
          go_wp2_with ((with_reducible refine wpList_stB 88 _ _ ?_); refine ⟨_, _, _, ⟨_, _, _, Tryd.sizeOf88, rfl, M, st3 _ rfl (0) (0) (0)⟩, ?_⟩; intro wa Ma ga; replace N := tr_st ga N hmn; replace H := tr_ne ga M H (by decide); replace T := tr_ne ga M T (by decide); replace S := tr_ne ga M S (by decide); replace D := D.st ga M; replace k := k.new ga hqm (Nat.le_refl _); replace M := Ma; clear ga Ma; (try clear m0 m1 m2); (try clear n0 n1 n2); (try clear h0 h1); (try clear t0 t1); (try clear s0 s1 s2 s3 s4); obtain ⟨m0, m1, m2, -, -, -⟩ := tri_cells M; obtain ⟨n0, n1, n2, -, -, -⟩ := tri_cells N; obtain ⟨h0, h1⟩ := two_cells H; obtain ⟨t0, t1⟩ := two_cells T; have s0 := blk_cell S 0 _ rfl; have s1 := blk_cell S 1 _ rfl; have s2 := blk_cell S 2 _ rfl; have s3 := blk_cell S 3 _ rfl; have s4 := blk_cell S 4 _ rfl)
          refine HK.out _ _ ?_
          clear HK
          cases hy : abqB r p tr tp
          case false =>
            have I' := I'.2 hy
            have HY := Lib.hid hy
            clear hy
            go_wp2_with fail
            refine (labove_any (r) (p) (tr) (tp) _).mono ?_
            rintro e wb ⟨rfl, hbb⟩
            rw [HY.out]
            replace M := tr_bl hbb M
            replace N := tr_bl hbb N
            replace H := tr_bl hbb H
            replace T := tr_bl hbb T
            replace S := tr_bl hbb S
            replace D := D.below hbb
            replace k := k.trans (Kt.of hbb k.bl.size)
            clear hbb
            (try clear m0 m1 m2); (try clear n0 n1 n2); (try clear h0 h1); (try clear t0 t1); (try clear s0 s1 s2 s3 s4); obtain ⟨m0, m1, m2, -, -, -⟩ := tri_cells M; obtain ⟨n0, n1, n2, -, -, -⟩ := tri_cells N; obtain ⟨h0, h1⟩ := two_cells H; obtain ⟨t0, t1⟩ := two_cells T; have s0 := blk_cell S 0 _ rfl; have s1 := blk_cell S 1 _ rfl; have s2 := blk_cell S 2 _ rfl; have s3 := blk_cell S 3 _ rfl; have s4 := blk_cell S 4 _ rfl
            have hcr := crash_any D k.bl.size ka kc keep (fun w' hk' => HR w' (k.trans hk'))
            rw [HQ1.out] at hcr
            go_wp2_with fail
            refine hcr.mono ?_
            rintro e wb ⟨rfl, ⟨wvb, D⟩, hk⟩
            (try simp only at D)
            replace M := hk.ty _ _ _ M (by decide) (by decide) (by decide); replace S := hk.ty _ _ _ S (by decide) (by decide) (by decide); replace N := hk.ty _ _ _ N (by decide) (by decide) (by decide); replace H := hk.ty _ _ _ H (by decide) (by decide) (by decide); replace T := hk.ty _ _ _ T (by decide) (by decide) (by decide); replace k := k.trans hk; clear hk
            have hsa := start_any D
            rw [HQ2.out] at hsa
            clear hcr
            go_wp2_with fail
            refine hsa.mono ?_
            rintro e wc ⟨rfl, D, hk⟩
            (try simp only at D)
            replace M := hk.ty _ _ _ M (by decide) (by decide) (by decide); replace S := hk.ty _ _ _ S (by decide) (by decide) (by decide); replace N := hk.ty _ _ _ N (by decide) (by decide) (by decide); replace H := hk.ty _ _ _ H (by decide) (by decide) (by decide); replace T := hk.ty _ _ _ T (by decide) (by decide) (by decide); replace k := k.trans hk; clear hk
            clear hsa
            go_wp2
            (try simp only [Exit.inBlock, Exit.then])
            refine HK2.out _ _ ?_
            clear HK2
            go_wp2
            go_roundw
            case rel => exact ⟨j + 1, _, _, ⟨nr, np, ni⟩, 0, hr, hp, tr, tp, by omega, by go_num, rfl, D, k, N, H, T, I'⟩
            case measure => simp [intOf]; omega
          case true =>
            have I' := I'.1 hy
            have HY := Lib.hid hy
            clear hy
            go_wp2_with fail
            refine (labove_any (r) (p) (tr) (tp) _).mono ?_
            rintro e wb ⟨rfl, hbb⟩
            rw [HY.out]
            replace M := tr_bl hbb M
            replace N := tr_bl hbb N
            replace H := tr_bl hbb H
            replace T := tr_bl hbb T
            replace S := tr_bl hbb S
            replace D := D.below hbb
            replace k := k.trans (Kt.of hbb k.bl.size)
            clear hbb
            (try clear m0 m1 m2); (try clear n0 n1 n2); (try clear h0 h1); (try clear t0 t1); (try clear s0 s1 s2 s3 s4); obtain ⟨m0, m1, m2, -, -, -⟩ := tri_cells M; obtain ⟨n0, n1, n2, -, -, -⟩ := tri_cells N; obtain ⟨h0, h1⟩ := two_cells H; obtain ⟨t0, t1⟩ := two_cells T; have s0 := blk_cell S 0 _ rfl; have s1 := blk_cell S 1 _ rfl; have s2 := blk_cell S 2 _ rfl; have s3 := blk_cell S 3 _ rfl; have s4 := blk_cell S 4 _ rfl
            go_wp2_with ((with_reducible refine wpList_stB 86 _ _ ?_); refine ⟨_, _, _, ⟨_, _, _, Tryd.sizeOf86, rfl, T, stw2 _ rfl (r) (p)⟩, ?_⟩; intro wa Ta ga; replace N := tr_ne ga T N (by decide); replace M := tr_ne ga T M (by decide); replace H := tr_st ga H (Ne.symm hht); replace S := tr_ne ga T S (by decide); replace D := D.stB ga T (by decide) (by decide) (by decide); replace k := k.new ga hqt' (Nat.le_refl _); replace T := Ta; clear ga Ta; (try clear m0 m1 m2); (try clear n0 n1 n2); (try clear h0 h1); (try clear t0 t1); (try clear s0 s1 s2 s3 s4); obtain ⟨m0, m1, m2, -, -, -⟩ := tri_cells M; obtain ⟨n0, n1, n2, -, -, -⟩ := tri_cells N; obtain ⟨h0, h1⟩ := two_cells H; obtain ⟨t0, t1⟩ := two_cells T; have s0 := blk_cell S 0 _ rfl; have s1 := blk_cell S 1 _ rfl; have s2 := blk_cell S 2 _ rfl; have s3 := blk_cell S 3 _ rfl; have s4 := blk_cell S 4 _ rfl)
            have hcr := crash_any D k.bl.size ka kc keep (fun w' hk' => HR w' (k.trans hk'))
            rw [HQ1.out] at hcr
            refine hcr.mono ?_
            rintro e wb ⟨rfl, ⟨wvb, D⟩, hk⟩
            (try simp only at D)
            replace M := hk.ty _ _ _ M (by decide) (by decide) (by decide); replace S := hk.ty _ _ _ S (by decide) (by decide) (by decide); replace N := hk.ty _ _ _ N (by decide) (by decide) (by decide); replace H := hk.ty _ _ _ H (by decide) (by decide) (by decide); replace T := hk.ty _ _ _ T (by decide) (by decide) (by decide); replace k := k.trans hk; clear hk
            have hsa := start_any D
            rw [HQ2.out] at hsa
            clear hcr
            go_wp2_with fail
            refine hsa.mono ?_
            rintro e wc ⟨rfl, D, hk⟩
            (try simp only at D)
            replace M := hk.ty _ _ _ M (by decide) (by decide) (by decide); replace S := hk.ty _ _ _ S (by decide) (by decide) (by decide); replace N := hk.ty _ _ _ N (by decide) (by decide) (by decide); replace H := hk.ty _ _ _ H (by decide) (by decide) (by decide); replace T := hk.ty _ _ _ T (by decide) (by decide) (by decide); replace k := k.trans hk; clear hk
            clear hsa
            go_wp2
            (try simp only [Exit.inBlock, Exit.then])
            refine HK2.out _ _ ?_
            clear HK2
            go_wp2
            go_roundw
            case rel => exact ⟨j + 1, _, _, ⟨nr, np, ni⟩, 0, hr, hp, r, p, by omega, by go_num, rfl, D, k, N, H, T, I'⟩
            case measure => simp [intOf]; omega
end Go.Proofs.YtejjneamngkmoaaDoor

namespace Go.Proofs.YtejjneamngkmoaaDoor
open Go.ChangeShapes Go.WideShapes Go.ChangeAt Go.RowKit

set_option maxRecDepth 100000 in
theorem bools_of {H : Type} {enc : TypeId × Value → H} {W : World} {sp : Nat → Bool} {hd : Bool} {b0 fuel : Nat} {v : Value} {x : DataW H × List MemPlace} (h : DataW.trod enc Tryd.prog W b0 sp hd fuel 47 [v] = some x) : ∃ (a : Option Addr) (l : List Bool) (cap : Nat), v = .slice a l.length cap ∧ Row W a (l.map Value.bool) := by
  rcases Go.Deep.open_slice1 Tryd.underlying47 cellsBl h with ⟨hcs, hx⟩ | ⟨a, len', cap', m, n, V, D, Pl, hcs, _, hl, hm, hmm, hx, hel⟩
  · simp only [List.cons.injEq, and_true] at hcs
    subst hcs
    exact ⟨none, [], 0, rfl, .inl rfl⟩
  · simp only [List.cons.injEq, and_true] at hcs
    subst hcs
    have hlm : len' ≤ m := by rw [hmm]; split <;> omega
    have hex : ∀ i, i < len' → ∃ y : Bool, W.cell? (a.add i) = some (.bool y) := by
      intro i hi
      obtain ⟨hc, ht⟩ := hel i (by omega)
      obtain ⟨y, e⟩ := bool_of ht
      exact ⟨y, by rw [hc, e]⟩
    obtain ⟨f, hf2⟩ := Go.Deep.choose_lt hex
    refine ⟨some a, (List.range len').map f, cap', by simp, ?_⟩
    by_cases h0 : len' = 0
    · left
      subst h0
      rfl
    · right
      obtain ⟨b, off, spot⟩ := a
      have hspot : spot = none := by
        have := World.cell?_spot (hf2 0 (by omega))
        simpa [Addr.add] using this
      subst hspot
      refine ⟨b, off, rfl, fun i u hu => ?_⟩
      have hi := (List.getElem?_eq_some_iff.1 hu).1
      simp only [List.length_map, List.length_range] at hi
      have := hf2 i hi
      rw [addr_add] at this
      rw [this]
      simp only [List.map_map, List.getElem?_map, List.getElem?_range hi, Option.map_some, Function.comp] at hu
      exact hu
theorem cellsI8 : Tryd.prog.cellsOf 100 = 1 := by kernel_rfl
theorem cellsBls : Tryd.prog.cellsOf 47 = 1 := by kernel_rfl
theorem cellsStep : Tryd.prog.cellsOf 102 = 5 := by kernel_rfl
theorem list5 {α : Type} {l : List α} (h : l.length = 5) : ∃ a b c d e, l = [a, b, c, d, e] := by
  match l, h with
  | [a, b, c, d, e], _ => exact ⟨a, b, c, d, e, rfl⟩
def stC (s : Stp) : List Value := [.bool s.pb, .int .i64 s.r, .int .i64 s.p, .int .i8 s.x, .slice s.ka s.keep.length s.kc]
theorem i8_of {H : Type} {enc : TypeId × Value → H} {W : World} {sp : Nat → Bool} {hd : Bool} {b0 fuel : Nat} {v : Value} {x : DataW H × List MemPlace} (h : DataW.trod enc Tryd.prog W b0 sp hd fuel 100 [v] = some x) : ∃ n : Int, v = .int .i8 n ∧ -128 ≤ n ∧ n ≤ 127 := by
  obtain ⟨y, q, _, h2⟩ := DataW.trod_int Tryd.underlying100 h
  simp at q
  subst q
  have m0 : IntKind.i8.min = -128 := by decide
  have m1 : IntKind.i8.max = 127 := by decide
  replace h2 : (decide (IntKind.i8.min ≤ y) && decide (y ≤ IntKind.i8.max)) = true := h2
  rw [m0, m1, Bool.and_eq_true, decide_eq_true_eq, decide_eq_true_eq] at h2
  exact ⟨y, rfl, h2.1, h2.2⟩
set_option maxRecDepth 100000 in
theorem step_of {H : Type} {enc : TypeId × Value → H} {W : World} {sp : Nat → Bool} {hd : Bool} {b0 fuel : Nat} {cs : List Value} {x : DataW H × List MemPlace}
    (h : DataW.trod enc Tryd.prog W b0 sp hd fuel 102 cs = some x) : ∃ s : Stp, cs = stC s ∧ Row W s.ka (s.keep.map Value.bool) ∧ -128 ≤ s.x ∧ s.x ≤ 127 := by
  obtain ⟨y0, y1, y2, y3, n, _, hl, h0, h1, h2, h3⟩ := Go.Joins.trod_struct4 Tryd.underlying102 h
  rw [cellsStep] at hl
  obtain ⟨a0, a1, a2, a3, a4, rfl⟩ := list5 hl
  simp [cellsBl, cellsBallot, cellsI8, cellsBls] at h0 h1 h2 h3
  obtain ⟨z, rfl⟩ := bool_of h0
  obtain ⟨s, t, rfl, rfl⟩ := bal_of h1
  obtain ⟨q, rfl, q1, q2⟩ := i8_of h2
  obtain ⟨ka, kl, kc, rfl, hk⟩ := bools_of h3
  exact ⟨⟨z, s, t, q, ka, kl, kc⟩, rfl, hk, q1, q2⟩
set_option maxRecDepth 100000 in
theorem open_steps {H : Type} {enc : TypeId × Value → H} {W : World} {base : Nat} {sp : Nat → Bool} {hd : Bool} {b0 : Nat} {v : Value} {d : DataW H} {p : List MemPlace}
    (hv : Value.okWide Tryd.prog W .any base 99 v) (h : DataW.Trod enc Tryd.prog W b0 sp hd 99 v d p) : ∃ (a : Option Addr) (l : List Stp) (cap : Nat), v = .slice a l.length cap ∧ Stps W a l := by
  obtain ⟨a0, len, cap, rfl⟩ := okWide_slice Tryd.underlying99 hv
  obtain ⟨fuel, hf⟩ := h
  rcases Go.Deep.open_slice Tryd.underlying99 hf with ⟨hcs, hx⟩ | ⟨a, len', cap', m, n, D, Pl, hcs, _, hl, hm, hmm, hx, hel⟩
  · simp [Value.cells] at hcs
    obtain ⟨rfl, rfl, rfl⟩ := hcs
    exact ⟨none, [], 0, rfl, ⟨fun j hj => by simp at hj⟩⟩
  · simp [Value.cells] at hcs
    obtain ⟨rfl, rfl, rfl⟩ := hcs
    have hlm : len ≤ m := by rw [hmm]; split <;> omega
    have hex : ∀ i, i < len → ∃ s : Stp, (∀ r u, (stC s)[r]? = some u → W.cell? (a.add (i * 5 + r)) = some u) ∧ Row W s.ka (s.keep.map Value.bool) ∧ -128 ≤ s.x ∧ s.x ≤ 127 := by
      intro i hi
      obtain ⟨cs', hc, ht⟩ := hel i (by omega)
      rw [cellsStep] at hc
      obtain ⟨_, hlen2, hat⟩ := World.cells?_some hc
      obtain ⟨s, rfl, h2, h3, h4⟩ := step_of ht
      refine ⟨s, fun r u hr => ?_, h2, h3, h4⟩
      have hlt := (List.getElem?_eq_some_iff.1 hr).1
      have := hat r (by simpa [stC] using hlt)
      rw [Go.Deep.add_add] at this
      rw [this, ← hr, List.getElem?_eq_getElem hlt]
    have : Inhabited Stp := ⟨⟨false, 0, 0, 0, none, [], 0⟩⟩
    obtain ⟨f, hf2⟩ := Go.Deep.choose_lt hex
    refine ⟨some a, (List.range len).map f, cap, by simp, ⟨fun j hj => ?_⟩⟩
    simp only [List.length_map, List.length_range] at hj
    obtain ⟨b, off, spot⟩ := a
    have hspot : spot = none := by
      have := World.cell?_spot ((hf2 0 (by omega)).1 0 _ rfl)
      simpa [Addr.add] using this
    subst hspot
    obtain ⟨h1, h2, h3, h4⟩ := hf2 j hj
    simp only [addr_add] at h1
    simp only [List.getElem_map, List.getElem_range]
    exact ⟨b, off, rfl, h1 0 _ rfl, h1 1 _ rfl, h1 2 _ rfl, h1 3 _ rfl, h1 4 _ rfl, h2, h3, h4⟩
end Go.Proofs.YtejjneamngkmoaaDoor

