/- Texts that the claim leans on, part 8: L6, L7a, L7, L8, L9, L10, L11, Stru. -/
import Derived.Test.YtaojblejnpemkaaDoorZ1
import Derived.Test.YtaojblejnpemkaaDoorZ2
import Derived.Test.YtaojblejnpemkaaDoorZ3
import Derived.Test.YtaojblejnpemkaaDoorZ4
import Derived.Test.YtaojblejnpemkaaDoorZ5
import Derived.Test.YtaojblejnpemkaaDoorZ6
import Derived.Test.YtaojblejnpemkaaDoorZ7
import Derived.Test.YtaojblejnpemkaaDoorRows
import Derived.WalkKit
import Derived.WalkSpells
import Derived.WalkLawsBesides
import Derived.Handy
import Derived.Deep.QuietTactic
import Derived.BigQuiet
import Derived.Deep.DeepCutAuto
import Derived.Lib.Hide
import Derived.RegionTactic
import Derived.ChangeAlike
import Derived.Laws.ResultCell
import Derived.Outline
import Derived.IntWalk
import Derived.LoopN
import Derived.ProofKit
import Derived.Deep.Slices
import Derived.Deep.Strs
import Derived.Lib.SmallJoins
import Derived.Shelf.Strconv.Quote
import Derived.Shelf.Strings.BuilderK
import Derived.Shelf.Strings.BuilderF
import Derived.Lib.LaidPrint
import Derived.Lib.QuoteLoop
import Derived.Lib.MapLaws
import Derived.Laws.BytesArg
import Derived.Maps.OwnSet
import Derived.Maps.Keyed
import Derived.WideKeyEntry
import Derived.DeepKeys4
import Derived.Laws.BitsAllLaws
import Derived.Laws.Shifts
import Derived.Laws.Rows
import Derived.Deep.Quiet
import Derived.Deep.RegionHeld3
import Derived.Laws.EntriesVeiled
import Derived.StillTailTactics
import Derived.Deep.RegionWith
import Derived.Lib.Overlaps
import Derived.OpenShut
import Derived.Laws.Strings
import Derived.Laws.CopyOwn
import Derived.Laws.CopyRow
import Derived.Laws.NewBlocks
import Derived.Deep.RegionLaw
namespace Go.Proofs.YtaojblejnpemkaaDoor
open Go.Maps
def OkS (s : List Pr) : Prop := mayS s = true
theorem short_of {s : List Pr} (h : OkS s) : ShortS s := by
  obtain ⟨h1, _, h3⟩ := may_spec h
  refine ⟨h1, fun p hp => ?_⟩
  obtain ⟨h4, h5⟩ := h3 p hp
  unfold keyOk at h4
  unfold valOk at h5
  simp only [Bool.and_eq_true, decide_eq_true_eq] at h4 h5
  omega
theorem told_size (T : Lib.PrintTabs) {s : List Pr} (h : OkS s) : (toldB T s).size ≤ maxLen := by
  have h2 := short_of h
  have h3 := toldZ_len T h2.2
  have h4 := h2.1
  unfold toldB maxLen
  rw [strOfNums_size]
  omega
section
variable {T : Lib.PrintTabs} {l : List Cl} {D D' D'' : DataW Unit} {c : Nat}
def Tried (T : Lib.PrintTabs) (D : DataW Unit) (m : Nat) (s : List Pr) : Prop := ¬ look0 D (spotL m (toldB T s)) 0
def Known (T : Lib.PrintTabs) (l : List Cl) (D : DataW Unit) (c : Nat) : Prop := ∀ m s, m < 2 ^ 40 → OkS s → Tried T D m s → undM l m ≤ c → Dead l m s
def NewD (T : Lib.PrintTabs) (l : List Cl) (D D' : DataW Unit) (c : Nat) : Prop := ∀ m s, m < 2 ^ 40 → OkS s → Tried T D' m s → Tried T D m s ∨ undM l m ≤ c
theorem NewD.refl (T : Lib.PrintTabs) (l : List Cl) (D : DataW Unit) (c : Nat) : NewD T l D D c := fun _ _ _ _ h => .inl h
theorem NewD.trans (h1 : NewD T l D D' c) (h2 : NewD T l D' D'' c) : NewD T l D D'' c := fun m s hm hs h => (h2 m s hm hs h).elim (fun h => h1 m s hm hs h) .inr
theorem known_nil (T : Lib.PrintTabs) (l : List Cl) (c : Nat) : Known T l (.map []) c := fun m s _ _ h _ => absurd (show look0 (.map []) (spotL m (toldB T s)) 0 from rfl) h
theorem put_tried {m m' : Nat} {s s' : List Pr} (hm : m < 2 ^ 40) (hs : OkS s) (hm' : m' < 2 ^ 40) (hs' : OkS s') (h : Tried T (D.put (spotL m (toldB T s)) (.lit (.int .i64 1))) m' s') : Tried T D m' s' ∨ (m' = m ∧ s' = s) := by
  by_cases he : spotL m' (toldB T s') = spotL m (toldB T s)
  · obtain ⟨e1, e2⟩ := spot_inj hm' (told_size T hs') hm (told_size T hs) he
    exact .inr ⟨e1, toldB_inj T e2⟩
  · left
    intro h0
    refine h ?_
    unfold look0 at h0 ⊢
    rw [atKey_put_other he]
    exact h0
theorem known_put {m : Nat} {s : List Pr} (hm : m < 2 ^ 40) (hs : OkS s) (h : Known T l D (undM l m)) (hu : 0 < undM l m) : Known T l (D.put (spotL m (toldB T s)) (.lit (.int .i64 1))) (undM l m - 1) := by
  intro m' s' hm' hs' ht hc
  rcases put_tried hm hs hm' hs' ht with h1 | ⟨rfl, rfl⟩
  · exact h m' s' hm' hs' h1 (by omega)
  · omega
theorem known_end {m : Nat} {s : List Pr} (hm : m < 2 ^ 40) (hs : OkS s) (h : Known T l D (undM l m)) (hk : Known T l D' (undM l m - 1)) (hn : NewD T l (D.put (spotL m (toldB T s)) (.lit (.int .i64 1))) D' (undM l m - 1)) (hd : Dead l m s) :
    Known T l D' (undM l m) ∧ NewD T l D D' (undM l m) := by
  constructor
  · intro m' s' hm' hs' ht hc
    by_cases hu : undM l m' ≤ undM l m - 1
    · exact hk m' s' hm' hs' ht hu
    · rcases hn m' s' hm' hs' ht with h1 | h1
      · rcases put_tried hm hs hm' hs' h1 with h2 | ⟨rfl, rfl⟩
        · exact h m' s' hm' hs' h2 hc
        · exact hd
      · exact absurd h1 hu
  · intro m' s' hm' hs' ht
    rcases hn m' s' hm' hs' ht with h1 | h1
    · rcases put_tried hm hs hm' hs' h1 with h2 | ⟨rfl, rfl⟩
      · exact .inl h2
      · exact .inr (Nat.le_refl _)
    · exact .inr (by omega)
theorem left_und {m : Nat} (h : leftM l m = true) : 0 < undM l m := by
  obtain ⟨i, hi, hb, _⟩ := left_iff.1 h
  have := und_or hi hb
  omega
theorem mask_lt {m i : Nat} (hm : m < 2 ^ 40) (hi : i < 40) : m ||| 2 ^ i < 2 ^ 40 := Nat.or_lt_two_pow hm (Nat.pow_lt_pow_right (by decide) hi)
def candK (l : List Cl) (m k : Nat) : Nat := (List.range k).countP fun i => !m.testBit i && firstOk l m i
theorem candK_all (l : List Cl) (m : Nat) : candK l m l.length = candM l m := rfl
theorem candK_succ (l : List Cl) (m k : Nat) : candK l m (k + 1) = candK l m k + (if (!m.testBit k && firstOk l m k) = true then 1 else 0) := by
  unfold candK
  rw [List.range_succ, List.countP_append, List.countP_singleton]
theorem candK_le {m k : Nat} (hk : k ≤ l.length) : candK l m k ≤ candM l m := by
  unfold candK candM
  obtain ⟨j, hj⟩ : ∃ j, l.length = k + j := ⟨l.length - k, by omega⟩
  rw [hj, List.range_add, List.countP_append]
  omega
structure Grow (l : List Cl) (G : Nat → Nat) : Prop where
  one : ∀ j, 1 ≤ G j
  step : ∀ m, leftM l m = true → 1 + candM l m * G (undM l m - 1) ≤ G (undM l m)
end
end Go.Proofs.YtaojblejnpemkaaDoor
namespace Go.Proofs.YtaojblejnpemkaaDoor
open Go.RowKit Go.Maps
def srA (a : Option Addr) (k cap mb : Nat) (rv : Value) : Array Value := #[.slice a k cap, .map (some mb), rv]
structure KS (B : Nat) (w w' : World) : Prop where
  bl : Below B w w'
  ty : ∀ (j : Nat) (cs : Array Value) (T : TypeId), w.heap[j]? = some (.cells cs T (0, 0)) → T ≠ 65 → T ≠ 3 → w'.heap[j]? = some (.cells cs T (0, 0))
section
variable {B : Nat} {w w' w'' : World}
theorem KS.refl (B : Nat) (w : World) : KS B w w := ⟨Below.refl _ _, fun _ _ _ h _ _ => h⟩
theorem KS.trans (h : KS B w w') (h2 : KS B w' w'') : KS B w w'' := ⟨h.bl.trans h2.bl, fun j cs T a b c => h2.ty j cs T (h.ty j cs T a b c) b c⟩
theorem KS.of (h : Below w.heap.size w w') (hB : B ≤ w.heap.size) : KS B w w' := ⟨h.mono hB, fun j _ _ a _ _ => (h.block j (Array.getElem?_eq_some_iff.1 a).1).trans a⟩
theorem KS.map {b : Nat} {es : Array MapEntry} {c : Nat} (h : w.grownBy w' (some b)) (hm : w.heap[b]? = some (.map es c)) (hB : B ≤ b) (hw : B ≤ w.heap.size) : KS B w w' :=
  ⟨bl_st (Below.refl _ _) h hw hB, fun _ _ _ a _ _ => tr_st h a (fun e => by rw [← e, hm] at a; cases a)⟩
theorem KS.st {b : Nat} {cs : Array Value} {T : TypeId} (h : w.grownBy w' (some b)) (hm : w.heap[b]? = some (.cells cs T (0, 0))) (hT : T = 65 ∨ T = 3) (hB : B ≤ b) (hw : B ≤ w.heap.size) : KS B w w' :=
  ⟨bl_st (Below.refl _ _) h hw hB, fun j cs' T' a h1 h2 => tr_st h a (fun e => by
    rw [← e, hm] at a
    injection a with a
    injection a with _ a
    rcases hT with rfl | rfl
    · exact h1 a.symm
    · exact h2 a.symm)⟩
theorem owns_ks {n : Nat} {v : Value} {xs : List Value} (h : w.ownsRow B 72 2 v n xs) (hk : KS B w w') : w'.ownsRow B 72 2 v n xs := by
  obtain ⟨hl, h | ⟨k, cap, cur, hv, hkk, hc, r⟩⟩ := h
  · exact ⟨hl, .inl h⟩
  · exact ⟨hl, .inr ⟨k, cap, cur, hv, hkk, hk.ty _ _ _ hc (by decide) (by decide), r⟩⟩
end
theorem owns_nm {w w' : World} {b base n size : Nat} {e : TypeId} {v : Value} {xs : List Value} {es : Array MapEntry} {c : Nat} (h : w.ownsRow base e size v n xs) (hg : w.grownBy w' (some b)) (hm : w.heap[b]? = some (.map es c)) : w'.ownsRow base e size v n xs := by
  obtain ⟨hl, h | ⟨k, cap, cur, hv, hkk, hc, r⟩⟩ := h
  · exact ⟨hl, .inl h⟩
  · exact ⟨hl, .inr ⟨k, cap, cur, hv, hkk, tr_st hg hc (fun e => by rw [← e, hm] at hc; cases hc), r⟩⟩
theorem elIntL : ElemT Tryd.prog 30 3 1 8 := ElemT.of (.int .i64 0) Tryd.underlying30 (by kernel_rfl) rfl (by decide)
theorem new_rowL (w : World) (x : Value) (T : TypeId) : ∀ (j : Nat) (u : Value), [x][j]? = some u → (w.alloc (Obj.cells #[x] T)).cell? ((⟨w.heap.size, 0, none⟩ : Addr).add j) = some u := fun j u h => by
  rw [addr_add]
  exact blk_cell (heap_alloc_new w (Obj.cells #[x] T)) (0 + j) u (by rw [Nat.zero_add]; match j, h with | 0, h => exact h)
def Ones (T : Lib.PrintTabs) (D : DataW Unit) : Prop := ∀ m s, m < 2 ^ 40 → OkS s → look0 D (spotL m (toldB T s)) 0 ∨ look0 D (spotL m (toldB T s)) 1
theorem ones_nil (T : Lib.PrintTabs) : Ones T (.map []) := fun _ _ _ _ => .inl rfl
theorem ones_put {T : Lib.PrintTabs} {D : DataW Unit} (h : Ones T D) (hI : IsMap D) {m : Nat} {s : List Pr} (hm : m < 2 ^ 40) (hs : OkS s) : Ones T (D.put (spotL m (toldB T s)) (.lit (.int .i64 1))) := by
  intro m' s' hm' hs'
  by_cases he : spotL m' (toldB T s') = spotL m (toldB T s)
  · right
    rw [he]
    unfold look0
    exact atKey_put_same hI (keySpot.key (key_spot hm (told_size T hs))) _ _
  · unfold look0
    rw [atKey_put_other he]
    exact h m' s' hm' hs'
structure SIn (T : Lib.PrintTabs) (l : List Cl) (w0 : World) (a : Option Addr) (cap xb mb : Nat) (w : World) (rv : Value) (q : List Int) (n : Nat) (D : DataW Unit) : Prop where
  box : w.heap[xb]? = some (.cells (srA a l.length cap mb rv) 65 (0, 0))
  row : w.ownsRow w0.heap.size 3 1 rv q.length (q.map (Value.int .i64))
  map : MapS w mb n D
  ones : Ones T D
  bel : Below w0.heap.size w0 w
  hx : w0.heap.size ≤ xb
  hm : w0.heap.size ≤ mb
section
variable {T : Lib.PrintTabs} {l : List Cl} {w0 w w' : World} {a : Option Addr} {cap xb mb n : Nat} {rv : Value} {q : List Int} {D : DataW Unit}
theorem SIn.below (h : SIn T l w0 a cap xb mb w rv q n D) (hb : Below w.heap.size w w') : SIn T l w0 a cap xb mb w' rv q n D :=
  ⟨tr_bl hb h.box, owns_bl h.row hb, map_heap h.map (hb.block mb h.map.lt), h.ones, h.bel.trans (hb.mono h.bel.size), h.hx, h.hm⟩
theorem SIn.c0 (h : SIn T l w0 a cap xb mb w rv q n D) : w.cell? ⟨xb, 0, none⟩ = some (.slice a l.length cap) := blk_cell h.box 0 _ rfl
theorem SIn.c1 (h : SIn T l w0 a cap xb mb w rv q n D) : w.cell? ⟨xb, 1, none⟩ = some (.map (some mb)) := blk_cell h.box 1 _ rfl
theorem SIn.c2 (h : SIn T l w0 a cap xb mb w rv q n D) : w.cell? ⟨xb, 2, none⟩ = some rv := blk_cell h.box 2 _ rfl
end
def ResF (T : Lib.PrintTabs) (l : List Cl) (m : Nat) (s : List Pr) (q : List Int) (D : DataW Unit) (b : Bool) (q' : List Int) (D' : DataW Unit) : Prop :=
  (b = true → ∃ r, q' = q ++ r ∧ OrdM l m s r) ∧ (b = false → q' = q ∧ Known T l D' (undM l m) ∧ NewD T l D D' (undM l m) ∧ Dead l m s)
theorem sr_row (a : Option Addr) (k cap mb : Nat) (rv rv' : Value) (h : ∃ b n c, rv' = .slice b n c) : 2 + 1 ≤ (srA a k cap mb rv).size ∧ rv'.cells.size = 1 ∧ (∀ u ∈ rv'.cells.toList, u.oneCell' = true) ∧ ((srA a k cap mb rv).toList.take 2 ++ rv'.cells.toList ++ (srA a k cap mb rv).toList.drop (2 + 1)).toArray = srA a k cap mb rv' := by
  obtain ⟨b, n, c, rfl⟩ := h
  exact ⟨by show 3 ≤ 3; decide, rfl, by simp [Value.cells, Value.oneCell'], rfl⟩
theorem own_shrink {w : World} {base n cap : Nat} {e : TypeId} {a : Option Addr} {xs : List Value} {x : Value} (h : w.ownsRow base e 1 (.slice a (n + 1) cap) (n + 1) (xs ++ [x])) : w.ownsRow base e 1 (.slice a n cap) n xs := by
  obtain ⟨hl, h | ⟨g, cap', cur, hv, hg, hc, h1, h2, h3, h4⟩⟩ := h
  · exact absurd h.2 (by omega)
  · have hn : xs.length = n := by simpa using hl
    injection hv with e1 _ e3
    subst e1 e3
    refine ⟨by omega, .inr ⟨g, _, cur, rfl, hg, hc, by omega, h2, h3, ?_⟩⟩
    have h5 := congrArg (List.take n) h4
    rw [List.take_take, show min n ((n + 1) * 1) = n * 1 by omega] at h5
    rw [h5, List.take_append_of_le_length (Nat.le_of_eq hn.symm)]
    exact List.take_of_length_le (Nat.le_of_eq hn)
theorem row_slice {w : World} {base n size : Nat} {e : TypeId} {v : Value} {xs : List Value} (h : w.ownsRow base e size v n xs) : ∃ b c, v = .slice b n c := by
  rcases h.2 with ⟨h1, h2⟩ | ⟨g, cap, cur, hv, _⟩
  · subst h2; exact ⟨_, _, h1⟩
  · exact ⟨_, _, hv⟩
theorem own_neM {w : World} {base n size b : Nat} {e : TypeId} {v : Value} {xs : List Value} {es : Array MapEntry} {c : Nat} (h : w.ownsRow base e size v n xs) (hm : w.heap[b]? = some (.map es c)) : some b ≠ v.ownBlock := by
  rcases h.2 with ⟨rfl, _⟩ | ⟨g, cap, cur, rfl, _, hc, _⟩
  · intro e; cases e
  · intro e
    have e : some b = some g := e
    injection e with e
    rw [e, hc] at hm
    cases hm
theorem KS.app {B n : Nat} {w w' : World} {v : Value} {xs : List Value} (h : w.ownsRow B 3 1 v n xs) (hg : w.grownBy w' v.ownBlock) (hB : B ≤ w.heap.size) : KS B w w' := by
  rcases h.2 with ⟨rfl, _⟩ | ⟨g, cap, cur, rfl, hbg, hc, _⟩
  · exact ⟨(Below.refl _ _).grown hg hB (fun k e => by cases e), fun j cs T a _ _ => tr_gb hg a (fun e => by cases e)⟩
  · exact KS.st (b := g) hg hc (.inr rfl) hbg hB
/-! The least end of what isn't done. -/
def FirstI (l : List Cl) (m k : Nat) (lf : Bool) (f : Int) : Prop :=
  (lf = false → ∀ i, i < k → m.testBit i = false → ¬ 0 < (clN l i).en) ∧ (lf = true → (∃ i, i < k ∧ m.testBit i = false ∧ 0 < (clN l i).en ∧ f = (clN l i).en) ∧ ∀ i, i < k → m.testBit i = false → 0 < (clN l i).en → f ≤ (clN l i).en)
section
variable {l : List Cl} {m k : Nat} {lf : Bool} {f : Int}
theorem firstI_zero (l : List Cl) (m : Nat) (f : Int) : FirstI l m 0 false f := ⟨fun _ i hi => absurd hi (by omega), fun h => by cases h⟩
theorem firstI_skip (h : FirstI l m k lf f) (hs : m.testBit k = true ∨ ¬ 0 < (clN l k).en ∨ (lf = true ∧ ¬ (clN l k).en < f)) : FirstI l m (k + 1) lf f := by
  refine ⟨fun hl i hi hb he => ?_, fun hl => ?_⟩
  · by_cases hik : i = k
    · subst hik
      rcases hs with h1 | h1 | ⟨h1, _⟩
      · rw [hb] at h1; cases h1
      · exact h1 he
      · rw [hl] at h1; cases h1
    · exact h.1 hl i (by omega) hb he
  · obtain ⟨⟨i, h1, h2, h3, h4⟩, h5⟩ := h.2 hl
    refine ⟨⟨i, by omega, h2, h3, h4⟩, fun j hj hb he => ?_⟩
    by_cases hjk : j = k
    · subst hjk
      rcases hs with h6 | h6 | ⟨_, h6⟩
      · rw [hb] at h6; cases h6
      · exact absurd he h6
      · omega
    · exact h5 j (by omega) hb he
theorem firstI_take (h : FirstI l m k lf f) (hb : m.testBit k = false) (he : 0 < (clN l k).en) (hs : lf = true → (clN l k).en < f) : FirstI l m (k + 1) true (clN l k).en := by
  refine ⟨fun h => (by cases h), fun _ => ⟨⟨k, by omega, hb, he, rfl⟩, fun j hj hjb hje => ?_⟩⟩
  by_cases hjk : j = k
  · subst hjk; exact Int.le_refl _
  · cases hl : lf
    · exact absurd hje (h.1 hl j (by omega) hjb)
    · have := (h.2 hl).2 j (by omega) hjb hje
      have := hs hl
      omega
theorem firstI_left (h : FirstI l m l.length lf f) : leftM l m = lf := by
  cases hl : lf
  · exact left_no.2 (h.1 hl)
  · obtain ⟨⟨i, h1, h2, h3, _⟩, _⟩ := h.2 hl
    exact left_iff.2 ⟨i, h1, h2, h3⟩
theorem firstI_ok (h : FirstI l m l.length true f) (i : Nat) : firstOk l m i = decide ((clN l i).st ≤ f) := by
  obtain ⟨⟨j, h1, h2, h3, h4⟩, h5⟩ := h.2 rfl
  rw [Bool.eq_iff_iff, first_iff, decide_eq_true_eq]
  constructor
  · intro h6
    have := h6 j h1 h2 h3
    omega
  · intro h6 k hk hb he
    have := h5 k hk hb he
    omega
end
end Go.Proofs.YtaojblejnpemkaaDoor
namespace Go.Proofs.YtaojblejnpemkaaDoor
open Go.RowKit Go.Maps
theorem wp_runL {P : Program} {w w' : World} {v : Value} {o : Oper} {a : Act} {K : Act → World → Prop} {Q : Exit → Act → World → Prop} (hr : (execOp a.eval o).run P w = .ok (.value v) w') (h : K (a.put o.dst v) w') : o.wp P a w K Q := by
  unfold Oper.wp
  rw [hr]
  exact h
theorem wp_entryStore {P : Program} {a : Act} {w w' : World} {K : Act → World → Prop} {Q : Exit → Act → World → Prop} {ty' : TypeId} {pos : String} {af : Array Edge} {gd : Option (Nat × Bool)} {t : TypeId} {m s x : Operand} (h : (Instr.entryStore t (a.eval m) (a.eval s) (a.eval x)).run P w = .ok () w') (hk : K a w') : (Oper.mk none (.entryStore t m s x) ty' pos af gd).wp P a w K Q := by
  unfold Oper.wp execOp
  simp only [h, Sem.run_bind, Sem.run_pure, Result.andThen_ok]
  exact hk
theorem skip_bad {T : Lib.PrintTabs} {l : List Cl} {D1 D2 : DataW Unit} {m k n n2 u g : Nat} {s : List Pr} (h : Known T l D2 u ∧ NewD T l D1 D2 u ∧ n2 ≤ n + 1 + candK l m k * g ∧ ∀ j, j < k → m.testBit j = false → firstOk l m j = true → repOk l s j = true → Dead l (m ||| 2 ^ j) (doP s (clN l j).op).1)
    (hs : m.testBit k = true ∨ firstOk l m k = false ∨ repOk l s k = false) : Known T l D2 u ∧ NewD T l D1 D2 u ∧ n2 ≤ n + 1 + candK l m (k + 1) * g ∧ ∀ j, j < k + 1 → m.testBit j = false → firstOk l m j = true → repOk l s j = true → Dead l (m ||| 2 ^ j) (doP s (clN l j).op).1 := by
  refine ⟨h.1, h.2.1, ?_, fun j hj h1 h2 h3 => ?_⟩
  · have := Nat.mul_le_mul_right g (show candK l m k ≤ candK l m (k + 1) by rw [candK_succ]; omega)
    omega
  · by_cases hjk : j = k
    · subst hjk
      rcases hs with h4 | h4 | h4
      · rw [h1] at h4; cases h4
      · rw [h2] at h4; cases h4
      · rw [h3] at h4; cases h4
    · exact h.2.2.2 j (by omega) h1 h2 h3
theorem own_cap {w : World} {base n cap : Nat} {e : TypeId} {a : Option Addr} {xs : List Value} (h : w.ownsRow base e 1 (.slice a n cap) n xs) : n ≤ cap := by
  obtain ⟨hl, h | ⟨g, cap', cur, hv, hg, hc, h1, h2, h3, h4⟩⟩ := h
  · obtain ⟨h1, h2⟩ := h
    omega
  · injection hv with e1 _ e3
    subst e3
    omega
theorem round_end {T : Lib.PrintTabs} {l : List Cl} {D1 D2 D3 : DataW Unit} {m k n n3 u g : Nat} {s : List Pr} (h1 : NewD T l D1 D2 (u - 1)) (h2 : ∀ j, j < k → m.testBit j = false → firstOk l m j = true → repOk l s j = true → Dead l (m ||| 2 ^ j) (doP s (clN l j).op).1)
    (k3 : Known T l D3 (undM l (m ||| 2 ^ k))) (n3' : NewD T l D2 D3 (undM l (m ||| 2 ^ k))) (d3 : Dead l (m ||| 2 ^ k) (doP s (clN l k).op).1) (hu : undM l (m ||| 2 ^ k) + 1 = u) (hn : n3 ≤ n + 1 + candK l m (k + 1) * g) :
    Known T l D3 (u - 1) ∧ NewD T l D1 D3 (u - 1) ∧ n3 ≤ n + 1 + candK l m (k + 1) * g ∧ ∀ j, j < k + 1 → m.testBit j = false → firstOk l m j = true → repOk l s j = true → Dead l (m ||| 2 ^ j) (doP s (clN l j).op).1 := by
  have e : undM l (m ||| 2 ^ k) = u - 1 := by omega
  rw [e] at k3 n3'
  refine ⟨k3, h1.trans n3', hn, fun j hj a b c => ?_⟩
  by_cases hjk : j = k
  · subst hjk; exact d3
  · exact h2 j (by omega) a b c
theorem grow_room {l : List Cl} {G : Nat → Nat} (hG : Grow l G) {m k n n2 : Nat} (hl : leftM l m = true) (hn : n + G (undM l m) ≤ 4611686018427387904) (h2 : n2 ≤ n + 1 + candK l m k * G (undM l m - 1)) (hk : k < l.length) (hb : m.testBit k = false) (hf : firstOk l m k = true) (hu : undM l (m ||| 2 ^ k) + 1 = undM l m) :
    n2 + G (undM l (m ||| 2 ^ k)) ≤ 4611686018427387904 ∧ n2 + G (undM l (m ||| 2 ^ k)) ≤ n + 1 + candK l m (k + 1) * G (undM l m - 1) ∧ n2 + G (undM l (m ||| 2 ^ k)) ≤ n + G (undM l m) := by
  have e : undM l (m ||| 2 ^ k) = undM l m - 1 := by omega
  have h3 := hG.step m hl
  have h4 : candK l m (k + 1) = candK l m k + 1 := by rw [candK_succ, hb, hf]; rfl
  have h5 := Nat.mul_le_mul_right (G (undM l m - 1)) (candK_le (l := l) (m := m) (k := k + 1) (by omega))
  rw [h4, Nat.succ_mul] at h5
  rw [e, h4, Nat.succ_mul]
  omega
section
variable {T : Lib.PrintTabs} {l : List Cl} {w0 : World} {a : Option Addr} {cap xb mb : Nat} {G : Nat → Nat}
set_option maxRecDepth 100000 in
set_option maxHeartbeats 8000000 in
theorem from_any (hT : Tabs T w0) (hSl : SlC w0 a cap l) (hchk : chk l = 0) (hG : Grow l G) : ∀ (u m : Nat) (s : List Pr) (q : List Int) (n : Nat) (D : DataW Unit) (rv sv : Value) (w : World), undM l m = u → m < 2 ^ 40 → OkS s → SIn T l w0 a cap xb mb w rv q n D → w.ownsRow w0.heap.size 72 2 sv s.length (prs s) → Known T l D u → n + G u ≤ 4611686018427387904 → q.length + u ≤ 40 →
    Calls Tryd.prog 23 #[.pointer (some ⟨xb, 0, none⟩), .int .u64 (m : Int), sv] w fun e w' => ∃ (b : Bool) (q' : List Int) (n' : Nat) (D' : DataW Unit) (rv' : Value), e = .returned (.bool b) ∧ SIn T l w0 a cap xb mb w' rv' q' n' D' ∧ KS w0.heap.size w w' ∧ n' ≤ n + G u ∧ ResF T l m s q D b q' D' := by
  intro u
  induction u using Nat.strongRecOn with
  | ind u IH =>
  intro m s q n D rv sv w hu hm hs hI hS hK hn hq
  subst hu
  have HIH := Lib.hid IH
  have HM := Lib.hid hm
  have HOS := Lib.hid hs
  have HK := Lib.hid hK
  have HN := Lib.hid hn
  have HQ := Lib.hid hq
  have HI := Lib.hid hI
  obtain ⟨sa, scap, rfl, hsl⟩ := SlP.of_owns hS
  have HS := Lib.hid hS
  obtain ⟨st, hst⟩ : ∃ st, toldB T s = st := ⟨_, rfl⟩
  have hto := told_any T sa scap s w hsl (short_of hs) (hT.below hI.bel)
  rw [hst] at hto
  have hsz : st.size ≤ maxLen := by rw [← hst]; exact told_size T hs
  have HST := Lib.hid hst
  have HSZ := Lib.hid hsz
  have hBw := hI.bel.size
  clear IH hm hs hK hn hq hS hsl hst hsz hI
  go_enter Tryd.func23, Tryd.ntmps23
  refine wp_seq_k (fun K hK => ?_)
  have HK := Lib.hid hK
  clear hK
  go_wp2
  refine HK.out _ _ ?_
  clear HK
  refine wp_scope_straight ?_
  refine wp_seq_k (fun K hK => ?_)
  have HK := Lib.hid hK
  clear hK
  go_wp2_with (go_at_call 34; refine hto.mono ?_; rintro e w1 ⟨rfl, hb1⟩)
  refine HK.out _ _ ?_
  clear HK
  have bx := heap_alloc_new w1 (Obj.cells #[.int .u64 (m : Int), .string st] 79)
  have hb2 := hb1.trans ((blw w1 (Obj.cells #[.int .u64 (m : Int), .string st] 79)).mono hb1.size)
  have I2 := HI.out.below hb2
  have S2 := owns_bl HS.out hb2
  have k2 := KS.of hb2 hBw
  clear hb1 hto hb2 HI HS
  generalize w1.alloc (Obj.cells #[.int .u64 (m : Int), .string st] 79) = w2 at *
  generalize w1.heap.size = tb at *
  have c1 := I2.c1
  obtain ⟨c, hlk0, hc⟩ := look_spot I2.map HM.out HSZ.out
  have hlk := fun w' (hb : Below w2.heap.size w2 w') => look_at (map_heap I2.map (hb.block mb I2.map.lt)) HM.out HSZ.out hc
  have HC := Lib.hid hc
  clear hlk0 hc
  have hone := I2.ones m s HM.out HOS.out
  rw [HST.out] at hone
  have hc01 : c = 0 ∨ c = 1 := by
    rcases hone with h | h
    · left
      have := HC.out.symm.trans h
      injection this with this
      injection this
    · right
      have := HC.out.symm.trans h
      injection this with this
      injection this
  clear hone
  rcases hc01 with rfl | rfl
  case inr =>
    go_wp2_with fail
    refine wp_region_under (by kernel_rfl) (by kernel_rfl) ?_
    repeat (go_big_quiet_step (fail))
    refine wpQuiet_val (by rfl) ?_ ?_ ?_
    rotate_left
    · intro wS hSw
      obtain ⟨x, rfl⟩ := hSw; have c := under_cell c1 x
      go_simp
      (try with_reducible rfl)
    (try simp only [Act.put]); (try simp only [List.setIfInBounds_toArray]); (try simp only [List.set_cons_succ]); (try simp only [List.set_cons_zero])
    refine wpQuiet_val (by rfl) (.agg #[.int .u64 (m : Int), .string st]) (fun wS hSw => ?_) ?_
    · obtain ⟨x, rfl⟩ := hSw; exact exec_ldB 79 _ ⟨_, _, _, _, _, Tryd.isAgg79, Tryd.sizeOf79, rfl, tr_bl (under_below _ x) bx, arr_all rfl⟩
    (try simp only [Act.put]); (try simp only [List.setIfInBounds_toArray]); (try simp only [List.set_cons_succ]); (try simp only [List.set_cons_zero])
    refine wpQuiet_val (by rfl) (.int .i64 1) (fun wS hSw => ?_) ?_
    · obtain ⟨x, rfl⟩ := hSw; have hl : (Instr.lookup 63 (.map (some mb)) (.agg #[.int .u64 (m : Int), .string st]) false).run Tryd.prog (Under w2 x) = .ok (.int .i64 1) (Under w2 x) := hlk _ (under_below w2 x); unfold execOp; simp [Act.eval, hl]
    (try simp only [Act.put]); (try simp only [List.setIfInBounds_toArray]); (try simp only [List.set_cons_succ]); (try simp only [List.set_cons_zero])
    repeat (go_big_quiet_step (fail))
    refine wpQuiet_nil ?_
    intro _ hw'
    obtain ⟨xU, hw''⟩ := hw'
    subst hw''
    have hbU := under_below w2 xU
    have IU := I2.below hbU
    have kU := k2.trans (KS.of hbU (Nat.le_trans hBw k2.bl.size))
    go_wp2
    (try simp only [Exit.noGoto])
    go_ret
    refine ⟨false, q, n, D, rv, rfl, IU, kU, by omega, fun h => (by cases h), fun _ => ⟨rfl, HK.out, NewD.refl _ _ _ _, HK.out m s HM.out HOS.out (fun h0 => ?_) (Nat.le_refl _)⟩⟩
    rw [HST.out] at h0
    have h1 := HC.out.symm.trans h0
    injection h1 with h1
    injection h1 with _ h1
    cases h1
  case inl =>
    refine wp_seq_k (fun K hK => ?_)
    have HK1 := Lib.hid hK
    clear hK
    go_wp2_with fail
    refine wp_region_under (by kernel_rfl) (by kernel_rfl) ?_
    repeat (go_big_quiet_step (fail))
    refine wpQuiet_val (by rfl) ?_ ?_ ?_
    rotate_left
    · intro wS hSw
      obtain ⟨x, rfl⟩ := hSw; have c := under_cell c1 x
      go_simp
      (try with_reducible rfl)
    (try simp only [Act.put]); (try simp only [List.setIfInBounds_toArray]); (try simp only [List.set_cons_succ]); (try simp only [List.set_cons_zero])
    refine wpQuiet_val (by rfl) (.agg #[.int .u64 (m : Int), .string st]) (fun wS hSw => ?_) ?_
    · obtain ⟨x, rfl⟩ := hSw; exact exec_ldB 79 _ ⟨_, _, _, _, _, Tryd.isAgg79, Tryd.sizeOf79, rfl, tr_bl (under_below _ x) bx, arr_all rfl⟩
    (try simp only [Act.put]); (try simp only [List.setIfInBounds_toArray]); (try simp only [List.set_cons_succ]); (try simp only [List.set_cons_zero])
    refine wpQuiet_val (by rfl) (.int .i64 0) (fun wS hSw => ?_) ?_
    · obtain ⟨x, rfl⟩ := hSw; have hl : (Instr.lookup 63 (.map (some mb)) (.agg #[.int .u64 (m : Int), .string st]) false).run Tryd.prog (Under w2 x) = .ok (.int .i64 0) (Under w2 x) := hlk _ (under_below w2 x); unfold execOp; simp [Act.eval, hl]
    (try simp only [Act.put]); (try simp only [List.setIfInBounds_toArray]); (try simp only [List.set_cons_succ]); (try simp only [List.set_cons_zero])
    repeat (go_big_quiet_step (fail))
    refine wpQuiet_nil ?_
    intro _ hw'
    obtain ⟨xU, hw''⟩ := hw'
    subst hw''
    have hbU := under_below w2 xU
    have I3 := I2.below hbU
    have S3 := owns_bl S2 hbU
    have k3 := k2.trans (KS.of hbU (Nat.le_trans hBw k2.bl.size))
    have bx3 := tr_bl hbU bx
    clear hlk c1 I2 S2 k2 bx hbU
    generalize Under w2 xU = w3 at *
    go_wp2
    refine HK1.out _ _ ?_
    clear HK1
    have hbd := (Below.refl w3.heap.size w3).drew
    have I4 := I3.below hbd
    have bx4 := tr_bl hbd bx3
    have k4 := k3.trans (KS.of hbd (Nat.le_trans hBw k3.bl.size))
    have S4 := owns_bl S3 hbd
    have hlt4 : n < maxLen := by have := HN.out; unfold maxLen; omega
    obtain ⟨v0, si, w5, es5, ck5, e1, g5, h5, e2, e3⟩ := entry_spot I4.map hlt4 HM.out HSZ.out HC.out
    obtain ⟨w6, f1, M6, g6⟩ := e3 w5 h5
    have hl4 : (Instr.lookup 63 (.map (some mb)) (.agg #[.int .u64 (m : Int), .string st]) false).run Tryd.prog w3.drew = .ok (.int .i64 0) w3.drew := look_at I4.map HM.out HSZ.out HC.out
    have e1 : (Instr.mapEntry 63 (.map (some mb)) (.agg #[.int .u64 (m : Int), .string st])).run Tryd.prog w3.drew = .ok (.tuple #[v0, .int .i64 si]) w5 := e1
    have e2 : (Instr.lookup 63 (.map (some mb)) (.agg #[.int .u64 (m : Int), .string st]) false).run Tryd.prog w5 = .ok (.int .i64 0) w5 := e2
    obtain ⟨es, ck, hmb, _⟩ := I4.map
    have hnx : mb ≠ xb := fun e => by have h := I4.box; rw [← e, hmb] at h; cases h
    have hnt : mb ≠ tb := fun e => by have h := bx4; rw [← e, hmb] at h; cases h
    have SS := And.intro I4.box bx4
    have SS5 := And.intro (tr_st g5 I4.box hnx) (tr_st g5 bx4 hnt)
    have SS6 := And.intro (tr_st g6 SS5.1 hnx) (tr_st g6 SS5.2 hnt)
    have hB4 := Nat.le_trans hBw k4.bl.size
    have k46 : KS w0.heap.size w3.drew w6 := (KS.map g5 hmb I4.hm hB4).trans (KS.map g6 h5 I4.hm (Nat.le_trans hB4 g5.size))
    refine wp_seq_k (fun K hK => ?_)
    go_cut [] (fun wx => wx = w6)
    case first =>
      go_wp2_with fail
      refine wp_region_held_drew (S := fun w' => w'.heap[xb]? = some (.cells (srA a l.length cap mb rv) 65 (0, 0)) ∧ w'.heap[tb]? = some (.cells #[.int .u64 (m : Int), .string st] 79 (0, 0))) (by kernel_rfl) SS (fun hS0 => ?_)
      clear hS0
      generalize w3.drew = w4 at *
      refine wpAnyH_take (i := 0) (oi := ⟨_, _, _, _, _, _⟩) (v := ?_) rfl (by kernel_rfl) (by kernel_rfl) (by kernel_rfl) (fun _ _ _ h => h) (Or.inl ⟨by rfl, ?_⟩) (by assumption) ?_
      rotate_left
      · intro wS hSw; go_simp; (try with_reducible rfl)
      (try simp only [Act.put]); (try simp only [List.setIfInBounds_toArray]); (try simp only [List.set_cons_succ]); (try simp only [List.set_cons_zero])
      refine wpAnyH_take (i := 1) (oi := ⟨_, _, _, _, _, _⟩) (v := ?_) rfl (by kernel_rfl) (by kernel_rfl) (by kernel_rfl) (fun _ _ _ h => h) (Or.inl ⟨by rfl, ?_⟩) (by assumption) ?_
      rotate_left
      · intro wS hSw; go_simp; (try with_reducible rfl)
      (try simp only [Act.put]); (try simp only [List.setIfInBounds_toArray]); (try simp only [List.set_cons_succ]); (try simp only [List.set_cons_zero])
      refine wpAnyH_take (i := 2) (oi := ⟨_, _, _, _, _, _⟩) (v := ?_) rfl (by kernel_rfl) (by kernel_rfl) (by kernel_rfl) (fun _ _ _ h => h) (Or.inl ⟨by rfl, ?_⟩) (by assumption) ?_
      rotate_left
      · intro wS hSw; go_simp; (try with_reducible rfl)
      (try simp only [Act.put]); (try simp only [List.setIfInBounds_toArray]); (try simp only [List.set_cons_succ]); (try simp only [List.set_cons_zero])
      refine wpAnyH_take (i := 3) (oi := ⟨_, _, _, _, _, _⟩) (v := ?_) rfl (by kernel_rfl) (by kernel_rfl) (by kernel_rfl) (fun _ _ _ h => h) (Or.inl ⟨by rfl, ?_⟩) (by assumption) ?_
      rotate_left
      · intro wS hSw
        have c := blk_cell hSw.1 1 (.map (some mb)) rfl; go_simp; (try with_reducible rfl)
      (try simp only [Act.put]); (try simp only [List.setIfInBounds_toArray]); (try simp only [List.set_cons_succ]); (try simp only [List.set_cons_zero])
      refine wpAnyH_take (i := 4) (oi := ⟨_, _, _, _, _, _⟩) (v := .agg (#[.int .u64 (m : Int), .string st])) rfl (by kernel_rfl) (by kernel_rfl) (by kernel_rfl) (fun _ _ _ h => h) (Or.inl ⟨by rfl, fun wS hSw => ?_⟩) (by assumption) ?_
      · exact exec_ldB 79 _ ⟨_, _, _, _, _, Tryd.isAgg79, Tryd.sizeOf79, rfl, hSw.2, arr_all rfl⟩
      (try simp only [Act.put]); (try simp only [List.setIfInBounds_toArray]); (try simp only [List.set_cons_succ]); (try simp only [List.set_cons_zero])
      refine wpAnyH_ready (rs := [5, 7]) (by kernel_rfl) (by simp) ?_
      refine AllReadyH.cons (o := ⟨_, _, _, _, _, _⟩) rfl (fun K' hK' => ?_) (AllReadyH.cons (o := ⟨_, _, _, _, _, _⟩) rfl (fun K' hK' => ?_) AllReadyH.nil)
      · refine (if_pos (by rfl)).mpr ?_
        refine wp_runL (w' := w4) (v := .int .i64 0) (by unfold execOp; simp [Act.eval, hl4]) ?_
        refine hK'.out _ _ SS (fun _ => ?_)
        (try simp only [Act.put]); (try simp only [List.setIfInBounds_toArray]); (try simp only [List.set_cons_succ]); (try simp only [List.set_cons_zero])
        refine wpAnyH_take (i := 6) (oi := ⟨_, _, _, _, _, _⟩) (v := ?_) rfl (by kernel_rfl) (by kernel_rfl) (by kernel_rfl) (fun _ _ _ h => h) (Or.inl ⟨by rfl, ?_⟩) (by assumption) ?_
        rotate_left
        · intro wS hSw; go_simp; (try with_reducible rfl)
        (try simp only [Act.put]); (try simp only [List.setIfInBounds_toArray]); (try simp only [List.set_cons_succ]); (try simp only [List.set_cons_zero])
        refine wpAnyH_ready (rs := [7]) (by kernel_rfl) (by simp) ?_
        refine AllReadyH.cons (o := ⟨_, _, _, _, _, _⟩) rfl (fun K' hK' => ?_) AllReadyH.nil
        refine (if_pos (by rfl)).mpr ?_
        refine wp_runL (w' := w5) (v := .tuple #[v0, .int .i64 si]) (by unfold execOp; simp [Act.eval, e1]) ?_
        refine hK'.out _ _ SS5 (fun _ => ?_)
        (try simp only [Act.put]); (try simp only [List.setIfInBounds_toArray]); (try simp only [List.set_cons_succ]); (try simp only [List.set_cons_zero])
        refine wpAnyH_take (i := 8) (oi := ⟨_, _, _, _, _, _⟩) (v := ?_) rfl (by kernel_rfl) (by kernel_rfl) (by kernel_rfl) (fun _ _ _ h => h) (Or.inl ⟨by rfl, ?_⟩) (by assumption) ?_
        rotate_left
        · intro wS hSw; go_simp; (try with_reducible rfl)
        (try simp only [Act.put]); (try simp only [List.setIfInBounds_toArray]); (try simp only [List.set_cons_succ]); (try simp only [List.set_cons_zero])
        refine wpAnyH_ready (rs := [9]) (by kernel_rfl) (by simp) ?_
        refine AllReadyH.cons (o := ⟨_, _, _, _, _, _⟩) rfl (fun K' hK' => ?_) AllReadyH.nil
        refine (if_pos (by rfl)).mpr ?_
        refine wp_entryStore (w' := w6) (by simp only [Act.eval]; exact f1) ?_
        refine hK'.out _ _ SS6 (fun _ => ?_)
        (try simp only [Act.put]); (try simp only [List.setIfInBounds_toArray]); (try simp only [List.set_cons_succ]); (try simp only [List.set_cons_zero])
        refine wpAnyH_done (by kernel_rfl) ?_ _
        go_wp2
        go_meet
        rfl
      · refine (if_pos (by rfl)).mpr ?_
        refine wp_runL (w' := w5) (v := .tuple #[v0, .int .i64 si]) (by unfold execOp; simp [Act.eval, e1]) ?_
        refine hK'.out _ _ SS5 (fun _ => ?_)
        (try simp only [Act.put]); (try simp only [List.setIfInBounds_toArray]); (try simp only [List.set_cons_succ]); (try simp only [List.set_cons_zero])
        refine wpAnyH_take (i := 8) (oi := ⟨_, _, _, _, _, _⟩) (v := ?_) rfl (by kernel_rfl) (by kernel_rfl) (by kernel_rfl) (fun _ _ _ h => h) (Or.inl ⟨by rfl, ?_⟩) (by assumption) ?_
        rotate_left
        · intro wS hSw; go_simp; (try with_reducible rfl)
        (try simp only [Act.put]); (try simp only [List.setIfInBounds_toArray]); (try simp only [List.set_cons_succ]); (try simp only [List.set_cons_zero])
        refine wpAnyH_ready (rs := [5]) (by kernel_rfl) (by simp) ?_
        refine AllReadyH.cons (o := ⟨_, _, _, _, _, _⟩) rfl (fun K' hK' => ?_) AllReadyH.nil
        refine (if_pos (by rfl)).mpr ?_
        refine wp_runL (w' := w5) (v := .int .i64 0) (by unfold execOp; simp [Act.eval, e2]) ?_
        refine hK'.out _ _ SS5 (fun _ => ?_)
        (try simp only [Act.put]); (try simp only [List.setIfInBounds_toArray]); (try simp only [List.set_cons_succ]); (try simp only [List.set_cons_zero])
        refine wpAnyH_take (i := 6) (oi := ⟨_, _, _, _, _, _⟩) (v := ?_) rfl (by kernel_rfl) (by kernel_rfl) (by kernel_rfl) (fun _ _ _ h => h) (Or.inl ⟨by rfl, ?_⟩) (by assumption) ?_
        rotate_left
        · intro wS hSw; go_simp; (try with_reducible rfl)
        (try simp only [Act.put]); (try simp only [List.setIfInBounds_toArray]); (try simp only [List.set_cons_succ]); (try simp only [List.set_cons_zero])
        refine wpAnyH_ready (rs := [9]) (by kernel_rfl) (by simp) ?_
        refine AllReadyH.cons (o := ⟨_, _, _, _, _, _⟩) rfl (fun K' hK' => ?_) AllReadyH.nil
        refine (if_pos (by rfl)).mpr ?_
        refine wp_entryStore (w' := w6) (by simp only [Act.eval]; exact f1) ?_
        refine hK'.out _ _ SS6 (fun _ => ?_)
        (try simp only [Act.put]); (try simp only [List.setIfInBounds_toArray]); (try simp only [List.set_cons_succ]); (try simp only [List.set_cons_zero])
        refine wpAnyH_done (by kernel_rfl) ?_ _
        go_wp2
        go_meet
        rfl
    subst hcut
    refine hK _ _ ?_
    clear hK
    have k6 := k4.trans k46
    have S6 := owns_ks S4 k46
    have I6 : SIn T l w0 a cap xb mb wc rv q (n + 1) (D.put (spotL m st) (.lit (.int .i64 1))) := by
      refine ⟨SS6.1, ?_, M6, ?_, I4.bel.trans k46.bl, I4.hx, I4.hm⟩
      · exact owns_nm (owns_nm I4.row g5 hmb) g6 h5
      · rw [← HST.out]
        exact ones_put I4.ones I4.map.isMap HM.out HOS.out
    clear hl4 e1 e2 f1 M6 g5 g6 h5 SS SS5 SS6 hmb hnx hnt e3 I4 S4 k4 k46 I3 S3 k3 bx3 bx4 hbd hB4 hlt4
    refine wp_seq_k (fun K hK => ?_)
    have HK := Lib.hid hK
    clear hK
    go_wp2
    refine HK.out _ _ ?_
    clear HK
    have hl40 := chk_len hchk
    have hlI : (l.length : Int) ≤ 40 := by omega
    refine wp_seq_k (fun K hK => ?_)
    go_cut [8, 9] (fun v g wx => ∃ (lf : Bool) (f : Int), g = .bool lf ∧ v = .int .i64 f ∧ Hid (FirstI l m l.length lf f) ∧ SIn T l w0 a cap xb mb wx rv q (n + 1) (D.put (spotL m st) (.lit (.int .i64 1))) ∧ KS w0.heap.size w wx ∧ wx.ownsRow w0.heap.size 72 2 (.slice sa s.length scap) s.length (prs s))
    case first =>
      have c0 := I6.c0
      go_wp2
      go_loopw [8, 9, 41] (fun v g i wr => ∃ (k : Nat) (lf : Bool) (f : Int), k ≤ l.length ∧ i = .int .i64 k ∧ g = .bool lf ∧ v = .int .i64 f ∧ Hid (FirstI l m k lf f) ∧ Below wc.heap.size wc wr) (fun _ _ i _ => l.length - (intOf i).toNat)
      case atStart => exact ⟨0, false, 0, by omega, rfl, rfl, rfl, Lib.hid (firstI_zero l m 0), Below.refl _ _⟩
      case round =>
        obtain ⟨k, lf, f, hk, rfl, rfl, rfl, HF, hbr⟩ := hrel
        by_cases hlt : k < l.length
        · obtain ⟨bb, off, rfl, hcs⟩ := call_cells ((hSl.row.below0 I6.bel).below0 hbr) hlt
          have hbit := bit_get m k HM.out
          obtain ⟨c, hc⟩ : ∃ c, clN l k = c := ⟨_, rfl⟩
          rw [hc] at hcs
          have HC2 := Lib.hid hc
          have HLT := Lib.hid hlt
          clear c0 hc
          refine wp_seq_k (fun K hK => ?_)
          have HK := Lib.hid hK
          clear hK
          go_wp2
          refine HK.out _ _ ?_
          clear HK
          refine wp_seq_k (fun K hK => ?_)
          have HK := Lib.hid hK
          clear hK
          go_wp2
          refine HK.out _ _ ?_
          clear HK
          refine wp_seq_k (fun K hK => ?_)
          have HK2 := Lib.hid hK
          clear hK
          refine wp_block ?_
          refine wp_seq_k (fun K hK => ?_)
          have HK := Lib.hid hK
          clear hK
          go_wp2_with (first
                      | ((with_reducible refine wpList_ldC 38 _ ?_); refine ⟨rfl, _, ⟨_, _, _, Tryd.isAgg38, Tryd.sizeOf38, rfl, (show (clvA c).size = 10 from rfl), hcs⟩, ?_⟩)
                      | ((first | (with_reducible refine wpList_stNew 38 _ _ ?_) | (with_reducible refine wp_stNew 38 _ _ ?_)); refine ⟨_, _, ⟨Tryd.sizeOf38, rfl, clv_new c⟩, rfl, ?_⟩))
          refine HK.out _ _ ?_
          clear HK
          have hby := heap_alloc_new wr (Obj.cells (clvA c) 38)
          have hbz := hbr.trans ((blw wr (Obj.cells (clvA c) 38)).mono hbr.size)
          have c9 := blk_cell hby 9 (.int .i64 c.en) rfl
          clear hcs hby hbr
          generalize wr.alloc (Obj.cells (clvA c) 38) = w8 at *
          generalize wr.heap.size = q8 at *
          cases hb : m.testBit k
          case true =>
            have hb0 : (bits .and .u64 ((m : Int) / 2 ^ k) 1 == 0) = false := by rw [hbit, hb]; rfl
            have HFN := Lib.hid (firstI_skip HF.out (.inl hb))
            clear hbit hb
            go_wp2
            (try simp only [Exit.inBlock, Exit.then])
            refine HK2.out _ _ ?_
            clear HK2
            go_wp2
            go_roundw
            case rel => exact ⟨k + 1, lf, f, HLT.out, by simp, rfl, rfl, Lib.hid HFN.out, hbz⟩
            case measure => have := HLT.out; simp [intOf]; omega
          case false =>
            have hb0 : (bits .and .u64 ((m : Int) / 2 ^ k) 1 == 0) = true := by rw [hbit, hb]; rfl
            by_cases he : 0 < c.en
            case neg =>
              have HFN := Lib.hid (firstI_skip HF.out (.inr (.inl (by rw [HC2.out]; exact he))))
              clear hbit hb
              go_wp2
              (try simp only [Exit.inBlock, Exit.then])
              refine HK2.out _ _ ?_
              clear HK2
              go_wp2
              go_roundw
              case rel => exact ⟨k + 1, lf, f, HLT.out, by simp, rfl, rfl, Lib.hid HFN.out, hbz⟩
              case measure => have := HLT.out; simp [intOf]; omega
            case pos =>
              cases lf
              case false =>
                have HFN := Lib.hid (firstI_take HF.out hb (by rw [HC2.out]; exact he) (fun h => by cases h))
                rw [HC2.out] at HFN
                clear hbit hb
                go_wp2
                (try simp only [Exit.inBlock, Exit.then])
                refine HK2.out _ _ ?_
                clear HK2
                go_wp2
                go_roundw
                case rel => exact ⟨k + 1, true, c.en, HLT.out, by simp, rfl, rfl, Lib.hid HFN.out, hbz⟩
                case measure => have := HLT.out; simp [intOf]; omega
              case true =>
                by_cases hf : c.en < f
                case pos =>
                  have HFN := Lib.hid (firstI_take HF.out hb (by rw [HC2.out]; exact he) (fun _ => by rw [HC2.out]; exact hf))
                  rw [HC2.out] at HFN
                  clear hbit hb
                  go_wp2
                  (try simp only [Exit.inBlock, Exit.then])
                  refine HK2.out _ _ ?_
                  clear HK2
                  go_wp2
                  go_roundw
                  case rel => exact ⟨k + 1, true, c.en, HLT.out, by simp, rfl, rfl, Lib.hid HFN.out, hbz⟩
                  case measure => have := HLT.out; simp [intOf]; omega
                case neg =>
                  have HFN := Lib.hid (firstI_skip HF.out (.inr (.inr ⟨rfl, by rw [HC2.out]; exact hf⟩)))
                  clear hbit hb
                  go_wp2
                  (try simp only [Exit.inBlock, Exit.then])
                  refine HK2.out _ _ ?_
                  clear HK2
                  go_wp2
                  go_roundw
                  case rel => exact ⟨k + 1, true, f, HLT.out, by simp, rfl, rfl, Lib.hid HFN.out, hbz⟩
                  case measure => have := HLT.out; simp [intOf]; omega
        · obtain rfl : k = l.length := by omega
          go_wp2
          go_meet
          exact ⟨lf, f, rfl, rfl, HF, I6.below hbr, k6.trans (KS.of hbr (Nat.le_trans hBw k6.bl.size)), owns_bl S6 hbr⟩
    clear I6 k6 S6
    obtain ⟨lf, f, rfl, rfl, HF, I7, k7, S7⟩ := hcut
    refine hK _ _ ?_
    clear hK
    cases lf
    case false =>
      have hlf := firstI_left HF.out
      go_wp2
      (try simp only [Exit.noGoto])
      go_ret
      refine ⟨true, q, n + 1, _, rv, rfl, I7, k7, by have := hG.one (undM l m); omega, fun _ => ⟨[], by simp, .nil hlf⟩, fun h => (by cases h)⟩
    case true =>
      have hlf := firstI_left HF.out
      have HLF := Lib.hid hlf
      have HU := Lib.hid (left_und hlf)
      obtain ⟨D1, hD1⟩ : ∃ D1, D.put (spotL m st) (.lit (.int .i64 1)) = D1 := ⟨_, rfl⟩
      rw [hD1] at I7
      have hk1 := known_put (T := T) HM.out HOS.out HK.out HU.out
      rw [HST.out, hD1] at hk1
      have HK1 := Lib.hid hk1
      have HD1 := Lib.hid hD1
      clear hlf hk1 hD1 HC
      refine wp_seq_k (fun K hK => ?_)
      have HK := Lib.hid hK
      clear hK
      go_wp2
      refine HK.out _ _ ?_
      clear HK
      refine wp_seq_k (fun K hK => ?_)
      have HK0 := Lib.hid hK
      clear hK
      refine wp_label ?_
      refine HK0.out _ _ ?_
      clear HK0
      refine wp_seq_k (fun K hK => ?_)
      go_cut [] (fun wx => ∃ (n2 : Nat) (D2 : DataW Unit) (rv2 : Value), SIn T l w0 a cap xb mb wx rv2 q n2 D2 ∧ KS w0.heap.size w wx ∧ Hid (Known T l D2 (undM l m - 1) ∧ NewD T l D1 D2 (undM l m - 1) ∧ n2 ≤ n + 1 + candK l m l.length * G (undM l m - 1) ∧ Dead l m s))
      case first =>
        have c0 := I7.c0
        go_wp2
        go_loopw [76] (fun i wr => ∃ (k n2 : Nat) (D2 : DataW Unit) (rv2 : Value), k ≤ l.length ∧ i = .int .i64 k ∧ SIn T l w0 a cap xb mb wr rv2 q n2 D2 ∧ KS w0.heap.size w wr ∧ wr.ownsRow w0.heap.size 72 2 (.slice sa s.length scap) s.length (prs s) ∧ Hid (Known T l D2 (undM l m - 1) ∧ NewD T l D1 D2 (undM l m - 1) ∧ n2 ≤ n + 1 + candK l m k * G (undM l m - 1) ∧ ∀ j, j < k → m.testBit j = false → firstOk l m j = true → repOk l s j = true → Dead l (m ||| 2 ^ j) (doP s (clN l j).op).1)) (fun i _ => l.length - (intOf i).toNat)
        case atStart => exact ⟨0, n + 1, D1, rv, by omega, rfl, I7, k7, S7, Lib.hid ⟨HK1.out, NewD.refl _ _ _ _, by omega, fun j hj => absurd hj (by omega)⟩⟩
        case round =>
          clear c0 I7 k7 S7
          obtain ⟨k, n2, D2, rv2, hk, rfl, hI, hks, hS, HR⟩ := hrel
          by_cases hlt : k < l.length
          · have hBr := Nat.le_trans hBw hks.bl.size
            obtain ⟨bb, off, rfl, hcs⟩ := call_cells (hSl.row.below0 hI.bel) hlt
            have hbit := bit_get m k HM.out
            obtain ⟨c, hc⟩ : ∃ c, clN l k = c := ⟨_, rfl⟩
            rw [hc] at hcs
            have HC2 := Lib.hid hc
            have HLT := Lib.hid hlt
            clear hc
            refine wp_seq_k (fun K hK => ?_)
            have HK := Lib.hid hK
            clear hK
            go_wp2
            refine HK.out _ _ ?_
            clear HK
            refine wp_seq_k (fun K hK => ?_)
            have HK := Lib.hid hK
            clear hK
            go_wp2
            refine HK.out _ _ ?_
            clear HK
            refine wp_seq_k (fun K hK => ?_)
            have HK2 := Lib.hid hK
            clear hK
            refine wp_block ?_
            refine wp_seq_k (fun K hK => ?_)
            have HK := Lib.hid hK
            clear hK
            go_wp2_with (first
                          | ((with_reducible refine wpList_ldC 38 _ ?_); refine ⟨rfl, _, ⟨_, _, _, Tryd.isAgg38, Tryd.sizeOf38, rfl, (show (clvA c).size = 10 from rfl), hcs⟩, ?_⟩)
                          | ((first | (with_reducible refine wpList_stNew 38 _ _ ?_) | (with_reducible refine wp_stNew 38 _ _ ?_)); refine ⟨_, _, ⟨Tryd.sizeOf38, rfl, clv_new c⟩, rfl, ?_⟩))
            refine HK.out _ _ ?_
            clear HK
            have hby := heap_alloc_new wr (Obj.cells (clvA c) 38)
            have hbb := blw wr (Obj.cells (clvA c) 38)
            have I8 := hI.below hbb
            have k8 := hks.trans (KS.of hbb hBr)
            have S8 := owns_bl hS hbb
            have hB8 := Nat.le_trans hBr hbb.size
            have c8 := blk_cell hby 8 (.int .i64 c.st) rfl
            clear hcs hI hks hS hbb hBr
            generalize wr.alloc (Obj.cells (clvA c) 38) = w8 at *
            generalize wr.heap.size = q8 at *
            cases hb : m.testBit k
            case true =>
              have hb0 : (bits .and .u64 ((m : Int) / 2 ^ k) 1 == 1) = true := by rw [hbit, hb]; rfl
              have HN2 := Lib.hid (skip_bad HR.out (.inl hb))
              clear hbit hb
              go_wp2
              (try simp only [Exit.inBlock, Exit.then])
              refine HK2.out _ _ ?_
              clear HK2
              go_wp2
              go_roundw
              case rel => exact ⟨k + 1, n2, D2, rv2, HLT.out, by simp, I8, k8, S8, HN2⟩
              case measure => have := HLT.out; simp [intOf]; omega
            case false =>
              have hb0 : (bits .and .u64 ((m : Int) / 2 ^ k) 1 == 1) = false := by rw [hbit, hb]; rfl
              by_cases hf : f < c.st
              case pos =>
                have HN2 := Lib.hid (skip_bad HR.out (.inr (.inl (by rw [firstI_ok HF.out, HC2.out]; exact decide_eq_false (by omega)))))
                clear hbit hb
                go_wp2
                (try simp only [Exit.inBlock, Exit.then])
                refine HK2.out _ _ ?_
                clear HK2
                go_wp2
                go_roundw
                case rel => exact ⟨k + 1, n2, D2, rv2, HLT.out, by simp, I8, k8, S8, HN2⟩
                case measure => have := HLT.out; simp [intOf]; omega
              case neg =>
                have HFO := Lib.hid (show firstOk l m k = true by rw [firstI_ok HF.out, HC2.out]; exact decide_eq_true (by omega))
                have HB := Lib.hid hb
                clear hbit hb
                refine wp_seq_k (fun K hK => ?_)
                have HK := Lib.hid hK
                clear hK
                go_wp2
                refine HK.out _ _ ?_
                clear HK
                obtain ⟨⟨s2, r⟩, hd⟩ : ∃ z, doP s c.op = z := ⟨_, rfl⟩
                have hos2 : OkS s2 := by have h := doP_may c.op HOS.out; rw [hd] at h; exact h
                have HD := Lib.hid hd
                have HOS2 := Lib.hid hos2
                have h8 := (short_of HOS.out).1
                have hsl8 := SlP.owned S8
                have hdo := do_ownL sa scap s c.op w8 hsl8 (by omega) s2 r hd
                clear hd hos2 hsl8 c8
                refine wp_seq_k (fun K hK => ?_)
                have HK := Lib.hid hK
                clear hK
                go_wp2_with (first
                                  | ((with_reducible refine wpList_ldB 34 _ ?_); refine ⟨rfl, _, ⟨_, _, _, _, _, Tryd.isAgg34, Tryd.sizeOf34, rfl, ‹_›, clv_op c⟩, ?_⟩)
                                  | (go_at_call 17; refine hdo.mono ?_; rintro e w9 ⟨⟨na, ncap, rfl, hown9⟩, hb9⟩)
                                  | ((first | (with_reducible refine wpList_stNew 36 _ _ ?_) | (with_reducible refine wp_stNew 36 _ _ ?_)); refine ⟨_, _, ⟨Tryd.sizeOf36, rfl, rpl_new r⟩, rfl, ?_⟩))
                refine HK.out _ _ ?_
                clear HK
                have hrp := heap_alloc_new w9 (Obj.cells (rplL r) 36)
                have hb10 := hb9.trans ((blw w9 (Obj.cells (rplL r) 36)).mono hb9.size)
                have I10 := I8.below hb10
                have k10 := k8.trans (KS.of hb10 hB8)
                have S10 := owns_bl S8 hb10
                have N10 := owns_mono (owns_bl hown9 (blw w9 (Obj.cells (rplL r) 36))) hB8
                have hby10 := tr_bl hb10 hby
                have hB10 := Nat.le_trans hB8 hb10.size
                clear hdo hown9 hb9 hb10 I8 k8 S8 hby hB8
                generalize w9.alloc (Obj.cells (rplL r) 36) = w10 at *
                generalize w9.heap.size = q10 at *
                have c9 := blk_cell hby10 9 (.int .i64 c.en) rfl
                have c5 := blk_cell hby10 5 (.int .i64 c.rep.err) rfl
                have c6 := blk_cell hby10 6 (.bool c.rep.found) rfl
                have c7 := blk_cell hby10 7 (.string c.rep.val) rfl
                have z0 := blk_cell hrp 0 (.int .i64 r.err) rfl
                have z1 := blk_cell hrp 1 (.bool r.found) rfl
                have z2 := blk_cell hrp 2 (.string r.val) rfl
                refine wp_seq_k (fun K hK => ?_)
                go_cut [] (fun wx => Hid (repOk l s k = true) ∧ wx = w10)
                case first =>
                  by_cases he : 0 < c.en
                  case neg =>
                    go_wp2
                    go_meet
                    exact ⟨Lib.hid (by unfold repOk; rw [HC2.out, decide_eq_false (by omega)]; rfl), rfl⟩
                  case pos =>
                    cases y1 : (r.err == c.rep.err)
                    case false =>
                      have HN2 := Lib.hid (skip_bad HR.out (.inr (.inr (by unfold repOk; rw [HC2.out, HD.out, decide_eq_true he]; unfold rpEq; simp only; rw [y1]; simp))))
                      clear HFO
                      go_wp2
                      (try simp only [Exit.inBlock, Exit.then])
                      refine HK2.out _ _ ?_
                      clear HK2
                      go_wp2
                      go_roundw
                      case rel => exact ⟨k + 1, n2, D2, rv2, HLT.out, by simp, I10, k10, S10, HN2⟩
                      case measure => have := HLT.out; simp [intOf]; omega
                    case true =>
                      cases y2 : (r.found == c.rep.found)
                      case false =>
                        have HN2 := Lib.hid (skip_bad HR.out (.inr (.inr (by unfold repOk; rw [HC2.out, HD.out, decide_eq_true he]; unfold rpEq; simp only; rw [y1, y2]; simp))))
                        clear HFO
                        go_wp2
                        (try simp only [Exit.inBlock, Exit.then])
                        refine HK2.out _ _ ?_
                        clear HK2
                        go_wp2
                        go_roundw
                        case rel => exact ⟨k + 1, n2, D2, rv2, HLT.out, by simp, I10, k10, S10, HN2⟩
                        case measure => have := HLT.out; simp [intOf]; omega
                      case true =>
                        cases y3 : (r.val.toList == c.rep.val.toList)
                        case false =>
                          have HN2 := Lib.hid (skip_bad HR.out (.inr (.inr (by unfold repOk; rw [HC2.out, HD.out, decide_eq_true he]; unfold rpEq; simp only; rw [y1, y2, y3]; simp))))
                          clear HFO
                          go_wp2
                          (try simp only [Exit.inBlock, Exit.then])
                          refine HK2.out _ _ ?_
                          clear HK2
                          go_wp2
                          go_roundw
                          case rel => exact ⟨k + 1, n2, D2, rv2, HLT.out, by simp, I10, k10, S10, HN2⟩
                          case measure => have := HLT.out; simp [intOf]; omega
                        case true =>
                          have HRO := Lib.hid (show repOk l s k = true by unfold repOk; rw [HC2.out, HD.out]; unfold rpEq; simp only; rw [y1, y2, y3]; simp)
                          go_wp2
                          go_meet
                          exact ⟨HRO, rfl⟩
                obtain ⟨HRO, rfl⟩ := hcut
                refine hK _ _ ?_
                clear hK c5 c6 c7 c9 z0 z1 z2 hrp hby10
                have hund := und_or HLT.out HB.out
                have HUN := Lib.hid hund
                have hql : q.length ≤ 40 := by have := HQ.out; omega
                have c2 := I10.c2
                have hbI := blw wc (Obj.cells #[.int .i64 (k : Int)] 3)
                have I10a := I10.below hbI
                have nxi := heap_alloc_new wc (Obj.cells #[.int .i64 (k : Int)] 3)
                obtain ⟨rvb, rvc, rfl⟩ := row_slice I10.row
                clear hund
                refine wp_seq_k (fun K hK => ?_)
                have HK := Lib.hid hK
                clear hK
                go_wp2_with (first
                                  | (at_builtin; refine wpList_appendN' rfl _ _ 30 30 3 3 elIntL Tryd.underlying30 rfl w0.heap.size _ q.length _ rfl I10a.row ⟨wc.heap.size, 0, none⟩ 1 1 [.int .i64 (k : Int)] rfl rfl (new_rowL _ _ _) (by simp [Value.oneCell']) (by omega) (by decide) (Nat.le_trans hB10 hbI.size) ?_; intro v11 w11 O11 g11; have bx11 := tr_gb g11 I10a.box (own_ne I10a.row I10a.box (by decide)); have sl11 := row_slice O11)
                                  | ((with_reducible refine wpList_stB 30 _ _ ?_); refine ⟨_, _, _, ⟨_, _, _, Tryd.sizeOf30, rfl, bx11, sr_row _ _ _ _ _ v11 (by obtain ⟨b, c, e⟩ := sl11; exact ⟨_, _, _, e⟩)⟩, ?_⟩; intro w12 B12 g12))
                refine HK.out _ _ ?_
                clear HK
                have hBa := Nat.le_trans hB10 hbI.size
                obtain ⟨es, ck, hmb, _⟩ := I10a.map
                have hnx : mb ≠ xb := fun e => by have h := I10a.box; rw [← e, hmb] at h; cases h
                have M11 := I10a.map.kept g11 (own_neM I10a.row hmb)
                have ka : KS w0.heap.size wc w12 := (KS.of hbI hB10).trans ((KS.app I10a.row g11 hBa).trans (KS.st g12 bx11 (.inl rfl) I10.hx (Nat.le_trans hBa g11.size)))
                have k12 := k10.trans ka
                have I12 : SIn T l w0 (some ⟨bb, off, none⟩) cap xb mb w12 v11 (q ++ [(k : Int)]) n2 D2 := by
                  refine ⟨B12, ?_, M11.kept g12 (by simp [hnx]), I10.ones, I10.bel.trans ka.bl, I10.hx, I10.hm⟩
                  have h := owns_ne O11 g12 bx11 (by decide)
                  rw [List.length_append, List.length_singleton, List.map_append]
                  exact h
                have S12 := owns_ks S10 ka
                have N12 := owns_ks N10 ka
                have hrec := HIH.out (undM l (m ||| 2 ^ k)) (by have := HUN.out; omega) (m ||| 2 ^ k) s2 (q ++ [(k : Int)]) n2 D2 v11 (.slice na s2.length ncap) w12 rfl (mask_lt HM.out (by have := HLT.out; omega)) HOS2.out I12 N12 (by
                  rw [show undM l (m ||| 2 ^ k) = undM l m - 1 by have := HUN.out; omega]
                  exact HR.out.1) (grow_room hG HLF.out HN.out HR.out.2.2.1 HLT.out HB.out HFO.out HUN.out).1 (by have h1 := HUN.out; have h2 := HQ.out; rw [List.length_append, List.length_singleton]; omega)
                have HGR := Lib.hid (grow_room hG HLF.out HN.out HR.out.2.2.1 HLT.out HB.out HFO.out HUN.out)
                have hB12 := Nat.le_trans hBw k12.bl.size
                clear I10 I10a k10 S10 N10 hbI nxi c2 hmb hnx M11 ka I12 N12 O11 g11 bx11 sl11 B12 g12 hB10 hBa
                have hor := bit_or m k HM.out (by have := HLT.out; omega)
                refine wp_seq_k (fun K hK => ?_)
                have HK3 := Lib.hid hK
                clear hK
                go_wp2_with (go_at_call 23; refine hrec.mono ?_; rintro e w13 ⟨b', q3, n3, D3, rv3, rfl, I13, k13, hn3, hres⟩; have HRS := Lib.hid hres; have HN3 := Lib.hid hn3; clear hres hn3; cases b')
                · refine HK3.out _ _ ?_
                  clear HK3 hor hrec
                  obtain ⟨e1, K3, N3, dd⟩ := HRS.out.2 rfl
                  subst e1
                  have row13 := I13.row
                  rw [List.length_append, List.length_singleton, List.map_append] at row13
                  obtain ⟨r3b, r3c, rfl⟩ := row_slice row13
                  have hbd := (Below.refl w13.heap.size w13).drew
                  have I14 := I13.below hbd
                  have row14 := owns_bl row13 hbd
                  have k14 := (k12.trans k13).trans (KS.of hbd (Nat.le_trans hBw (k12.trans k13).bl.size))
                  have S14 := owns_bl (owns_ks S12 k13) hbd
                  have HE := Lib.hid (And.intro K3 (And.intro N3 dd))
                  have cb : w13.drew.cell? ⟨xb, 2, none⟩ = some (.slice r3b (q.length + 1) r3c) := blk_cell I14.box 2 _ rfl
                  clear K3 N3 dd I13 row13 k12 k13 S12 hbd
                  go_wp2_with fail
                  refine wp_region_held_drew (S := fun _ => True) (by kernel_rfl) trivial (fun hS0 => ?_)
                  clear hS0
                  have ST : True := trivial
                  have bx14 := I14.box
                  have hcap := own_cap row14
                  have hB14 := Nat.le_trans hBw k14.bl.size
                  obtain ⟨es, ck, hmb, _⟩ := I14.map
                  have hnx : mb ≠ xb := fun e => by have h := bx14; rw [← e, hmb] at h; cases h
                  generalize w13.drew = w14 at *
                  refine wpAnyH_take (i := 0) (oi := ⟨_, _, _, _, _, _⟩) (v := ?_) rfl (by kernel_rfl) (by kernel_rfl) (by kernel_rfl) (fun _ _ _ h => h) (Or.inl ⟨by rfl, ?_⟩) (by assumption) ?_
                  rotate_left
                  · intro wS hSw; go_simp; (try with_reducible rfl)
                  (try simp only [Act.put]); (try simp only [List.setIfInBounds_toArray]); (try simp only [List.set_cons_succ]); (try simp only [List.set_cons_zero])
                  refine wpAnyH_take (i := 1) (oi := ⟨_, _, _, _, _, _⟩) (v := ?_) rfl (by kernel_rfl) (by kernel_rfl) (by kernel_rfl) (fun _ _ _ h => h) (Or.inl ⟨by rfl, ?_⟩) (by assumption) ?_
                  rotate_left
                  · intro wS hSw; go_simp; (try with_reducible rfl)
                  (try simp only [Act.put]); (try simp only [List.setIfInBounds_toArray]); (try simp only [List.set_cons_succ]); (try simp only [List.set_cons_zero])
                  refine wpAnyH_take (i := 2) (oi := ⟨_, _, _, _, _, _⟩) (v := ?_) rfl (by kernel_rfl) (by kernel_rfl) (by kernel_rfl) (fun _ _ _ h => h) (Or.inl ⟨by rfl, ?_⟩) (by assumption) ?_
                  rotate_left
                  · intro wS hSw; go_simp; (try with_reducible rfl)
                  (try simp only [Act.put]); (try simp only [List.setIfInBounds_toArray]); (try simp only [List.set_cons_succ]); (try simp only [List.set_cons_zero])
                  refine wpAnyH_take (i := 3) (oi := ⟨_, _, _, _, _, _⟩) (v := ?_) rfl (by kernel_rfl) (by kernel_rfl) (by kernel_rfl) (fun _ _ _ h => h) (Or.inl ⟨by rfl, ?_⟩) (by assumption) ?_
                  rotate_left
                  · intro wS hSw; go_simp; (try with_reducible rfl)
                  (try simp only [Act.put]); (try simp only [List.setIfInBounds_toArray]); (try simp only [List.set_cons_succ]); (try simp only [List.set_cons_zero])
                  refine wpAnyH_take (i := 5) (oi := ⟨_, _, _, _, _, _⟩) (v := ?_) rfl (by kernel_rfl) (by kernel_rfl) (by kernel_rfl) (fun _ _ _ h => h) (Or.inl ⟨by rfl, ?_⟩) (by assumption) ?_
                  rotate_left
                  · intro wS hSw; go_simp; (try with_reducible rfl)
                  (try simp only [Act.put]); (try simp only [List.setIfInBounds_toArray]); (try simp only [List.set_cons_succ]); (try simp only [List.set_cons_zero])
                  refine wpAnyH_take (i := 6) (oi := ⟨_, _, _, _, _, _⟩) (v := ?_) rfl (by kernel_rfl) (by kernel_rfl) (by kernel_rfl) (fun _ _ _ h => h) (Or.inl ⟨by rfl, ?_⟩) (by assumption) ?_
                  rotate_left
                  · intro wS hSw; go_simp; (try with_reducible rfl)
                  (try simp only [Act.put]); (try simp only [List.setIfInBounds_toArray]); (try simp only [List.set_cons_succ]); (try simp only [List.set_cons_zero])
                  refine wpAnyH_take (i := 7) (oi := ⟨_, _, _, _, _, _⟩) (v := ?_) rfl (by kernel_rfl) (by kernel_rfl) (by kernel_rfl) (fun _ _ _ h => h) (Or.inl ⟨by rfl, ?_⟩) (by assumption) ?_
                  rotate_left
                  · intro wS hSw; go_simp; (try with_reducible rfl)
                  (try simp only [Act.put]); (try simp only [List.setIfInBounds_toArray]); (try simp only [List.set_cons_succ]); (try simp only [List.set_cons_zero])
                  refine wpAnyH_ready (rs := [4, 8]) (by kernel_rfl) (by simp) ?_
                  refine AllReadyH.cons (o := ⟨_, _, _, _, _, _⟩) rfl (fun K' hK' => ?_) (AllReadyH.cons (o := ⟨_, _, _, _, _, _⟩) rfl (fun K' hK' => ?_) AllReadyH.nil)
                  · refine (if_pos (by rfl)).mpr ?_
                    refine wp_runL (w' := w14) (v := .slice r3b (q.length + 1) r3c) (by go_simp) ?_
                    refine hK'.out _ _ trivial (fun _ => ?_)
                    (try simp only [Act.put]); (try simp only [List.setIfInBounds_toArray]); (try simp only [List.set_cons_succ]); (try simp only [List.set_cons_zero])
                    refine wpAnyH_ready (rs := [8]) (by kernel_rfl) (by simp) ?_
                    refine AllReadyH.cons (o := ⟨_, _, _, _, _, _⟩) rfl (fun K' hK' => ?_) AllReadyH.nil
                    refine (if_pos (by rfl)).mpr ?_
                    refine wp_runL (w' := w14) (v := .slice r3b (q.length + 1) r3c) (by go_simp) ?_
                    refine hK'.out _ _ trivial (fun _ => ?_)
                    (try simp only [Act.put]); (try simp only [List.setIfInBounds_toArray]); (try simp only [List.set_cons_succ]); (try simp only [List.set_cons_zero])
                    refine wpAnyH_take (i := 9) (oi := ⟨_, _, _, _, _, _⟩) (v := ?_) rfl (by kernel_rfl) (by kernel_rfl) (by kernel_rfl) (fun _ _ _ h => h) (Or.inl ⟨by rfl, ?_⟩) (by assumption) ?_
                    rotate_left
                    · intro wS hSw; go_simp; (try with_reducible rfl)
                    (try simp only [Act.put]); (try simp only [List.setIfInBounds_toArray]); (try simp only [List.set_cons_succ]); (try simp only [List.set_cons_zero])
                    refine wpAnyH_take (i := 10) (oi := ⟨_, _, _, _, _, _⟩) (v := .int .i64 (q.length : Int)) rfl (by kernel_rfl) (by kernel_rfl) (by kernel_rfl) (fun _ _ _ h => h) (Or.inl ⟨by rfl, fun wS hSw => ?_⟩) (by assumption) ?_
                    · go_simp; exact IntWalk.i64_in _ (by omega)
                    (try simp only [Act.put]); (try simp only [List.setIfInBounds_toArray]); (try simp only [List.set_cons_succ]); (try simp only [List.set_cons_zero])
                    refine wpAnyH_take (i := 11) (oi := ⟨_, _, _, _, _, _⟩) (v := .slice r3b q.length r3c) rfl (by kernel_rfl) (by kernel_rfl) (by kernel_rfl) (fun _ _ _ h => h) (Or.inl ⟨by rfl, fun wS hSw => ?_⟩) (by assumption) ?_
                    · go_simp; exact fun h => absurd h (by omega)
                    (try simp only [Act.put]); (try simp only [List.setIfInBounds_toArray]); (try simp only [List.set_cons_succ]); (try simp only [List.set_cons_zero])
                    refine wpAnyH_take (i := 12) (oi := ⟨_, _, _, _, _, _⟩) (v := ?_) rfl (by kernel_rfl) (by kernel_rfl) (by kernel_rfl) (fun _ _ _ h => h) (Or.inl ⟨by rfl, ?_⟩) (by assumption) ?_
                    rotate_left
                    · intro wS hSw; go_simp; (try with_reducible rfl)
                    (try simp only [Act.put]); (try simp only [List.setIfInBounds_toArray]); (try simp only [List.set_cons_succ]); (try simp only [List.set_cons_zero])
                    refine wpAnyH_take (i := 13) (oi := ⟨_, _, _, _, _, _⟩) (v := ?_) rfl (by kernel_rfl) (by kernel_rfl) (by kernel_rfl) (fun _ _ _ h => h) (Or.inl ⟨by rfl, ?_⟩) (by assumption) ?_
                    rotate_left
                    · intro wS hSw; go_simp; (try with_reducible rfl)
                    (try simp only [Act.put]); (try simp only [List.setIfInBounds_toArray]); (try simp only [List.set_cons_succ]); (try simp only [List.set_cons_zero])
                    refine wpAnyH_ready (rs := [14]) (by kernel_rfl) (by simp) ?_
                    refine AllReadyH.cons (o := ⟨_, _, _, _, _, _⟩) rfl (fun K' hK' => ?_) AllReadyH.nil
                    refine (if_pos (by rfl)).mpr ?_
                    refine wp_stB 30 _ _ ⟨_, _, _, ⟨_, _, _, Tryd.sizeOf30, rfl, bx14, sr_row _ _ _ _ _ (.slice r3b q.length r3c) ⟨_, _, _, rfl⟩⟩, ?_⟩
                    intro w15 B15 g15
                    refine hK'.out _ _ trivial (fun _ => ?_)
                    (try simp only [Act.put]); (try simp only [List.setIfInBounds_toArray]); (try simp only [List.set_cons_succ]); (try simp only [List.set_cons_zero])
                    refine wpAnyH_done (by kernel_rfl) ?_ _
                    have ks := KS.st g15 bx14 (.inl rfl) I14.hx hB14
                    have I15 : SIn T l w0 (some ⟨bb, off, none⟩) cap xb mb w15 (.slice r3b q.length r3c) q n3 D3 :=
                      ⟨B15, owns_ne (own_shrink row14) g15 bx14 (by decide), I14.map.kept g15 (by simp [hnx]), I14.ones, I14.bel.trans ks.bl, I14.hx, I14.hm⟩
                    have k15 := k14.trans ks
                    have S15 := owns_ks S14 ks
                    have HR2 := Lib.hid (round_end HR.out.2.1 HR.out.2.2.2 HE.out.1 HE.out.2.1 (by have := HE.out.2.2; rw [← HC2.out] at HD; rw [HD.out]; exact this) HUN.out (Nat.le_trans HN3.out HGR.out.2.1))
                    go_wp2
                    (try simp only [Exit.inBlock, Exit.then])
                    refine HK2.out _ _ ?_
                    clear HK2
                    go_wp2
                    go_roundw
                    case rel => exact ⟨k + 1, n3, D3, _, HLT.out, by simp, I15, k15, S15, HR2⟩
                    case measure => have := HLT.out; simp [intOf]; omega
                  · refine (if_pos (by rfl)).mpr ?_
                    refine wp_runL (w' := w14) (v := .slice r3b (q.length + 1) r3c) (by go_simp) ?_
                    refine hK'.out _ _ trivial (fun _ => ?_)
                    (try simp only [Act.put]); (try simp only [List.setIfInBounds_toArray]); (try simp only [List.set_cons_succ]); (try simp only [List.set_cons_zero])
                    refine wpAnyH_take (i := 9) (oi := ⟨_, _, _, _, _, _⟩) (v := ?_) rfl (by kernel_rfl) (by kernel_rfl) (by kernel_rfl) (fun _ _ _ h => h) (Or.inl ⟨by rfl, ?_⟩) (by assumption) ?_
                    rotate_left
                    · intro wS hSw; go_simp; (try with_reducible rfl)
                    (try simp only [Act.put]); (try simp only [List.setIfInBounds_toArray]); (try simp only [List.set_cons_succ]); (try simp only [List.set_cons_zero])
                    refine wpAnyH_take (i := 10) (oi := ⟨_, _, _, _, _, _⟩) (v := .int .i64 (q.length : Int)) rfl (by kernel_rfl) (by kernel_rfl) (by kernel_rfl) (fun _ _ _ h => h) (Or.inl ⟨by rfl, fun wS hSw => ?_⟩) (by assumption) ?_
                    · go_simp; exact IntWalk.i64_in _ (by omega)
                    (try simp only [Act.put]); (try simp only [List.setIfInBounds_toArray]); (try simp only [List.set_cons_succ]); (try simp only [List.set_cons_zero])
                    refine wpAnyH_ready (rs := [4]) (by kernel_rfl) (by simp) ?_
                    refine AllReadyH.cons (o := ⟨_, _, _, _, _, _⟩) rfl (fun K' hK' => ?_) AllReadyH.nil
                    refine (if_pos (by rfl)).mpr ?_
                    refine wp_runL (w' := w14) (v := .slice r3b (q.length + 1) r3c) (by go_simp) ?_
                    refine hK'.out _ _ trivial (fun _ => ?_)
                    (try simp only [Act.put]); (try simp only [List.setIfInBounds_toArray]); (try simp only [List.set_cons_succ]); (try simp only [List.set_cons_zero])
                    refine wpAnyH_take (i := 11) (oi := ⟨_, _, _, _, _, _⟩) (v := .slice r3b q.length r3c) rfl (by kernel_rfl) (by kernel_rfl) (by kernel_rfl) (fun _ _ _ h => h) (Or.inl ⟨by rfl, fun wS hSw => ?_⟩) (by assumption) ?_
                    · go_simp; exact fun h => absurd h (by omega)
                    (try simp only [Act.put]); (try simp only [List.setIfInBounds_toArray]); (try simp only [List.set_cons_succ]); (try simp only [List.set_cons_zero])
                    refine wpAnyH_take (i := 12) (oi := ⟨_, _, _, _, _, _⟩) (v := ?_) rfl (by kernel_rfl) (by kernel_rfl) (by kernel_rfl) (fun _ _ _ h => h) (Or.inl ⟨by rfl, ?_⟩) (by assumption) ?_
                    rotate_left
                    · intro wS hSw; go_simp; (try with_reducible rfl)
                    (try simp only [Act.put]); (try simp only [List.setIfInBounds_toArray]); (try simp only [List.set_cons_succ]); (try simp only [List.set_cons_zero])
                    refine wpAnyH_take (i := 13) (oi := ⟨_, _, _, _, _, _⟩) (v := ?_) rfl (by kernel_rfl) (by kernel_rfl) (by kernel_rfl) (fun _ _ _ h => h) (Or.inl ⟨by rfl, ?_⟩) (by assumption) ?_
                    rotate_left
                    · intro wS hSw; go_simp; (try with_reducible rfl)
                    (try simp only [Act.put]); (try simp only [List.setIfInBounds_toArray]); (try simp only [List.set_cons_succ]); (try simp only [List.set_cons_zero])
                    refine wpAnyH_ready (rs := [14]) (by kernel_rfl) (by simp) ?_
                    refine AllReadyH.cons (o := ⟨_, _, _, _, _, _⟩) rfl (fun K' hK' => ?_) AllReadyH.nil
                    refine (if_pos (by rfl)).mpr ?_
                    refine wp_stB 30 _ _ ⟨_, _, _, ⟨_, _, _, Tryd.sizeOf30, rfl, bx14, sr_row _ _ _ _ _ (.slice r3b q.length r3c) ⟨_, _, _, rfl⟩⟩, ?_⟩
                    intro w15 B15 g15
                    refine hK'.out _ _ trivial (fun _ => ?_)
                    (try simp only [Act.put]); (try simp only [List.setIfInBounds_toArray]); (try simp only [List.set_cons_succ]); (try simp only [List.set_cons_zero])
                    refine wpAnyH_done (by kernel_rfl) ?_ _
                    have ks := KS.st g15 bx14 (.inl rfl) I14.hx hB14
                    have I15 : SIn T l w0 (some ⟨bb, off, none⟩) cap xb mb w15 (.slice r3b q.length r3c) q n3 D3 :=
                      ⟨B15, owns_ne (own_shrink row14) g15 bx14 (by decide), I14.map.kept g15 (by simp [hnx]), I14.ones, I14.bel.trans ks.bl, I14.hx, I14.hm⟩
                    have k15 := k14.trans ks
                    have S15 := owns_ks S14 ks
                    have HR2 := Lib.hid (round_end HR.out.2.1 HR.out.2.2.2 HE.out.1 HE.out.2.1 (by have := HE.out.2.2; rw [← HC2.out] at HD; rw [HD.out]; exact this) HUN.out (Nat.le_trans HN3.out HGR.out.2.1))
                    go_wp2
                    (try simp only [Exit.inBlock, Exit.then])
                    refine HK2.out _ _ ?_
                    clear HK2
                    go_wp2
                    go_roundw
                    case rel => exact ⟨k + 1, n3, D3, _, HLT.out, by simp, I15, k15, S15, HR2⟩
                    case measure => have := HLT.out; simp [intOf]; omega
                · go_wp2
                  (try simp only [Exit.noGoto])
                  go_ret
                  refine ⟨true, q3, n3, D3, rv3, rfl, I13, k12.trans k13, Nat.le_trans HN3.out HGR.out.2.2, fun _ => ?_, fun h => (by cases h)⟩
                  obtain ⟨r', e1, e2⟩ := HRS.out.1 rfl
                  refine ⟨(k : Int) :: r', by rw [e1, List.append_assoc]; rfl, .cons k HLF.out HLT.out HB.out HFO.out HRO.out ?_⟩
                  rw [HC2.out, HD.out]
                  exact e2
          · obtain rfl : k = l.length := by omega
            go_wp2
            go_meet
            exact ⟨n2, D2, rv2, hI, hks, Lib.hid ⟨HR.out.1, HR.out.2.1, HR.out.2.2.1, dead_step HLF.out HR.out.2.2.2⟩⟩
      clear I7 k7 S7
      obtain ⟨n2, D2, rv2, hI, hks, HR⟩ := hcut
      refine hK _ _ ?_
      clear hK
      go_wp2
      (try simp only [Exit.noGoto])
      go_ret
      have hke := known_end (T := T) (D' := D2) HM.out HOS.out HK.out HR.out.1 (by rw [HST.out, HD1.out]; exact HR.out.2.1) HR.out.2.2.2
      have hst := hG.step m HLF.out
      have hcd := HR.out.2.2.1
      rw [candK_all] at hcd
      exact ⟨false, q, n2, D2, rv2, rfl, hI, hks, by omega, fun h => (by cases h), fun _ => ⟨rfl, hke.1, hke.2, HR.out.2.2.2⟩⟩
end
end Go.Proofs.YtaojblejnpemkaaDoor
namespace Go.Proofs.YtaojblejnpemkaaDoor
open Go.RowKit Go.Maps
theorem undM_zero (l : List Cl) : undM l 0 = l.length := by
  unfold undM
  rw [List.countP_eq_length.2 (by intro i _; simp), List.length_range]
def FindP (l : List Cl) (q : List Int) (b : Bool) : Prop :=
  (chk l ≠ 0 ∧ b = false) ∨ (chk l = 0 ∧ b = true ∧ holdsP l q = true) ∨ (chk l = 0 ∧ b = false ∧ ∀ r, holdsP l r = false)
section
variable {T : Lib.PrintTabs} {l : List Cl} {w : World} {a : Option Addr} {cap : Nat} {G : Nat → Nat}
set_option maxRecDepth 100000 in
set_option maxHeartbeats 8000000 in
theorem lfind_any (hT : Tabs T w) (hs : SlC w a cap l) (hG : Grow l G) (hn : G l.length ≤ 4611686018427387904) :
    Calls Tryd.prog 12 #[.slice a l.length cap] w fun e w' => (∃ (rv : Value) (q : List Int) (b : Bool), e = .returned (.tuple #[rv, .bool b, .int .i64 (chk l)]) ∧ w'.ownsRow w.heap.size 3 1 rv q.length (q.map (Value.int .i64)) ∧ FindP l q b) ∧ Below w.heap.size w w' := by
  obtain ⟨c, hc⟩ : ∃ c, chk l = c := ⟨_, rfl⟩
  have hce := check_zero a cap l w hs c hc
  have hmm := @run_makeMap Tryd.prog
  by_cases h0 : c = 0
  case neg =>
    go_enter Tryd.func12, Tryd.ntmps12
    refine wp_seq_k (fun K hK => ?_)
    have HK := Lib.hid hK
    clear hK
    go_wp2
    refine HK.out _ _ ?_
    clear HK
    go_wp2_with (go_at_call 22; refine hce.mono ?_; rintro e w1 ⟨rfl, hb1⟩)
    (try simp only [Exit.noGoto])
    go_ret3
    exact ⟨⟨_, [], false, by rw [hc]; rfl, World.ownsRow_nil _ _ _ _, .inl ⟨by rw [hc]; exact h0, rfl⟩⟩, hb1⟩
  case pos =>
    subst h0
    go_enter Tryd.func12, Tryd.ntmps12
    refine wp_seq_k (fun K hK => ?_)
    have HK := Lib.hid hK
    clear hK
    go_wp2
    refine HK.out _ _ ?_
    clear HK
    refine wp_seq_k (fun K hK => ?_)
    have HK := Lib.hid hK
    clear hK
    go_wp2_with (go_at_call 22; refine hce.mono ?_; rintro e w1 ⟨rfl, hb1⟩)
    refine HK.out _ _ ?_
    clear HK
    refine wp_seq_k (fun K hK => ?_)
    have HK := Lib.hid hK
    clear hK
    go_wp2
    refine HK.out _ _ ?_
    clear HK
    have hT1 := hT.below hb1
    have hs1 := hs.below hb1
    have OM := World.ownsMap_made (H := Unit) w1 Tryd.prog 79 (plainElem Tryd.prog 3)
    have bx := heap_alloc_new (w1.alloc (.map #[] 0)) (Obj.cells #[.slice a l.length cap, .map (some w1.heap.size), .slice none 0 0] 65)
    have hb2 := (blw w1 (Obj.map #[] 0)).trans ((blw (w1.alloc (.map #[] 0)) (Obj.cells #[.slice a l.length cap, .map (some w1.heap.size), .slice none 0 0] 65)).mono (by simp))
    rw [show (w1.alloc (.map #[] 0)).heap.size = w1.heap.size + 1 by simp] at bx
    have hsz : w1.heap.size + 1 < ((w1.alloc (.map #[] 0)).alloc (Obj.cells #[.slice a l.length cap, .map (some w1.heap.size), .slice none 0 0] 65)).heap.size := by simp
    have I : SIn T l w1 a cap (w1.heap.size + 1) w1.heap.size ((w1.alloc (.map #[] 0)).alloc (Obj.cells #[.slice a l.length cap, .map (some w1.heap.size), .slice none 0 0] 65)) (.slice none 0 0) [] 0 (.map []) :=
      ⟨bx, World.ownsRow_nil _ _ _ _, OM.alloc _, ones_nil T, hb2, Nat.le_succ _, Nat.le_refl _⟩
    have hrec := from_any hT1 hs1 hc hG l.length 0 [] [] 0 (.map []) (.slice none 0 0) (.slice none 0 0) _ (undM_zero l) (by decide) (show mayS [] = true from rfl) I (World.ownsRow_nil _ _ _ _) (known_nil T l _) (by omega) (by have := chk_len hc; simp; omega)
    clear OM bx I hce hmm
    generalize (w1.alloc (.map #[] 0)).alloc (Obj.cells #[.slice a l.length cap, .map (some w1.heap.size), .slice none 0 0] 65) = w2 at *
    generalize w1.heap.size + 1 = xb at *
    rw [show ((0 : Nat) : Int) = 0 from rfl] at hrec
    refine wp_seq_k (fun K hK => ?_)
    have HK3 := Lib.hid hK
    clear hK hsz hn hG
    have HB1 := Lib.hid hb1
    have HB2 := Lib.hid hb2
    clear hb1 hb2
    go_wp2_with (go_at_call 23; refine hrec.mono ?_; rintro e w3 ⟨b', q3, n3, D3, rv3, rfl, I3, k3, hn3, hres⟩; have HRS := Lib.hid hres; clear hres hn3 hrec; obtain ⟨r3b, r3c, rfl⟩ := row_slice I3.row; cases b')
    · go_ret3
      have hd := (HRS.out.2 rfl).2.2.2
      refine ⟨⟨_, [], false, by rw [hc]; rfl, World.ownsRow_nil _ _ _ _, .inr (.inr ⟨hc, rfl, fun r => ?_⟩)⟩, HB1.out.trans ((HB2.out.trans k3.bl).mono HB1.out.size)⟩
      cases h : holdsP l r
      · rfl
      · obtain ⟨r', h'⟩ := ord_exists hc h
        exact absurd h' (hd r')
    · refine HK3.out _ _ ?_
      clear HK3
      have c2 := I3.c2
      go_wp2
      (try simp only [Exit.noGoto])
      go_ret3
      obtain ⟨r', e3, ho⟩ := HRS.out.1 rfl
      refine ⟨⟨_, q3, true, by rw [hc]; rfl, owns_mono I3.row HB1.out.size, .inr (.inl ⟨hc, rfl, ?_⟩)⟩, HB1.out.trans ((HB2.out.trans k3.bl).mono HB1.out.size)⟩
      rw [List.nil_append] at e3
      subst e3
      exact ho.holds hc
set_option maxRecDepth 100000 in
theorem order_any (hT : Tabs T w) (hs : SlC w a cap l) (hG : Grow l G) (hn : G l.length ≤ 4611686018427387904) :
    Calls Tryd.prog 11 #[.slice a l.length cap] w fun e w' => (∃ (q : List Int) (b : Bool), e = .returned (.tuple #[.bool b, .int .i64 (chk l)]) ∧ FindP l q b) ∧ Below w.heap.size w w' := by
  have hfi := lfind_any hT hs hG hn
  go_enter Tryd.func11, Tryd.ntmps11
  refine wp_seq_k (fun K hK => ?_)
  have HK := Lib.hid hK
  clear hK
  go_wp2
  refine HK.out _ _ ?_
  clear HK
  refine wp_seq_k (fun K hK => ?_)
  have HK := Lib.hid hK
  clear hK
  go_wp2_with (go_at_call 12; refine hfi.mono ?_; rintro e w1 ⟨⟨rv, q, b, rfl, _, hf⟩, hb1⟩)
  refine HK.out _ _ ?_
  clear HK
  go_wp2
  go_ret2
  exact ⟨⟨q, b, rfl, hf⟩, hb1⟩
theorem FindP.iff {q : List Int} {b : Bool} (h : FindP l q b) : b = true ↔ ∃ r, holdsP l r = true := by
  rcases h with ⟨h1, rfl⟩ | ⟨_, rfl, h2⟩ | ⟨_, rfl, h2⟩
  · exact ⟨fun h => (by cases h), fun ⟨r, h⟩ => by rw [holdsP_bad h1] at h; cases h⟩
  · exact ⟨fun _ => ⟨q, h2⟩, fun _ => rfl⟩
  · exact ⟨fun h => (by cases h), fun ⟨r, h⟩ => by rw [h2] at h; cases h⟩
end
end Go.Proofs.YtaojblejnpemkaaDoor
namespace Go.Proofs.YtaojblejnpemkaaDoor
def deadB (l : List Cl) : Nat → Nat → List Pr → Bool
  | 0, _, _ => false
  | f + 1, m, s => leftM l m && (List.range l.length).all fun j => m.testBit j || (!firstOk l m j || (!repOk l s j || deadB l f (m ||| 2 ^ j) (doP s (clN l j).op).1))
theorem dead_of {l : List Cl} : ∀ (f m : Nat) (s : List Pr), deadB l f m s = true → Dead l m s
  | 0, _, _, h => by cases h
  | f + 1, m, s, h => by
    unfold deadB at h
    rw [Bool.and_eq_true, List.all_eq_true] at h
    refine dead_step h.1 fun j hj h1 h2 h3 => ?_
    have h4 := h.2 j (List.mem_range.2 hj)
    rw [h1, h2, h3] at h4
    exact dead_of f _ _ (by simpa using h4)
theorem none_of {l : List Cl} (f : Nat) (h : deadB l f 0 [] = true) : ¬ ∃ r, holdsP l r = true := by
  rintro ⟨r, h1⟩
  by_cases hc : chk l = 0
  · obtain ⟨r', h'⟩ := ord_exists hc h1
    exact dead_of f _ _ h r' h'
  · rw [holdsP_bad hc] at h1
    cases h1
abbrev oneT : Tx := ⟨#[49]⟩
abbrev noT : Tx := ⟨#[]⟩
def repV (v : Tx) : Rp := ⟨0, !v.toList.isEmpty, v⟩
def putC (st en : Int) (v : Tx) : Cl := ⟨0, ⟨2, ⟨#[97]⟩, noT, oneT⟩, if 0 < en then repV v else ⟨0, false, noT⟩, st, en⟩
def getC (st en : Int) (v : Tx) : Cl := ⟨1, ⟨1, ⟨#[97]⟩, noT, noT⟩, repV v, st, en⟩
theorem aw1 : chk [getC 2 2 noT] = 2 := by kernel_rfl
theorem aw2 : chk [] = 0 := by kernel_rfl
theorem aw3 : ∃ r, holdsP [putC 1 2 noT, getC 3 4 oneT] r = true := ⟨[0, 1], by kernel_rfl⟩
theorem aw4 : ¬ ∃ r, holdsP [putC 1 2 noT, getC 3 4 noT] r = true := none_of 3 (by kernel_rfl)
theorem aw5 : ∃ r, holdsP [putC 1 4 noT, getC 2 3 noT, getC 2 3 oneT] r = true := ⟨[1, 0, 2], by kernel_rfl⟩
theorem aw6 : ∃ r, holdsP [putC 1 0 noT, getC 5 6 oneT, getC 7 8 oneT] r = true := ⟨[0, 1, 2], by kernel_rfl⟩
theorem aw7 : ¬ ∃ r, holdsP [putC 1 0 noT, getC 5 6 oneT, getC 7 8 noT] r = true := none_of 4 (by kernel_rfl)
theorem aw8 : ¬ ∃ r, holdsP [putC 1 2 ⟨#[55]⟩] r = true := none_of 2 (by kernel_rfl)
theorem aw9 : ∃ r, holdsP [] r = true := ⟨[], by kernel_rfl⟩
end Go.Proofs.YtaojblejnpemkaaDoor
namespace Go.Proofs.YtaojblejnpemkaaDoor
open Go.RowKit Go.Maps
set_option maxRecDepth 100000 in
theorem aget_any (st en : Int) (v : Tx) (w : World) : Calls Tryd.prog 25 #[.int .i64 st, .int .i64 en, .string v] w fun e w' => e = .returned (callV (getC st en v)) ∧ Below w.heap.size w w' := by
  go_enter Tryd.func25, Tryd.ntmps25
  refine wp_seq_k (fun K hK => ?_)
  have HK := Lib.hid hK
  clear hK
  go_wp2
  refine HK.out _ _ ?_
  clear HK
  refine wp_seq_k (fun K hK => ?_)
  have HK := Lib.hid hK
  clear hK
  go_wp2
  refine HK.out _ _ ?_
  clear HK
  go_wp2
  refine bodyPost_ret (results_c1 rfl rfl (run_loadVar_all Tryd.isAgg38 Tryd.sizeOf38 (heap_alloc_new w _) rfl)) rfl ⟨rfl, by (repeat' (first | (with_reducible exact Below.refl _ _) | (with_reducible assumption) | (with_reducible refine Below.alloc ?_ ?_ _) | (with_reducible refine Below.drew ?_) | (with_reducible refine below_drewN ?_ _) | (with_reducible refine Below.setCell ?_ ?_ _) | (with_reducible refine Below.trans ?_ (by assumption)) | go_size))⟩
set_option maxRecDepth 100000 in
theorem aput_any (st en : Int) (v : Tx) (w : World) : Calls Tryd.prog 26 #[.int .i64 st, .int .i64 en, .string v] w fun e w' => e = .returned (callV (putC st en v)) ∧ Below w.heap.size w w' := by
  go_enter Tryd.func26, Tryd.ntmps26
  refine wp_seq_k (fun K hK => ?_)
  have HK := Lib.hid hK
  clear hK
  go_wp2
  refine HK.out _ _ ?_
  clear HK
  by_cases he : 0 < en
  case neg =>
    go_wp2
    refine bodyPost_ret (results_c1 rfl rfl (run_loadVar_all Tryd.isAgg38 Tryd.sizeOf38 (tr_al _ (heap_alloc_new w _)) rfl)) rfl ⟨by unfold putC; rw [if_neg (by omega)]; rfl, by (repeat' (first | (with_reducible exact Below.refl _ _) | (with_reducible assumption) | (with_reducible refine Below.alloc ?_ ?_ _) | (with_reducible refine Below.drew ?_) | (with_reducible refine below_drewN ?_ _) | (with_reducible refine Below.setCell ?_ ?_ _) | (with_reducible refine Below.trans ?_ (by assumption)) | go_size))⟩
  case pos =>
    go_wp2
    refine bodyPost_ret (results_c1 rfl rfl (run_loadVar_all Tryd.isAgg38 Tryd.sizeOf38 (tr_al _ (heap_alloc_new w _)) rfl)) rfl ⟨by unfold putC; rw [if_pos he]; rfl, by (repeat' (first | (with_reducible exact Below.refl _ _) | (with_reducible assumption) | (with_reducible refine Below.alloc ?_ ?_ _) | (with_reducible refine Below.drew ?_) | (with_reducible refine below_drewN ?_ _) | (with_reducible refine Below.setCell ?_ ?_ _) | (with_reducible refine Below.trans ?_ (by assumption)) | go_size))⟩
structure Aw (T : Lib.PrintTabs) (w0 w : World) : Prop where
  tabs : Tabs T w
  bel : Below w0.heap.size w0 w
section
variable {T : Lib.PrintTabs} {l : List Cl} {w0 w w' : World} {a : Option Addr} {cap : Nat} {G : Nat → Nat}
theorem Aw.below (h : Aw T w0 w) (hb : Below w.heap.size w w') : Aw T w0 w' := ⟨h.tabs.below hb, h.bel.trans (hb.mono h.bel.size)⟩
theorem aget_aw (h : Aw T w0 w) (st en : Int) (v : Tx) : Calls Tryd.prog 25 #[.int .i64 st, .int .i64 en, .string v] w fun e w' => e = .returned (callV (getC st en v)) ∧ Aw T w0 w' := (aget_any st en v w).mono fun _ _ h1 => ⟨h1.1, h.below h1.2⟩
theorem aput_aw (h : Aw T w0 w) (st en : Int) (v : Tx) : Calls Tryd.prog 26 #[.int .i64 st, .int .i64 en, .string v] w fun e w' => e = .returned (callV (putC st en v)) ∧ Aw T w0 w' := (aput_any st en v w).mono fun _ _ h1 => ⟨h1.1, h.below h1.2⟩
def fac : Nat → Nat
  | 0 => 1
  | j + 1 => 1 + (j + 1) * fac j
theorem candM_und (l : List Cl) (m : Nat) : candM l m ≤ undM l m := by
  unfold candM undM
  refine List.countP_mono_left fun i _ h => ?_
  simp only [Bool.and_eq_true] at h
  exact h.1
theorem fac_pos : ∀ j, 1 ≤ fac j
  | 0 => Nat.le_refl _
  | j + 1 => by unfold fac; omega
theorem grow_fac (l : List Cl) : Grow l fac := by
  refine ⟨fac_pos, fun m hm => ?_⟩
  have h1 := left_und hm
  have h2 := candM_und l m
  obtain ⟨u, hu⟩ : ∃ u, undM l m = u + 1 := ⟨undM l m - 1, by omega⟩
  rw [hu]
  rw [hu] at h2
  show 1 + candM l m * fac u ≤ 1 + (u + 1) * fac u
  have := Nat.mul_le_mul_right (fac u) h2
  omega
theorem FindP.zero {q : List Int} {b : Bool} (h : FindP l q b) (hb : b = true) : chk l = 0 := by
  rcases h with ⟨_, h⟩ | ⟨h, _⟩ | ⟨h, _⟩
  · rw [hb] at h; cases h
  · exact h
  · exact h
set_option maxRecDepth 100000 in
set_option maxHeartbeats 400000 in
theorem orders_any (hT : Tabs T w) (hs : SlC w a cap l) (hG : Grow l G) (hn : G l.length ≤ 4611686018427387904) :
    Calls Tryd.prog 18 #[.slice a l.length cap] w fun e w' => (∃ b : Bool, e = .returned (.bool b) ∧ (b = true ↔ ∃ r, holdsP l r = true)) ∧ Below w.heap.size w w' := by
  have hor := order_any hT hs hG hn
  go_enter Tryd.func18, Tryd.ntmps18
  refine wp_seq_k (fun K hK => ?_)
  have HK := Lib.hid hK
  clear hK
  go_wp2
  refine HK.out _ _ ?_
  clear HK
  refine wp_seq_k (fun K hK => ?_)
  have HK := Lib.hid hK
  clear hK
  go_wp2_with (go_at_call 11; refine hor.mono ?_; rintro e w1 ⟨⟨q, b, rfl, hf⟩, hb1⟩; have HZ := Lib.hid hf.zero; have HI := Lib.hid hf.iff; clear hf hor hT hs hG hn; generalize chk l = c at *; generalize l.length = nl at *)
  refine HK.out _ _ ?_
  clear HK
  cases b
  · clear HZ
    go_wp2
    go_ret
    exact ⟨⟨_, rfl, HI.out⟩, hb1⟩
  · obtain rfl := HZ.out rfl
    clear HZ
    go_wp2
    go_ret
    exact ⟨.inr ⟨rfl, HI.out.1 trivial⟩, hb1⟩
end
end Go.Proofs.YtaojblejnpemkaaDoor
namespace Go.Proofs.YtaojblejnpemkaaDoor
open Go.RowKit Go.Maps
section
variable {T : Lib.PrintTabs} {l : List Cl} {w0 w w' : World} {a : Option Addr} {cap : Nat}
theorem aput_w (h : Aw T w0 w) (st en : Int) (v : Tx) (f : Bool) (v' : Tx) (hr : (putC st en v).rep = ⟨0, f, v'⟩) : Calls Tryd.prog 26 #[.int .i64 st, .int .i64 en, .string v] w fun e w' => e = .returned (.agg #[.int .i64 0, .int .u8 2, .string ⟨#[97]⟩, .string ⟨#[]⟩, .string ⟨#[49]⟩, .int .i64 0, .bool f, .string v', .int .i64 st, .int .i64 en]) ∧ Aw T w0 w' := by
  refine (aput_aw h st en v).mono fun e w' h1 => ⟨?_, h1.2⟩
  rw [h1.1]
  unfold callV
  rw [hr]
  rfl
theorem aget_w (h : Aw T w0 w) (st en : Int) (v : Tx) (f : Bool) (v' : Tx) (hr : (getC st en v).rep = ⟨0, f, v'⟩) : Calls Tryd.prog 25 #[.int .i64 st, .int .i64 en, .string v] w fun e w' => e = .returned (.agg #[.int .i64 1, .int .u8 1, .string ⟨#[97]⟩, .string ⟨#[]⟩, .string ⟨#[]⟩, .int .i64 0, .bool f, .string v', .int .i64 st, .int .i64 en]) ∧ Aw T w0 w' := by
  refine (aget_aw h st en v).mono fun e w' h1 => ⟨?_, h1.2⟩
  rw [h1.1]
  unfold callV
  rw [hr]
  rfl
theorem fac_room {n : Nat} (h : n ≤ 12) : fac n ≤ 4611686018427387904 := by
  have : ∀ k, k ≤ 12 → fac k ≤ 4611686018427387904 := by decide
  exact this n h
theorem slc_new {w : World} {T : TypeId} {cs : Array Value} {l : List Cl} (hcs : cs = (calls l).toArray) (hl : l.length ≤ 40) : SlC (w.alloc (.cells cs T)) (some ⟨w.heap.size, 0, none⟩) l.length l := by
  subst hcs
  refine ⟨Row.of_block (heap_alloc_new w _) 0 (fun i u h => by rw [Nat.zero_add]; exact h), Nat.le_refl _, by unfold maxLen; omega⟩
theorem bool_iff {b b' : Bool} {p : Prop} (h : b = true ↔ p) (h' : p ↔ b' = true) : b = b' := by
  cases b <;> cases b' <;> simp_all
theorem order_aw (h : Aw T w0 w) (hs : SlC w a cap l) (hl : l.length ≤ 12) (c : Int) (b : Bool) (hc : chk l = c) (hb : (∃ r, holdsP l r = true) ↔ b = true) :
    Calls Tryd.prog 11 #[.slice a l.length cap] w fun e w' => e = .returned (.tuple #[.bool b, .int .i64 c]) ∧ Aw T w0 w' := by
  refine (order_any h.tabs hs (grow_fac l) (fac_room hl)).mono fun e w' h1 => ?_
  obtain ⟨⟨q, b', rfl, hf⟩, hb1⟩ := h1
  exact ⟨by rw [hc, bool_iff hf.iff hb], h.below hb1⟩
theorem orders_aw (h : Aw T w0 w) (hs : SlC w a cap l) (hl : l.length ≤ 12) (b : Bool) (hb : (∃ r, holdsP l r = true) ↔ b = true) :
    Calls Tryd.prog 18 #[.slice a l.length cap] w fun e w' => e = .returned (.bool b) ∧ Aw T w0 w' := by
  refine (orders_any h.tabs hs (grow_fac l) (fac_room hl)).mono fun e w' h1 => ?_
  obtain ⟨⟨b', rfl, hf⟩, hb1⟩ := h1
  exact ⟨by rw [bool_iff hf hb], h.below hb1⟩
theorem orders_new (h : Aw T w0 w) (l : List Cl) (cs : Array Value) (n : Nat) (hcs : cs = (calls l).toArray) (hn : n = l.length) (hl : l.length ≤ 12) (b : Bool) (hb : (∃ r, holdsP l r = true) ↔ b = true) :
    Calls Tryd.prog 18 #[.slice (some ⟨w.heap.size, 0, none⟩) n n] (w.alloc (.cells cs 38)) fun e w' => e = .returned (.bool b) ∧ Aw T w0 w' := by
  subst hn
  exact orders_aw (h.below (blw w _)) (slc_new hcs (by omega)) hl b hb
theorem order_new (h : Aw T w0 w) (l : List Cl) (cs : Array Value) (n : Nat) (hcs : cs = (calls l).toArray) (hn : n = l.length) (hl : l.length ≤ 12) (c : Int) (b : Bool) (hc : chk l = c) (hb : (∃ r, holdsP l r = true) ↔ b = true) :
    Calls Tryd.prog 11 #[.slice (some ⟨w.heap.size, 0, none⟩) n n] (w.alloc (.cells cs 38)) fun e w' => e = .returned (.tuple #[.bool b, .int .i64 c]) ∧ Aw T w0 w' := by
  subst hn
  exact order_aw (h.below (blw w _)) (slc_new hcs (by omega)) hl c b hc hb
theorem yes {p : Prop} (h : p) : p ↔ true = true := ⟨fun _ => rfl, fun _ => h⟩
theorem nope {p : Prop} (h : ¬ p) : p ↔ false = true := ⟨fun x => absurd x h, fun x => (by cases x)⟩
theorem aw1n : ¬ ∃ r, holdsP [getC 2 2 noT] r = true := fun ⟨r, h⟩ => by rw [holdsP_bad (by rw [aw1]; decide)] at h; cases h
set_option maxRecDepth 100000 in
set_option maxHeartbeats 40000000 in
theorem awake_any (hT : Tabs T w) : Calls Tryd.prog 14 #[] w fun e w' => e = .returned (.bool true) ∧ Aw T w w' := by
  have hA : Aw T w w := ⟨hT, Below.refl _ _⟩
  have hnil := fun (u : World) (h : Aw T w u) => order_aw (l := []) (a := none) (cap := 0) h ⟨.inl rfl, Nat.le_refl _, Nat.zero_le _⟩ (by decide) 0 true aw2 (yes aw9)
  clear hT
  go_enter Tryd.func14, Tryd.ntmps14
  refine wp_seq_k (fun K hK => ?_)
  have HK := Lib.hid hK
  clear hK
  go_wp2
  refine HK.out _ _ ?_
  clear HK
  refine wp_seq_k (fun K hK => ?_)
  have HK := Lib.hid hK
  clear hK
  go_wp2_with (first
      | (go_at_call 25; refine (aget_w hA 2 2 noT false noT (by kernel_rfl)).mono ?_; clear hA; rintro e wN ⟨rfl, hA⟩)
      | (go_at_call 11; refine (order_new hA [getC 2 2 noT] _ _ (by kernel_rfl) rfl (by decide) 2 false aw1 (nope aw1n)).mono ?_; clear hA; rintro e wN ⟨rfl, hA⟩))
  refine HK.out _ _ ?_
  clear HK
  refine wp_seq_k (fun K hK => ?_)
  have HK := Lib.hid hK
  clear hK
  go_wp2_with (go_at_call 11; refine (hnil _ hA).mono ?_; clear hA; rintro e wN ⟨rfl, hA⟩)
  refine HK.out _ _ ?_
  clear HK
  go_wp2_with fail
  go_at_call 26
  refine (aput_w hA 1 2 noT false noT (by kernel_rfl)).mono ?_
  clear hA
  rintro e wN ⟨rfl, hA⟩
  go_wp2_with fail
  go_at_call 25
  refine (aget_w hA 3 4 oneT true oneT (by kernel_rfl)).mono ?_
  clear hA
  rintro e wN ⟨rfl, hA⟩
  go_wp2_with fail
  go_at_call 18
  refine (orders_new hA [putC 1 2 noT, getC 3 4 oneT] _ _ (by kernel_rfl) rfl (by decide) true (yes aw3)).mono ?_
  clear hA
  rintro e wN ⟨rfl, hA⟩
  go_wp2_with fail
  go_at_call 26
  refine (aput_w hA 1 2 noT false noT (by kernel_rfl)).mono ?_
  clear hA
  rintro e wN ⟨rfl, hA⟩
  go_wp2_with fail
  go_at_call 25
  refine (aget_w hA 3 4 noT false noT (by kernel_rfl)).mono ?_
  clear hA
  rintro e wN ⟨rfl, hA⟩
  go_wp2_with fail
  go_at_call 18
  refine (orders_new hA [putC 1 2 noT, getC 3 4 noT] _ _ (by kernel_rfl) rfl (by decide) false (nope aw4)).mono ?_
  clear hA
  rintro e wN ⟨rfl, hA⟩
  go_wp2_with fail
  go_at_call 26
  refine (aput_w hA 1 4 noT false noT (by kernel_rfl)).mono ?_
  clear hA
  rintro e wN ⟨rfl, hA⟩
  go_wp2_with fail
  go_at_call 25
  refine (aget_w hA 2 3 noT false noT (by kernel_rfl)).mono ?_
  clear hA
  rintro e wN ⟨rfl, hA⟩
  go_wp2_with fail
  go_at_call 25
  refine (aget_w hA 2 3 oneT true oneT (by kernel_rfl)).mono ?_
  clear hA
  rintro e wN ⟨rfl, hA⟩
  go_wp2_with fail
  go_at_call 18
  refine (orders_new hA [putC 1 4 noT, getC 2 3 noT, getC 2 3 oneT] _ _ (by kernel_rfl) rfl (by decide) true (yes aw5)).mono ?_
  clear hA
  rintro e wN ⟨rfl, hA⟩
  go_wp2_with fail
  go_at_call 26
  refine (aput_w hA 1 0 noT false noT (by kernel_rfl)).mono ?_
  clear hA
  rintro e wN ⟨rfl, hA⟩
  go_wp2_with fail
  go_at_call 25
  refine (aget_w hA 5 6 oneT true oneT (by kernel_rfl)).mono ?_
  clear hA
  rintro e wN ⟨rfl, hA⟩
  go_wp2_with fail
  go_at_call 25
  refine (aget_w hA 7 8 oneT true oneT (by kernel_rfl)).mono ?_
  clear hA
  rintro e wN ⟨rfl, hA⟩
  go_wp2_with fail
  go_at_call 18
  refine (orders_new hA [putC 1 0 noT, getC 5 6 oneT, getC 7 8 oneT] _ _ (by kernel_rfl) rfl (by decide) true (yes aw6)).mono ?_
  clear hA
  rintro e wN ⟨rfl, hA⟩
  go_wp2_with fail
  go_at_call 26
  refine (aput_w hA 1 0 noT false noT (by kernel_rfl)).mono ?_
  clear hA
  rintro e wN ⟨rfl, hA⟩
  go_wp2_with fail
  go_at_call 25
  refine (aget_w hA 5 6 oneT true oneT (by kernel_rfl)).mono ?_
  clear hA
  rintro e wN ⟨rfl, hA⟩
  go_wp2_with fail
  go_at_call 25
  refine (aget_w hA 7 8 noT false noT (by kernel_rfl)).mono ?_
  clear hA
  rintro e wN ⟨rfl, hA⟩
  go_wp2_with fail
  go_at_call 18
  refine (orders_new hA [putC 1 0 noT, getC 5 6 oneT, getC 7 8 noT] _ _ (by kernel_rfl) rfl (by decide) false (nope aw7)).mono ?_
  clear hA
  rintro e wN ⟨rfl, hA⟩
  go_wp2_with fail
  go_at_call 26
  refine (aput_w hA 1 2 ⟨#[55]⟩ true ⟨#[55]⟩ (by kernel_rfl)).mono ?_
  clear hA
  rintro e wN ⟨rfl, hA⟩
  go_wp2_with fail
  go_at_call 18
  refine (orders_new hA [putC 1 2 ⟨#[55]⟩] _ _ (by kernel_rfl) rfl (by decide) false (nope aw8)).mono ?_
  clear hA
  rintro e wN ⟨rfl, hA⟩
  go_wp2
  go_ret
  exact ⟨rfl, hA⟩
end
end Go.Proofs.YtaojblejnpemkaaDoor
namespace Go.Proofs.YtaojblejnpemkaaDoor
open Go.ChangeShapes Go.WideShapes Go.ChangeAt Go.RowKit
section
variable {H : Type} {enc : TypeId × Value → H} {P : Program} {w : World} {base : Nat} {spare : Nat → Bool} {held : Bool}
theorem trod_st5 {t : TypeId} {f0 f1 f2 f3 f4 : Field} {fuel : Nat} {cs : List Value} {x : DataW H × List MemPlace} (ht : P.underlying t = some (.struct #[f0, f1, f2, f3, f4])) (h : DataW.trod enc P w base spare held fuel t cs = some x) :
    ∃ y0 y1 y2 y3 y4 n, cs.length = P.cellsOf t ∧ DataW.trod enc P w base spare held n f0.type ((cs.drop f0.offset).take (P.cellsOf f0.type)) = some y0 ∧
      DataW.trod enc P w base spare held n f1.type ((cs.drop f1.offset).take (P.cellsOf f1.type)) = some y1 ∧ DataW.trod enc P w base spare held n f2.type ((cs.drop f2.offset).take (P.cellsOf f2.type)) = some y2 ∧
      DataW.trod enc P w base spare held n f3.type ((cs.drop f3.offset).take (P.cellsOf f3.type)) = some y3 ∧ DataW.trod enc P w base spare held n f4.type ((cs.drop f4.offset).take (P.cellsOf f4.type)) = some y4 := by
  obtain ⟨xs, n, _, rfl, hl, hlen, hf⟩ := DataW.trod_struct ht h
  match xs, hlen with
  | [y0, y1, y2, y3, y4], _ => exact ⟨y0, y1, y2, y3, y4, n, hl, by simpa using hf 0 f0 rfl, by simpa using hf 1 f1 rfl, by simpa using hf 2 f2 rfl, by simpa using hf 3 f3 rfl, by simpa using hf 4 f4 rfl⟩
end
theorem u8_wfS {n : Int} (h : (Lit.int .u8 n).wf = true) : ∃ k : Nat, n = k ∧ k ≤ 255 := by
  have h2 : 0 ≤ n ∧ n ≤ 255 := by
    have e1 : IntKind.u8.min = 0 := by decide
    have e2 : IntKind.u8.max = 255 := by decide
    simp [Lit.wf, e1, e2] at h
    omega
  exact ⟨n.toNat, by omega, by omega⟩
theorem flat_rangeS {α : Type} {fc : α → List Value} {n : Nat} (hn : 0 < n) (hlen : ∀ x, (fc x).length = n) (f : Nat → α) (len i : Nat) (u : Value) (h : (((List.range len).map f).flatMap fc)[i]? = some u) : ∃ j r, j < len ∧ r < n ∧ i = j * n + r ∧ (fc (f j))[r]? = some u := by
  have hi := (List.getElem?_eq_some_iff.1 h).1
  rw [flat_len hlen, List.length_map, List.length_range] at hi
  have hj : i / n < len := Nat.div_lt_of_lt_mul hi
  have hget : ((List.range len).map f)[i / n]? = some (f (i / n)) := by simp [hj]
  have hr : i % n < n := Nat.mod_lt _ hn
  obtain ⟨v, hv⟩ : ∃ v, (fc (f (i / n)))[i % n]? = some v := ⟨_, List.getElem?_eq_getElem (by rw [hlen]; exact hr)⟩
  have e : i / n * n + i % n = i := by rw [Nat.mul_comm]; exact Nat.div_add_mod i n
  have := flat_at hlen hget (i % n) v hv
  rw [e, h] at this
  refine ⟨i / n, i % n, hj, hr, e.symm, ?_⟩
  rw [hv, ← this]
theorem structsS {H : Type} {enc : TypeId × Value → H} {W : World} {sp : Nat → Bool} {hd : Bool} {b0 fuel : Nat} {cs : List Value} {x : DataW H × List MemPlace} {T E : TypeId} {α : Type} [Inhabited α] {fc : α → List Value} {ok : α → Prop} {k : Nat} (hk : 0 < k) (hfc : ∀ x, (fc x).length = k) (hT : Tryd.prog.underlying T = some (.slice E)) (hE : Tryd.prog.cellsOf E = k)
    (hone : ∀ (fuel : Nat) (cs : List Value) (x : DataW H × List MemPlace), DataW.trod enc Tryd.prog W b0 sp hd fuel E cs = some x → ∃ e : α, cs = fc e ∧ ok e)
    (hf : DataW.trod enc Tryd.prog W b0 sp hd fuel T cs = some x) : ∃ (a : Option Addr) (l : List α) (cap : Nat), cs = [.slice a l.length cap] ∧ Row W a (l.flatMap fc) ∧ l.length ≤ cap ∧ cap ≤ maxLen ∧ ∀ y ∈ l, ok y := by
  rcases Go.Deep.open_slice hT hf with ⟨hcs, hx⟩ | ⟨a, len', cap', m, n, D, Pl, hcs, _, hl, hm, hmm, hx, hel⟩
  · exact ⟨none, [], 0, hcs, .inl rfl, Nat.le_refl _, by simp [maxLen], fun y hy => by simp at hy⟩
  · have hlm : len' ≤ m := by rw [hmm]; split <;> omega
    have hstr : ∀ i, i < len' → ∃ c : α, ok c ∧ ∀ r u, (fc c)[r]? = some u → W.cell? (a.add (i * k + r)) = some u := by
      intro i hi
      obtain ⟨cs', hc, ht⟩ := hel i (by omega)
      rw [hE] at hc
      obtain ⟨_, hlen2, hat⟩ := World.cells?_some hc
      obtain ⟨c, rfl, hok⟩ := hone _ _ _ ht
      refine ⟨c, hok, fun r u hr => ?_⟩
      have hlt := (List.getElem?_eq_some_iff.1 hr).1
      have := hat r (by rw [hfc] at hlt; exact hlt)
      rw [Go.Deep.add_add] at this
      rw [this, ← hr, List.getElem?_eq_getElem hlt]
    obtain ⟨f, hf2⟩ := Go.Deep.choose_lt hstr
    refine ⟨some a, (List.range len').map f, cap', by simpa using hcs, ?_, by simpa using hl, hm, fun y hy => ?_⟩
    · by_cases h0 : len' = 0
      · left
        subst h0
        rfl
      · right
        obtain ⟨b, off, spot⟩ := a
        have hspot : spot = none := by
          obtain ⟨v, hv⟩ : ∃ v, (fc (f 0))[0]? = some v := ⟨_, List.getElem?_eq_getElem (by rw [hfc]; exact hk)⟩
          have := World.cell?_spot ((hf2 0 (by omega)).2 0 _ hv)
          simpa [Addr.add] using this
        subst hspot
        refine ⟨b, off, rfl, fun i u hu => ?_⟩
        obtain ⟨j, r, hj, _, rfl, hr⟩ := flat_rangeS hk hfc f len' i u hu
        have := (hf2 j hj).2 r u hr
        rw [addr_add] at this
        exact this
    · obtain ⟨i, hi, rfl⟩ := List.mem_map.1 hy
      exact (hf2 i (List.mem_range.1 hi)).1
end Go.Proofs.YtaojblejnpemkaaDoor
