/- Texts that the claim leans on, part 2: Under, K1, K2, K2b, K8, K5, K9, K3. -/
import Derived.Test.YtaojblejnpemkaaDoorZ1
import Derived.Test.YtaojblejnpemkaaDoorRows
import Derived.WalkKit
import Derived.WalkSpells
import Derived.WalkLawsBesides
import Derived.Handy
import Derived.Deep.QuietTactic
import Derived.BigQuiet
import Derived.Deep.DeepCutAuto
import Derived.Lib.Hide
import Derived.RegionTactic
import Derived.ChangeAlike
import Derived.Lib.Overlaps
import Derived.StillTailTactics
import Derived.ProofKit
import Derived.OpenShut
import Derived.Laws.Strings
import Derived.Laws.CopyOwn
import Derived.Laws.CopyRow
import Derived.Laws.NewBlocks
import Derived.Deep.RegionLaw
namespace Go.Proofs.YtaojblejnpemkaaDoor
open Go.RowKit
open Classical in
noncomputable def Under (w x : World) : World := if Below w.heap.size w x then x else w
theorem under_below (w x : World) : Below w.heap.size w (Under w x) := by
  unfold Under
  split
  · assumption
  · exact Below.refl _ _
theorem under_of {w y : World} (h : Below w.heap.size w y) : y = Under w y := by
  unfold Under
  rw [if_pos h]
theorem under_cell {w : World} {p : Addr} {v : Value} (h : w.cell? p = some v) : ∀ x, (Under w x).cell? p = some v := fun x => by
  have h2 := World.block_lt_of_cell? _ _ h
  rw [(under_below w x).cell h2]
  exact h
theorem under_row {w : World} {a : Option Addr} {xs : List Value} (h : Row w a xs) : ∀ x, Row (Under w x) a xs := fun x => h.below0 (under_below w x)
theorem under_call {P : Program} {f : FuncId} {args : Array Value} {w x : World} {v : Value}
    (h : Calls P f args (Under w x) fun e w' => e = .returned v ∧ Below (Under w x).heap.size (Under w x) w') : Calls P f args (Under w x) fun e w'' => e = .returned v ∧ ∃ y, w'' = Under w y :=
  h.mono fun _ w' ⟨he, hb⟩ => ⟨he, w', under_of ((under_below w x).trans (hb.mono (under_below w x).size))⟩
theorem under_same {P : Program} {f : FuncId} {args : Array Value} {w x : World} {v : Value}
    (h : Calls P f args (Under w x) fun e w' => e = .returned v ∧ Under w x = w') : Calls P f args (Under w x) fun e w'' => e = .returned v ∧ ∃ y, w'' = Under w y :=
  h.mono fun _ _ ⟨he, hm⟩ => ⟨he, x, hm.symm⟩
theorem under_drew {P : Program} {f : FuncId} {args : Array Value} {w x : World} {v : Value}
    (h : Calls P f args (Under w x) fun e w' => e = .returned v ∧ ∃ n, w' = (Under w x).drewN n) : Calls P f args (Under w x) fun e w'' => e = .returned v ∧ ∃ y, w'' = Under w y :=
  under_call (h.mono fun _ _ ⟨he, n, hm⟩ => ⟨he, by subst hm; exact below_drewN (Below.refl _ _) n⟩)
theorem wp_region_under {P : Program} {id : Nat} {Q : Exit → Act → World → Prop} {a : Act} {w : World} {l : List Oper} (hm : P.follows .mixedOrders = true) (hB : Region.lexB .any l.toArray = true)
    (h : wpQuiet P l.toArray (fun w' => ∃ x, w' = Under w x) (fun a' => ∀ w', (∃ x, w' = Under w x) → Q .normal a' w') l a) : (Code.region id l.toArray true).wp P Q a w :=
  wp_region_quiet (C := fun w' => ∃ x, w' = Under w x) hm hB ⟨_, under_of ((Below.refl _ _).drew)⟩ (by simpa using h)
end Go.Proofs.YtaojblejnpemkaaDoor
namespace Go.Proofs.YtaojblejnpemkaaDoor
open Go.RowKit
def prs (l : List Pr) : List Value := l.flatMap fun p => [.string p.1, .string p.2]
theorem prs_len : ∀ (l : List Pr), (prs l).length = 2 * l.length
  | [] => rfl
  | p :: l => by
    have := prs_len l
    simp only [prs, List.flatMap_cons, List.length_append, List.length_cons, List.length_nil] at this ⊢
    omega
theorem prs_app (l m : List Pr) : prs (l ++ m) = prs l ++ prs m := by simp [prs]
theorem prs_one {l : List Pr} : ∀ u ∈ prs l, u.oneCell' = true := by
  intro u hu
  simp only [prs, List.mem_flatMap] at hu
  obtain ⟨p, _, hp⟩ := hu
  simp at hp
  rcases hp with rfl | rfl <;> rfl
theorem prs_at : ∀ {l : List Pr} {i : Nat} {p : Pr}, l[i]? = some p → (prs l)[i * 2]? = some (.string p.1) ∧ (prs l)[i * 2 + 1]? = some (.string p.2)
  | [], i, p, h => by simp at h
  | q :: l, 0, p, h => by
    simp at h
    subst h
    exact ⟨rfl, rfl⟩
  | q :: l, i + 1, p, h => by
    simp only [List.getElem?_cons_succ] at h
    have := prs_at h
    have e1 : (i + 1) * 2 = i * 2 + 1 + 1 := by omega
    rw [e1]
    simp only [prs, List.flatMap_cons, List.cons_append, List.nil_append, List.getElem?_cons_succ] at this ⊢
    exact this
theorem Row.pair {w : World} {a : Option Addr} {l : List Pr} (h : Row w a (prs l)) {i : Nat} {p : Pr} (hp : l[i]? = some p) :
    ∃ b off, a = some ⟨b, off, none⟩ ∧ b < w.heap.size ∧ (∀ j q, l[j]? = some q → w.cell? ⟨b, off + j * 2, none⟩ = some (.string q.1) ∧ w.cell? ⟨b, off + j * 2 + 1, none⟩ = some (.string q.2)) := by
  have hi := (List.getElem?_eq_some_iff.1 hp).1
  obtain ⟨b, off, ha, hc⟩ := h.at (k := i) (by rw [prs_len]; omega)
  refine ⟨b, off, ha, World.block_lt_of_cell? _ _ (hc _ _ (prs_at hp).1), fun j q hq => ?_⟩
  obtain ⟨h1, h2⟩ := prs_at hq
  exact ⟨hc _ _ h1, by rw [Nat.add_assoc]; exact hc _ _ h2⟩
theorem key_any (s : Tx) (w : World) : Calls Tryd.prog 40 #[.string s] w fun e w' => e = .returned (.bool (keyOk s)) ∧ w = w' := by
  unfold keyOk
  by_cases h1 : 1 ≤ s.size
  all_goals by_cases h2 : s.size ≤ 8
  all_goals
    go_enter Tryd.func40, Tryd.ntmps40
    go_wp2
    all_goals go_ret
    all_goals exact ⟨ret_bool (by first | (simp [h1, h2]; done) | (simp [h1, h2]; omega)), rfl⟩
theorem value_any (s : Tx) (w : World) : Calls Tryd.prog 41 #[.string s] w fun e w' => e = .returned (.bool (valOk s)) ∧ w = w' := by
  unfold valOk
  by_cases h2 : s.size ≤ 16
  all_goals
    go_enter Tryd.func41, Tryd.ntmps41
    go_wp2
    all_goals go_ret
    all_goals exact ⟨ret_bool (by first | (simp [h2]; done) | (simp [h2]; omega)), rfl⟩
end Go.Proofs.YtaojblejnpemkaaDoor
namespace Go.Proofs.YtaojblejnpemkaaDoor
open Go.RowKit
theorem elPair : ElemT Tryd.prog 46 72 2 32 := ElemT.of (.agg #[.string ⟨#[]⟩, .string ⟨#[]⟩]) Tryd.underlying46 (by kernel_rfl) rfl (by decide)
structure SlP (w : World) (a : Option Addr) (cap : Nat) (l : List Pr) : Prop where
  row : Row w a (prs l)
  le : l.length ≤ cap
  max : cap ≤ maxLen
  nil : a = none → cap = 0
theorem SlP.below {w w' : World} {a : Option Addr} {cap : Nat} {l : List Pr} (h : SlP w a cap l) (hb : Below w.heap.size w w') : SlP w' a cap l := ⟨h.row.below0 hb, h.le, h.max, h.nil⟩
theorem SlP.of_owns {w : World} {base : Nat} {e : TypeId} {v : Value} {l : List Pr} (h : w.ownsRow base e 2 v l.length (prs l)) : ∃ a cap, v = .slice a l.length cap ∧ SlP w a cap l := by
  have h0 := h
  obtain ⟨a, cap, hv, hr, hn, hm⟩ := Row.of_owns h
  refine ⟨a, cap, hv, hr, hn, hm, fun ha => ?_⟩
  subst ha
  obtain ⟨_, ⟨h1, _⟩ | ⟨g, cap', cur, h1, _⟩⟩ := h0
  · rw [hv] at h1
    injection h1
  · rw [hv] at h1
    injection h1 with h1
    cases h1
def OwnPrs (base : Nat) (l : List Pr) (e : Ending) (w' : World) : Prop := ∃ v, e = .returned v ∧ w'.ownsRow base 72 2 v l.length (prs l)
set_option maxRecDepth 100000 in
set_option maxHeartbeats 400000 in
theorem clone_any (a : Option Addr) (cap : Nat) (l : List Pr) (w : World) (hs : SlP w a cap l) (hl : l.length ≤ 1000) :
    Calls Tryd.prog 29 #[.slice a l.length cap] w fun e w' => OwnPrs w.heap.size l e w' ∧ Below w.heap.size w w' := by
  have hmx := hs.max
  have hle := hs.le
  unfold maxLen at hmx
  cases a with
  | none =>
    have h0 := hs.nil rfl
    have hl0 : l = [] := List.eq_nil_of_length_eq_zero (by omega)
    subst hl0 h0
    have hnil : ∀ w : World, (binOp .eql 46 (.slice none 0 0) (.slice none 0 0)).run Tryd.prog w = .ok (.bool true) w := fun w => Lib.run_eql_slice_nil (P := Tryd.prog) w 46 72 none 0 0 0 0 Tryd.underlying46
    go_enter Tryd.func29, Tryd.ntmps29
    go_wp2
    go_ret
    exact ⟨⟨_, rfl, World.ownsRow_nil _ _ _ _⟩, Below.refl _ _⟩
  | some ad =>
    have hb0 : Below w.heap.size w (w.alloc (Obj.cells #[] 72)) := (Below.refl _ _).alloc (Nat.le_refl _) _
    have hr0 := hs.row.below0 hb0
    have hnil : ∀ w : World, (binOp .eql 46 (.slice (some ad) l.length cap) (.slice none 0 0)).run Tryd.prog w = .ok (.bool false) w := fun w => Lib.run_eql_slice_nil (P := Tryd.prog) w 46 72 (some ad) l.length cap 0 0 Tryd.underlying46
    go_enter Tryd.func29, Tryd.ntmps29
    go_wp2_with (at_builtin; refine wpList_append_row rfl _ _ 46 72 elPair rfl w.heap.size _ _ _ rfl (owns_empty _ _ _) _ _ _ _ rfl (by rw [prs_len]; omega) hr0 prs_one (by omega) (by omega) (by simp) ?_; intro v5 w5 hown5 hb5)
    go_ret
    exact ⟨⟨_, rfl, by simpa using hown5⟩, hb0.trans hb5⟩
theorem isnanS (s : Tx) (w : World) : Calls Tryd.prog 63 #[.string s] w fun e w' => e = .returned (.bool false) ∧ w = w' := by
  go_enter Tryd.func63, Tryd.ntmps63
  go_wp2
  go_ret
  exact ⟨by simp, rfl⟩
def cmpI (a b : Tx) : Int := if kl a b then -1 else if a = b then 0 else 1
theorem cmp_any (a b : Tx) (w : World) : Calls Tryd.prog 58 #[.string a, .string b] w fun e w' => e = .returned (.int .i64 (cmpI a b)) ∧ w = w' := by
  cases h1 : kl a b with
  | true =>
    have e1 : cmpI a b = -1 := by simp [cmpI, h1]
    rw [e1]
    unfold kl at h1
    go_enter Tryd.func58, Tryd.ntmps58
    go_wp2_with (go_at_call 63; refine (isnanS _ _).mono ?_; rintro e w' ⟨rfl, rfl⟩)
    go_ret
    exact ⟨rfl, rfl⟩
  | false =>
    by_cases h2 : a = b
    · have e1 : cmpI a b = 0 := by subst h2; simp [cmpI, kl_irrefl]
      rw [e1]
      unfold kl at h1
      have h3 : (a.toList == b.toList) = true := by rw [tx_eq]; exact decide_eq_true h2
      clear e1 h2
      go_enter Tryd.func58, Tryd.ntmps58
      go_wp2_with (go_at_call 63; refine (isnanS _ _).mono ?_; rintro e w' ⟨rfl, rfl⟩)
      go_ret
      exact ⟨rfl, rfl⟩
    · have e1 : cmpI a b = 1 := by simp [cmpI, h1, h2]
      rw [e1]
      unfold kl at h1
      have h3 : (a.toList == b.toList) = false := by rw [tx_eq]; exact decide_eq_false h2
      clear e1 h2
      go_enter Tryd.func58, Tryd.ntmps58
      go_wp2_with (go_at_call 63; refine (isnanS _ _).mono ?_; rintro e w' ⟨rfl, rfl⟩)
      go_ret
      exact ⟨rfl, rfl⟩
theorem cmpI_lt {a b : Tx} (h : kl a b = true) : cmpI a b = -1 := by simp [cmpI, h]
theorem cmpI_eq (a : Tx) : cmpI a a = 0 := by simp [cmpI, kl_irrefl]
theorem cmpI_gt {a b : Tx} (h : kl a b = false) (hn : a ≠ b) : cmpI a b = 1 := by simp [cmpI, h, hn]
theorem find1_any (a v b : Tx) (w : World) : Calls Tryd.prog 57 #[.agg #[.string a, .string v], .string b] w fun e w' => e = .returned (.int .i64 (cmpI a b)) ∧ Below w.heap.size w w' := by
  go_enter Tryd.func57, Tryd.ntmps57
  go_wp2_with (go_at_call 58; refine (cmp_any _ _ _).mono ?_; rintro e w' ⟨rfl, rfl⟩)
  go_ret
  exact ⟨rfl, (Below.refl _ _).alloc (Nat.le_refl _) _⟩
def hasK (l : List Pr) (k : Tx) : Bool := (look l k).isSome
def BsK (l : List Pr) (k : Tx) (a b : Nat) : Prop := (∀ j q, l[j]? = some q → j < a → kl q.1 k = true) ∧ (∀ j q, l[j]? = some q → b ≤ j → kl q.1 k = false)
theorem bsK_lo {l : List Pr} {k : Tx} {y : Pr} {a b m : Nat} (h : Rises l) (hi : BsK l k a b) (hy : l[m]? = some y) (hyx : kl y.1 k = true) : BsK l k (m + 1) b := by
  refine ⟨fun j q hq hj => ?_, hi.2⟩
  obtain ⟨hm, rfl⟩ := List.getElem?_eq_some_iff.1 hy
  obtain ⟨hj2, rfl⟩ := List.getElem?_eq_some_iff.1 hq
  by_cases e : j = m
  · subst e; exact hyx
  · exact kl_trans (List.pairwise_iff_getElem.1 h j m hj2 hm (by omega)) hyx
theorem bsK_hi {l : List Pr} {k : Tx} {y : Pr} {a b m : Nat} (h : Rises l) (hi : BsK l k a b) (hy : l[m]? = some y) (hyx : kl y.1 k = false) : BsK l k a m := by
  refine ⟨hi.1, fun j q hq hj => ?_⟩
  obtain ⟨hm, rfl⟩ := List.getElem?_eq_some_iff.1 hy
  obtain ⟨hj2, rfl⟩ := List.getElem?_eq_some_iff.1 hq
  by_cases e : m = j
  · subst e; exact hyx
  · have h1 := List.pairwise_iff_getElem.1 h m j hm hj2 (by omega)
    cases h2 : kl l[j].1 k with
    | false => rfl
    | true => rw [kl_trans h1 h2] at hyx; cases hyx
end Go.Proofs.YtaojblejnpemkaaDoor
namespace Go.Proofs.YtaojblejnpemkaaDoor
open Go.RowKit
theorem hasK_at {l : List Pr} {k : Tx} (hr : Rises l) {y : Pr} (hy : l[(lo l k).length]? = some y) : hasK l k = decide (y.1 = k) := by
  unfold hasK
  cases h : look l k with
  | some v =>
    rw [at_yes hr h] at hy
    injection hy with hy
    subst hy
    simp
  | none =>
    have := at_no hr h hy
    simp [this]
theorem hasK_end {l : List Pr} {k : Tx} (hr : Rises l) (hy : l.length ≤ (lo l k).length) : hasK l k = false := by
  unfold hasK
  cases h : look l k with
  | none => rfl
  | some v =>
    have := at_yes hr h
    rw [List.getElem?_eq_none hy] at this
    cases this
theorem lo_le (l : List Pr) (k : Tx) : (lo l k).length ≤ l.length := List.length_filter_le _ _
set_option maxHeartbeats 2000000 in
theorem bsf_any (a : Option Addr) (cap : Nat) (l : List Pr) (k : Tx) (w : World) (hr : Row w a (prs l)) (hl : l.length ≤ 1000000) (hso : Rises l) :
    Calls Tryd.prog 56 #[.slice a l.length cap, .string k, .func (.func 57) #[] #[]] w fun e w' => e = .returned (.tuple #[.int .i64 (lo l k).length, .bool (hasK l k)]) ∧ Below w.heap.size w w' := by
  go_enter Tryd.func56, Tryd.ntmps56
  refine wp_seq_k (fun K hK => ?_)
  have HK := Lib.hid hK
  clear hK
  go_wp2
  refine HK.out _ _ ?_
  clear HK
  refine wp_seq_k (fun K hK => ?_)
  have HK := Lib.hid hK
  clear hK
  go_wp2
  refine HK.out _ _ ?_
  clear HK
  refine wp_seq_k (fun K hK => ?_)
  have HK := Lib.hid hK
  clear hK
  go_wp2
  refine HK.out _ _ ?_
  clear HK
  refine wp_seq_k (fun K hK => ?_)
  go_cut [9] (fun i wx => i = .int .i64 (lo l k).length ∧ Below w.heap.size w wx)
  case first =>
    go_wp2_with fail
    go_loopw [9, 10] (fun i j wr => ∃ a b : Nat, a ≤ b ∧ b ≤ l.length ∧ i = .int .i64 a ∧ j = .int .i64 b ∧ BsK l k a b ∧ Below w.heap.size w wr)
      (fun i j _ => (intOf j).toNat - (intOf i).toNat)
    case atStart => exact ⟨0, l.length, by omega, by omega, rfl, rfl, ⟨fun _ _ _ h => by omega, fun k y h hk => by rw [List.getElem?_eq_none hk] at h; cases h⟩, Below.refl _ _⟩
    case round =>
      obtain ⟨a, b, hab, hb, rfl, rfl, hinv, hbr⟩ := hrel
      by_cases hlt : a < b
      · have hm : (a + b) / 2 < l.length := by omega
        obtain ⟨bb, off, rfl, hblt, hcs⟩ := (hr.below0 hbr).pair (List.getElem?_eq_getElem hm)
        obtain ⟨c0, c1⟩ := hcs ((a + b) / 2) _ (List.getElem?_eq_getElem hm)
        clear hcs
        have hlo := bsK_lo (k := k) hso hinv (List.getElem?_eq_getElem hm)
        have hhi := bsK_hi (k := k) hso hinv (List.getElem?_eq_getElem hm)
        generalize l[(a + b) / 2] = y at *
        obtain ⟨y1, y2⟩ := y
        cases hyx : kl y1 k
        · have hh := hhi hyx
          have hc : ¬ cmpI y1 k < 0 := by
            unfold cmpI
            rw [hyx]
            split
            · rename_i h; cases h
            · split <;> omega
          clear hlo hhi hyx
          go_wp2_with (go_at_call 57; refine (find1_any _ _ _ _).mono ?_; rintro e w1 ⟨rfl, hb1⟩)
          go_roundw
          case rel => exact ⟨a, (a + b) / 2, by omega, by omega, rfl, by go_num, hh, hbr.trans (hb1.mono hbr.size)⟩
          case measure => simp [intOf]; omega
        · have hh := hlo hyx
          have hc : cmpI y1 k < 0 := by rw [cmpI_lt hyx]; decide
          clear hlo hhi hyx
          go_wp2_with (go_at_call 57; refine (find1_any _ _ _ _).mono ?_; rintro e w1 ⟨rfl, hb1⟩)
          go_roundw
          case rel => exact ⟨(a + b) / 2 + 1, b, by omega, hb, by go_num, rfl, hh, hbr.trans (hb1.mono hbr.size)⟩
          case measure => simp [intOf]; omega
      · go_wp2
        go_meet
        have := pos_lo (l := l) (k := k) (i := a) ⟨by omega, hinv.1, by rw [show a = b by omega]; exact hinv.2⟩
        exact ⟨by rw [← this], hbr⟩
  obtain ⟨rfl, hbx⟩ := hcut
  refine hK _ _ ?_; clear hK
  have hle := lo_le l k
  by_cases hlt : (lo l k).length < l.length
  · obtain ⟨bb, off, rfl, hblt, hcs⟩ := (hr.below0 hbx).pair (List.getElem?_eq_getElem hlt)
    obtain ⟨c0, c1⟩ := hcs _ _ (List.getElem?_eq_getElem hlt)
    clear hcs
    have hmem := hasK_at (k := k) hso (List.getElem?_eq_getElem hlt)
    rw [hmem]
    clear hmem
    generalize l[(lo l k).length] = y at *
    obtain ⟨y1, y2⟩ := y
    generalize (lo l k).length = p at *
    have hc : (cmpI y1 k == 0) = decide (y1 = k) := by
      unfold cmpI
      by_cases e : y1 = k
      · subst e; simp [kl_irrefl]
      · simp only [if_neg e, decide_eq_false e]
        split <;> rfl
    rw [← hc]
    clear hc
    go_wp2_with (go_at_call 57; refine (find1_any _ _ _ _).mono ?_; rintro e w1 ⟨rfl, hb1⟩)
    go_returns
    exact ⟨rfl, hbx.trans (hb1.mono hbx.size)⟩
  · have hmem := hasK_end (k := k) hso (by omega)
    rw [hmem]
    clear hmem
    generalize (lo l k).length = p at *
    go_wp2
    go_returns
    exact ⟨rfl, hbx⟩
theorem find_any (a : Option Addr) (cap : Nat) (l : List Pr) (k : Tx) (w : World) (hr : Row w a (prs l)) (hl : l.length ≤ 1000000) (hso : Rises l) :
    Calls Tryd.prog 51 #[.slice a l.length cap, .string k] w fun e w' => e = .returned (.tuple #[.int .i64 (lo l k).length, .bool (hasK l k)]) ∧ Below w.heap.size w w' := by
  go_enter Tryd.func51, Tryd.ntmps51
  go_wp2_with (go_at_call 56; refine (bsf_any _ _ _ _ _ hr hl hso).mono ?_; rintro e w1 ⟨rfl, hb1⟩)
  go_returns
  exact ⟨rfl, hb1⟩
def rpV (r : Rp) : Value := .agg #[.int .i64 r.err, .bool r.found, .string r.val]
end Go.Proofs.YtaojblejnpemkaaDoor
namespace Go.Proofs.YtaojblejnpemkaaDoor
open Go.RowKit
@[go_sem] theorem eqPair (a b c d : Tx) (w : World) : (Op.equalIn 10000 72 (.agg #[.string a, .string b]) (.agg #[.string c, .string d])).run Tryd.prog w = .ok (a.toList == c.toList && b.toList == d.toList) w := by
  have u3 := Tryd.underlying9
  have a3 := Tryd.isAgg9
  have z3 := Tryd.sizeOf9
  have hS : Tryd.prog.underlying 72 = some (.struct (Tryd.prog.fieldsOf 72)) := by kernel_rfl
  rw [show (10000 : Nat) = 9999 + 1 from rfl, run_equalIn_agg w 9999 72 _ _ hS (by kernel_rfl)]
  simp only [Program.fieldsOf, Tryd.underlying72]
  go_simp
  cases h1 : (a.toList == c.toList) <;> cases h2 : (b.toList == d.toList) <;> simp_all
@[go_sem] theorem eqReply (e e' : Int) (f f' : Bool) (v v' : Tx) (w : World) : (Op.equalIn 10000 36 (.agg #[.int .i64 e, .bool f, .string v]) (.agg #[.int .i64 e', .bool f', .string v'])).run Tryd.prog w = .ok (e == e' && f == f' && v.toList == v'.toList) w := by
  have u3 := Tryd.underlying9
  have a3 := Tryd.isAgg9
  have z3 := Tryd.sizeOf9
  have u4 := Tryd.underlying4
  have a4 := Tryd.isAgg4
  have z4 := Tryd.sizeOf4
  have u5 := Tryd.underlying27
  have a5 := Tryd.isAgg27
  have z5 := Tryd.sizeOf27
  have hS : Tryd.prog.underlying 36 = some (.struct (Tryd.prog.fieldsOf 36)) := by kernel_rfl
  rw [show (10000 : Nat) = 9999 + 1 from rfl, run_equalIn_agg w 9999 36 _ _ hS (by kernel_rfl)]
  simp only [Program.fieldsOf, Tryd.underlying36]
  go_simp
  cases h1 : (e == e') <;> cases h2 : (f == f') <;> cases h3 : (v.toList == v'.toList) <;> simp_all
@[go_sem] theorem eqOp (k k' : Int) (a b c a' b' c' : Tx) (w : World) : (Op.equalIn 10000 34 (.agg #[.int .u8 k, .string a, .string b, .string c]) (.agg #[.int .u8 k', .string a', .string b', .string c'])).run Tryd.prog w = .ok (k == k' && a.toList == a'.toList && b.toList == b'.toList && c.toList == c'.toList) w := by
  have u3 := Tryd.underlying9
  have a3 := Tryd.isAgg9
  have z3 := Tryd.sizeOf9
  have u5 := Tryd.underlying5
  have a5 := Tryd.isAgg5
  have z5 := Tryd.sizeOf5
  have hS : Tryd.prog.underlying 34 = some (.struct (Tryd.prog.fieldsOf 34)) := by kernel_rfl
  rw [show (10000 : Nat) = 9999 + 1 from rfl, run_equalIn_agg w 9999 34 _ _ hS (by kernel_rfl)]
  simp only [Program.fieldsOf, Tryd.underlying34]
  go_simp
  cases h1 : (k == k') <;> cases h2 : (a.toList == a'.toList) <;> cases h3 : (b.toList == b'.toList) <;> cases h4 : (c.toList == c'.toList) <;> simp_all
def sameUp (l m : List Pr) (k : Nat) : Prop := ∀ i x y, i < k → l[i]? = some x → m[i]? = some y → x = y
theorem sameUp_zero (l m : List Pr) : sameUp l m 0 := fun i _ _ h => by omega
theorem sameUp_succ {l m : List Pr} {k : Nat} {x : Pr} (h : sameUp l m k) (hx : l[k]? = some x) (hy : m[k]? = some x) : sameUp l m (k + 1) := by
  intro i a b hi ha hb
  by_cases e : i = k
  · subst e
    rw [hx] at ha
    rw [hy] at hb
    exact (Option.some.inj ha).symm.trans (Option.some.inj hb)
  · exact h i a b (by omega) ha hb
theorem sameUp_all {l m : List Pr} (hl : l.length = m.length) (h : sameUp l m l.length) : l = m := by
  refine List.ext_getElem hl fun i h1 h2 => ?_
  exact h i _ _ h1 (List.getElem?_eq_getElem h1) (List.getElem?_eq_getElem h2)
theorem pair_ne {a b c d : Tx} (h : ¬ (a, b) = (c, d)) : (a.toList == c.toList) = false ∨ (a = c ∧ (b.toList == d.toList) = false) := by
  rw [tx_eq, tx_eq, decide_eq_false_iff_not, decide_eq_false_iff_not]
  by_cases e : a = c
  · exact .inr ⟨e, fun e2 => h (by rw [e, e2])⟩
  · exact .inl e
end Go.Proofs.YtaojblejnpemkaaDoor
namespace Go.Proofs.YtaojblejnpemkaaDoor
open Go.RowKit
theorem bl_nil (x : List UInt8) : Op.bytesLess x [] = false := by cases x <;> rfl
theorem bl_drop : ∀ (i : Nat) (x y : List UInt8), i ≤ x.length → i ≤ y.length → x.take i = y.take i → Op.bytesLess x y = Op.bytesLess (x.drop i) (y.drop i)
  | 0, x, y, _, _, _ => rfl
  | i + 1, [], y, h, _, _ => by simp at h
  | i + 1, x :: xs, [], _, h, _ => by simp at h
  | i + 1, x :: xs, y :: ys, h1, h2, h => by
    simp only [List.take_succ_cons, List.cons.injEq] at h
    obtain ⟨rfl, h⟩ := h
    simp only [List.drop_succ_cons]
    rw [← bl_drop i xs ys (by simpa using h1) (by simpa using h2) h]
    simp [Op.bytesLess]
theorem tx_len (a : Tx) : a.toList.length = a.size := by rw [ByteArray.toList_eq]; rfl
theorem tx_get (a : Tx) (i : Nat) (h : i < a.size) : a.toList[i]? = some a[i] := by
  rw [ByteArray.toList_eq]
  simp [ByteArray.getElem_eq_getElem_data]
def Agree (a b : Tx) (i : Nat) : Prop := a.toList.take i = b.toList.take i
theorem agree_zero (a b : Tx) : Agree a b 0 := by simp [Agree]
theorem agree_succ {a b : Tx} {i : Nat} (ha : i < a.size) (hb : i < b.size) (h : Agree a b i) (he : a[i] = b[i]) : Agree a b (i + 1) := by
  unfold Agree at *
  rw [List.take_add_one, List.take_add_one, h, tx_get a i ha, tx_get b i hb, he]
theorem kl_at {a b : Tx} {i : Nat} (ha : i < a.size) (hb : i < b.size) (h : Agree a b i) (he : ¬ a[i] = b[i]) : kl a b = decide (a[i] < b[i]) := by
  unfold kl
  rw [bl_drop i _ _ (by rw [tx_len]; omega) (by rw [tx_len]; omega) h]
  have h1 := tx_get a i ha
  have h2 := tx_get b i hb
  rw [List.drop_eq_getElem_cons (l := a.toList) (by rw [tx_len]; exact ha), List.drop_eq_getElem_cons (l := b.toList) (by rw [tx_len]; exact hb)]
  rw [List.getElem?_eq_getElem (by rw [tx_len]; exact ha)] at h1
  rw [List.getElem?_eq_getElem (by rw [tx_len]; exact hb)] at h2
  rw [Option.some.inj h1, Option.some.inj h2]
  simp only [Op.bytesLess]
  have : (a[i] == b[i]) = false := by simpa using he
  rw [this]
  simp
theorem kl_end {a b : Tx} {i : Nat} (ha : i ≤ a.size) (hb : i ≤ b.size) (h : Agree a b i) (he : i = a.size ∨ i = b.size) : kl a b = decide (a.size < b.size) := by
  unfold kl
  rw [bl_drop i _ _ (by rw [tx_len]; omega) (by rw [tx_len]; omega) h]
  by_cases hlt : a.size < b.size
  · have e1 : i = a.size := by omega
    rw [decide_eq_true (by omega), List.drop_of_length_le (by rw [tx_len]; omega), List.drop_eq_getElem_cons (by rw [tx_len]; omega)]
    rfl
  · have e1 : i = b.size := by omega
    rw [decide_eq_false (by omega), List.drop_of_length_le (l := b.toList) (by rw [tx_len]; omega), bl_nil]
set_option maxHeartbeats 1000000 in
theorem rless_any (a b : Tx) (w : World) (ha : a.size ≤ 100000) (hb : b.size ≤ 100000) : Calls Tryd.prog 49 #[.string a, .string b] w fun e w' => e = .returned (.bool (kl a b)) ∧ ∃ m, w' = w.drewN m := by
  go_enter Tryd.func49, Tryd.ntmps49
  refine wp_seq_k (fun K hK => ?_)
  have HK := Lib.hid hK
  clear hK
  go_wp2
  refine HK.out _ _ ?_
  clear HK
  go_wp2_with fail
  go_loopw [5] (fun i wr => ∃ k m : Nat, k ≤ a.size ∧ k ≤ b.size ∧ i = .int .i64 k ∧ Agree a b k ∧ wr = w.drewN m) (fun i _ => a.size - (intOf i).toNat)
  case atStart => exact ⟨0, 0, by omega, by omega, rfl, agree_zero _ _, rfl⟩
  case round =>
    obtain ⟨k, m, h1, h2, rfl, hag, rfl⟩ := hrel
    by_cases hlt : k < a.size ∧ k < b.size
    · obtain ⟨hl1, hl2⟩ := hlt
      have hb1 := a[k].toNat_lt
      have hb2 := b[k].toNat_lt
      by_cases he : a[k] = b[k]
      · have hs := agree_succ hl1 hl2 hag he
        have hn : ((a[k].toNat : Int) != (b[k].toNat : Int)) = false := by rw [he]; simp
        have HE := Lib.hid he
        clear he
        go_wp2_with fail
        go_quiet (fail)
        go_wp2
        go_roundw
        case rel => exact ⟨k + 1, m + nq, by omega, by omega, by go_num, hs, rfl⟩
        case measure => simp [intOf]; omega
      · have hs := kl_at hl1 hl2 hag he
        have hn : ((a[k].toNat : Int) != (b[k].toNat : Int)) = true := by
          rw [bne_iff_ne]; intro e; exact he (UInt8.toNat_inj.1 (by omega))
        have hdd : decide (a[k] < b[k]) = decide (a[k].toNat < b[k].toNat) := by
          simp [UInt8.lt_iff_toNat_lt]
        have HD := Lib.hid (hs.trans hdd)
        clear he hs hdd
        go_wp2_with fail
        go_quiet (fail)
        go_wp2_with fail
        go_quiet (fail)
        go_wp2
        go_ret
        refine And.intro (ret_bool HD.out.symm) ?_
        apply Exists.intro
        rw [World.drewN_drewN, World.drewN_drewN]
    · have hs := kl_end h1 h2 hag (by omega)
      have HD := Lib.hid hs
      clear hs
      by_cases hl1 : k < a.size
      · have hl2 : ¬ k < b.size := fun h => hlt ⟨hl1, h⟩
        clear hlt
        go_wp2
        go_ret
        exact ⟨ret_bool HD.out.symm, _, rfl⟩
      · clear hlt
        go_wp2
        go_ret
        exact ⟨ret_bool HD.out.symm, _, rfl⟩
end Go.Proofs.YtaojblejnpemkaaDoor
namespace Go.Proofs.YtaojblejnpemkaaDoor
open Go.RowKit
def opV (o : Opn) : Value := .agg #[.int .u8 o.kind, .string o.key, .string o.old, .string o.val]
theorem tx_nil {s : Tx} (h : s.size = 0) : s = ⟨#[]⟩ := by
  apply tx_ext
  have := tx_len s
  rw [h] at this
  rw [List.eq_nil_of_length_eq_zero this, ByteArray.toList_eq]
theorem tx_some {s : Tx} (h : ¬ s.size = 0) : s.toList.isEmpty = false ∧ (s.toList == []) = false := by
  have := tx_len s
  cases hl : s.toList with
  | nil => rw [hl] at this; exact absurd this.symm h
  | cons a l => exact ⟨rfl, rfl⟩
theorem nil_size : decide ((⟨#[]⟩ : Tx).size = 0) = true := rfl
theorem valOk_nil : valOk ⟨#[]⟩ = true := by decide
def mayV (k : Int) (old val : Tx) : Bool := if k = 1 ∨ k = 3 then decide (old.size = 0) && decide (val.size = 0) else if k = 2 then decide (old.size = 0) else decide (k = 4)
theorem mayO_eq (k : Int) (key old val : Tx) : mayO ⟨k, key, old, val⟩ = (keyOk key && valOk old && valOk val && mayV k old val) := rfl
set_option maxRecDepth 100000 in
set_option maxHeartbeats 4000000 in
theorem pmayO_any (k : Int) (key old val : Tx) (w : World) (r : Bool) (hr : mayO ⟨k, key, old, val⟩ = r) :
    Calls Tryd.prog 27 #[.agg #[.int .u8 k, .string key, .string old, .string val]] w fun e w' => e = .returned (.bool r) ∧ Below w.heap.size w w' := by
  rw [mayO_eq] at hr
  by_cases k1 : k = 1 ∨ k = 3
  · have hv : mayV k old val = (decide (old.size = 0) && decide (val.size = 0)) := by simp [mayV, k1]
    rw [hv] at hr
    clear hv
    by_cases o1 : old.size = 0
    · have := tx_nil o1
      subst this
      by_cases v1 : val.size = 0
      · have := tx_nil v1
        subst this
        have hr2 : keyOk key = r := by rw [← hr]; simp only [nil_size, valOk_nil, Bool.and_true]
        clear hr o1 v1
        cases hk : keyOk key
        all_goals
          rw [hk] at hr2
          subst hr2
          rcases k1 with rfl | rfl
          all_goals
            go_enter Tryd.func27, Tryd.ntmps27
            go_wp2_with (first | (go_at_call 40; refine (key_any _ _).mono ?_; rintro e w' ⟨rfl, rfl⟩) | (go_at_call 41; refine (value_any _ _).mono ?_; rintro e w' ⟨rfl, rfl⟩))
            go_ret
            exact ⟨rfl, by (repeat' (first | (with_reducible exact Below.refl _ _) | (with_reducible assumption) | (with_reducible refine Below.alloc ?_ ?_ _) | (with_reducible refine Below.drew ?_) | (with_reducible refine below_drewN ?_ _) | (with_reducible refine Below.setCell ?_ ?_ _) | (with_reducible refine Below.trans ?_ (by assumption)) | go_size))⟩
      · obtain ⟨n1, n2⟩ := tx_some v1
        have hr2 : r = false := by rw [← hr]; simp [v1]
        subst hr2
        clear hr
        rcases k1 with rfl | rfl
        all_goals
          go_enter Tryd.func27, Tryd.ntmps27
          go_wp2
          go_ret
          exact ⟨rfl, by (repeat' (first | (with_reducible exact Below.refl _ _) | (with_reducible assumption) | (with_reducible refine Below.alloc ?_ ?_ _) | (with_reducible refine Below.drew ?_) | (with_reducible refine below_drewN ?_ _) | (with_reducible refine Below.setCell ?_ ?_ _) | (with_reducible refine Below.trans ?_ (by assumption)) | go_size))⟩
    · obtain ⟨n1, n2⟩ := tx_some o1
      have hr2 : r = false := by rw [← hr]; simp [o1]
      subst hr2
      clear hr
      rcases k1 with rfl | rfl
      all_goals
        go_enter Tryd.func27, Tryd.ntmps27
        go_wp2
        go_ret
        exact ⟨rfl, by (repeat' (first | (with_reducible exact Below.refl _ _) | (with_reducible assumption) | (with_reducible refine Below.alloc ?_ ?_ _) | (with_reducible refine Below.drew ?_) | (with_reducible refine below_drewN ?_ _) | (with_reducible refine Below.setCell ?_ ?_ _) | (with_reducible refine Below.trans ?_ (by assumption)) | go_size))⟩
  · have k1a : (k == 1) = false := by rw [beq_eq_false_iff_ne]; exact fun e => k1 (.inl e)
    have k1b : (k == 3) = false := by rw [beq_eq_false_iff_ne]; exact fun e => k1 (.inr e)
    by_cases k2 : k = 2
    · have hv : mayV k old val = decide (old.size = 0) := by simp [mayV, k2]
      rw [hv] at hr
      clear hv k1 k1a k1b
      subst k2
      by_cases o1 : old.size = 0
      · have := tx_nil o1
        subst this
        simp only [nil_size, valOk_nil, Bool.and_true] at hr
        clear o1
        cases hk : keyOk key <;> cases hv : valOk val
        all_goals
          rw [hk, hv] at hr
          simp only [Bool.and_true, Bool.and_false, Bool.and_self] at hr
          subst hr
          go_enter Tryd.func27, Tryd.ntmps27
          go_wp2_with (first | (go_at_call 40; refine (key_any _ _).mono ?_; rintro e w' ⟨rfl, rfl⟩) | (go_at_call 41; refine (value_any _ _).mono ?_; rintro e w' ⟨rfl, rfl⟩))
          go_ret
          exact ⟨rfl, by (repeat' (first | (with_reducible exact Below.refl _ _) | (with_reducible assumption) | (with_reducible refine Below.alloc ?_ ?_ _) | (with_reducible refine Below.drew ?_) | (with_reducible refine below_drewN ?_ _) | (with_reducible refine Below.setCell ?_ ?_ _) | (with_reducible refine Below.trans ?_ (by assumption)) | go_size))⟩
      · obtain ⟨n1, n2⟩ := tx_some o1
        have hr2 : r = false := by rw [← hr]; simp [o1]
        subst hr2
        clear hr
        go_enter Tryd.func27, Tryd.ntmps27
        go_wp2
        go_ret
        exact ⟨rfl, by (repeat' (first | (with_reducible exact Below.refl _ _) | (with_reducible assumption) | (with_reducible refine Below.alloc ?_ ?_ _) | (with_reducible refine Below.drew ?_) | (with_reducible refine below_drewN ?_ _) | (with_reducible refine Below.setCell ?_ ?_ _) | (with_reducible refine Below.trans ?_ (by assumption)) | go_size))⟩
    · have k2a : (k == 2) = false := by rw [beq_eq_false_iff_ne]; exact k2
      by_cases k4 : k = 4
      · have hv : mayV k old val = true := by simp [mayV, k4]
        rw [hv] at hr
        clear hv k1 k1a k1b k2 k2a
        subst k4
        cases hk : keyOk key <;> cases ho : valOk old <;> cases hv : valOk val
        all_goals
          rw [hk, ho, hv] at hr
          simp only [Bool.and_true, Bool.and_false, Bool.and_self] at hr
          subst hr
          go_enter Tryd.func27, Tryd.ntmps27
          go_wp2_with (first | (go_at_call 40; refine (key_any _ _).mono ?_; rintro e w' ⟨rfl, rfl⟩) | (go_at_call 41; refine (value_any _ _).mono ?_; rintro e w' ⟨rfl, rfl⟩))
          go_ret
          exact ⟨rfl, by (repeat' (first | (with_reducible exact Below.refl _ _) | (with_reducible assumption) | (with_reducible refine Below.alloc ?_ ?_ _) | (with_reducible refine Below.drew ?_) | (with_reducible refine below_drewN ?_ _) | (with_reducible refine Below.setCell ?_ ?_ _) | (with_reducible refine Below.trans ?_ (by assumption)) | go_size))⟩
      · have k4a : (k == 4) = false := by rw [beq_eq_false_iff_ne]; exact k4
        have hv : mayV k old val = false := by simp [mayV, k1, k2, k4]
        have hr2 : r = false := by rw [← hr, hv]; simp
        subst hr2
        clear hr hv k1 k2 k4
        go_enter Tryd.func27, Tryd.ntmps27
        go_wp2
        go_ret
        exact ⟨rfl, by (repeat' (first | (with_reducible exact Below.refl _ _) | (with_reducible assumption) | (with_reducible refine Below.alloc ?_ ?_ _) | (with_reducible refine Below.drew ?_) | (with_reducible refine below_drewN ?_ _) | (with_reducible refine Below.setCell ?_ ?_ _) | (with_reducible refine Below.trans ?_ (by assumption)) | go_size))⟩
set_option maxRecDepth 100000 in
set_option maxHeartbeats 4000000 in
theorem rmayO_any (k : Int) (key old val : Tx) (w : World) (r : Bool) (hr : mayO ⟨k, key, old, val⟩ = r) :
    Calls Tryd.prog 36 #[.agg #[.int .u8 k, .string key, .string old, .string val]] w fun e w' => e = .returned (.bool r) ∧ Below w.heap.size w w' := by
  rw [mayO_eq] at hr
  by_cases q0 : key.size = 0
  · have hr2 : r = false := by rw [← hr]; simp [keyOk, q0]
    subst hr2
    have q0a : ((key.size : Int) == 0) = true := by simp [q0]
    clear hr q0
    go_enter Tryd.func36, Tryd.ntmps36
    go_wp2
    go_ret
    exact ⟨rfl, by (repeat' (first | (with_reducible exact Below.refl _ _) | (with_reducible assumption) | (with_reducible refine Below.alloc ?_ ?_ _) | (with_reducible refine Below.drew ?_) | (with_reducible refine below_drewN ?_ _) | (with_reducible refine Below.setCell ?_ ?_ _) | (with_reducible refine Below.trans ?_ (by assumption)) | go_size))⟩
  · have q0a : ((key.size : Int) == 0) = false := by rw [beq_eq_false_iff_ne]; omega
    by_cases q8 : key.size ≤ 8
    · by_cases qo : old.size ≤ 16
      · by_cases qv : val.size ≤ 16
        · have hk1 : keyOk key = true := by simp [keyOk, q8]; omega
          have ho1 : valOk old = true := by simp [valOk, qo]
          have hv1 : valOk val = true := by simp [valOk, qv]
          rw [hk1, ho1, hv1] at hr
          simp only [Bool.true_and, Bool.and_self] at hr
          clear hk1 ho1 hv1 q0
          by_cases k1 : k = 1 ∨ k = 3
          · have hv : mayV k old val = (decide (old.size = 0) && decide (val.size = 0)) := by simp [mayV, k1]
            rw [hv] at hr
            clear hv
            by_cases o1 : old.size = 0
            · have := tx_nil o1
              subst this
              by_cases v1 : val.size = 0
              · have := tx_nil v1
                subst this
                simp only [nil_size, Bool.and_self] at hr
                subst hr
                clear o1 v1
                rcases k1 with rfl | rfl
                all_goals
                  go_enter Tryd.func36, Tryd.ntmps36
                  go_wp2
                  go_ret
                  exact ⟨rfl, by (repeat' (first | (with_reducible exact Below.refl _ _) | (with_reducible assumption) | (with_reducible refine Below.alloc ?_ ?_ _) | (with_reducible refine Below.drew ?_) | (with_reducible refine below_drewN ?_ _) | (with_reducible refine Below.setCell ?_ ?_ _) | (with_reducible refine Below.trans ?_ (by assumption)) | go_size))⟩
              · obtain ⟨n1, n2⟩ := tx_some v1
                have hr2 : r = false := by rw [← hr]; simp [v1]
                subst hr2
                clear hr
                rcases k1 with rfl | rfl
                all_goals
                  go_enter Tryd.func36, Tryd.ntmps36
                  go_wp2
                  go_ret
                  exact ⟨rfl, by (repeat' (first | (with_reducible exact Below.refl _ _) | (with_reducible assumption) | (with_reducible refine Below.alloc ?_ ?_ _) | (with_reducible refine Below.drew ?_) | (with_reducible refine below_drewN ?_ _) | (with_reducible refine Below.setCell ?_ ?_ _) | (with_reducible refine Below.trans ?_ (by assumption)) | go_size))⟩
            · obtain ⟨n1, n2⟩ := tx_some o1
              have hr2 : r = false := by rw [← hr]; simp [o1]
              subst hr2
              clear hr
              rcases k1 with rfl | rfl
              all_goals
                go_enter Tryd.func36, Tryd.ntmps36
                go_wp2
                go_ret
                exact ⟨rfl, by (repeat' (first | (with_reducible exact Below.refl _ _) | (with_reducible assumption) | (with_reducible refine Below.alloc ?_ ?_ _) | (with_reducible refine Below.drew ?_) | (with_reducible refine below_drewN ?_ _) | (with_reducible refine Below.setCell ?_ ?_ _) | (with_reducible refine Below.trans ?_ (by assumption)) | go_size))⟩
          · have k1a : (k == 1) = false := by rw [beq_eq_false_iff_ne]; exact fun e => k1 (.inl e)
            have k1b : (k == 3) = false := by rw [beq_eq_false_iff_ne]; exact fun e => k1 (.inr e)
            by_cases k2 : k = 2
            · have hv : mayV k old val = decide (old.size = 0) := by simp [mayV, k2]
              rw [hv] at hr
              clear hv k1 k1a k1b
              subst k2
              by_cases o1 : old.size = 0
              · have := tx_nil o1
                subst this
                simp only [nil_size] at hr
                subst hr
                clear o1
                go_enter Tryd.func36, Tryd.ntmps36
                go_wp2
                go_ret
                exact ⟨rfl, by (repeat' (first | (with_reducible exact Below.refl _ _) | (with_reducible assumption) | (with_reducible refine Below.alloc ?_ ?_ _) | (with_reducible refine Below.drew ?_) | (with_reducible refine below_drewN ?_ _) | (with_reducible refine Below.setCell ?_ ?_ _) | (with_reducible refine Below.trans ?_ (by assumption)) | go_size))⟩
              · obtain ⟨n1, n2⟩ := tx_some o1
                have hr2 : r = false := by rw [← hr]; simp [o1]
                subst hr2
                clear hr
                go_enter Tryd.func36, Tryd.ntmps36
                go_wp2
                go_ret
                exact ⟨rfl, by (repeat' (first | (with_reducible exact Below.refl _ _) | (with_reducible assumption) | (with_reducible refine Below.alloc ?_ ?_ _) | (with_reducible refine Below.drew ?_) | (with_reducible refine below_drewN ?_ _) | (with_reducible refine Below.setCell ?_ ?_ _) | (with_reducible refine Below.trans ?_ (by assumption)) | go_size))⟩
            · have k2a : (k == 2) = false := by rw [beq_eq_false_iff_ne]; exact k2
              have hv : mayV k old val = decide (k = 4) := by simp [mayV, k1, k2]
              rw [hv] at hr
              clear hv
              by_cases k4 : k = 4
              · subst k4
                simp only [decide_true] at hr
                subst hr
                clear k1 k1a k1b k2 k2a
                go_enter Tryd.func36, Tryd.ntmps36
                go_wp2
                go_ret
                exact ⟨rfl, by (repeat' (first | (with_reducible exact Below.refl _ _) | (with_reducible assumption) | (with_reducible refine Below.alloc ?_ ?_ _) | (with_reducible refine Below.drew ?_) | (with_reducible refine below_drewN ?_ _) | (with_reducible refine Below.setCell ?_ ?_ _) | (with_reducible refine Below.trans ?_ (by assumption)) | go_size))⟩
              · have k4a : (k == 4) = false := by rw [beq_eq_false_iff_ne]; exact k4
                have hr2 : r = false := by rw [← hr]; simp [k4]
                subst hr2
                clear hr k1 k2 k4
                go_enter Tryd.func36, Tryd.ntmps36
                go_wp2
                go_ret
                exact ⟨rfl, by (repeat' (first | (with_reducible exact Below.refl _ _) | (with_reducible assumption) | (with_reducible refine Below.alloc ?_ ?_ _) | (with_reducible refine Below.drew ?_) | (with_reducible refine below_drewN ?_ _) | (with_reducible refine Below.setCell ?_ ?_ _) | (with_reducible refine Below.trans ?_ (by assumption)) | go_size))⟩
        · have hr2 : r = false := by rw [← hr]; simp [valOk, qv]
          subst hr2
          clear hr q0
          go_enter Tryd.func36, Tryd.ntmps36
          go_wp2
          go_ret
          exact ⟨rfl, by (repeat' (first | (with_reducible exact Below.refl _ _) | (with_reducible assumption) | (with_reducible refine Below.alloc ?_ ?_ _) | (with_reducible refine Below.drew ?_) | (with_reducible refine below_drewN ?_ _) | (with_reducible refine Below.setCell ?_ ?_ _) | (with_reducible refine Below.trans ?_ (by assumption)) | go_size))⟩
      · have hr2 : r = false := by rw [← hr]; simp [valOk, qo]
        subst hr2
        clear hr q0
        go_enter Tryd.func36, Tryd.ntmps36
        go_wp2
        go_ret
        exact ⟨rfl, by (repeat' (first | (with_reducible exact Below.refl _ _) | (with_reducible assumption) | (with_reducible refine Below.alloc ?_ ?_ _) | (with_reducible refine Below.drew ?_) | (with_reducible refine below_drewN ?_ _) | (with_reducible refine Below.setCell ?_ ?_ _) | (with_reducible refine Below.trans ?_ (by assumption)) | go_size))⟩
    · have hr2 : r = false := by rw [← hr]; simp [keyOk, q8]
      subst hr2
      clear hr q0
      go_enter Tryd.func36, Tryd.ntmps36
      go_wp2
      go_ret
      exact ⟨rfl, by (repeat' (first | (with_reducible exact Below.refl _ _) | (with_reducible assumption) | (with_reducible refine Below.alloc ?_ ?_ _) | (with_reducible refine Below.drew ?_) | (with_reducible refine below_drewN ?_ _) | (with_reducible refine Below.setCell ?_ ?_ _) | (with_reducible refine Below.trans ?_ (by assumption)) | go_size))⟩
end Go.Proofs.YtaojblejnpemkaaDoor
namespace Go.Proofs.YtaojblejnpemkaaDoor
open Go.RowKit
theorem sizePair : (Tryd.prog.info? 72).map (·.size) = some 2 := by kernel_rfl
theorem elPair' : ElemT Tryd.prog 45 72 2 32 := ElemT.of (.agg #[.string ⟨#[]⟩, .string ⟨#[]⟩]) Tryd.underlying45 (by kernel_rfl) rfl (by decide)
theorem gb_drew {a w : World} {r : Option Nat} (h : a.grownBy w r) : a.grownBy w.drew r := ⟨h.os, h.tape, h.output, h.size, h.block⟩
theorem gb_drewN {a w : World} {r : Option Nat} (h : a.grownBy w r) (n : Nat) : a.grownBy (w.drewN n) r := ⟨h.os, h.tape, h.output, h.size, h.block⟩
theorem gb_trans {a w w' : World} {r r' : Option Nat} (h : a.grownBy w r) (h' : w.grownBy w' r') (hr : ∀ k, r' = some k → a.heap.size ≤ k ∨ r = some k) : a.grownBy w' r :=
  ⟨h'.os.trans h.os, h'.tape.trans h.tape, h'.output.trans h.output, Nat.le_trans h.size h'.size, fun i hi hne => (h'.block i (Nat.lt_of_lt_of_le hi h.size) (fun e => by
    rcases hr i e.symm with h1 | h1
    · omega
    · exact hne h1.symm)).trans (h.block i hi hne)⟩
theorem gb_of_below {a w : World} (h : Below a.heap.size a w) (r : Option Nat) : a.grownBy w r := ⟨h.os, h.tape, h.output, h.size, fun i hi _ => h.block i hi⟩
theorem gb_below {a w w' : World} {r : Option Nat} (h : a.grownBy w r) (h' : Below w.heap.size w w') : a.grownBy w' r := gb_trans h (gb_of_below h' none) (fun _ e => by cases e)
theorem gb_setCell {a w : World} {r : Option Nat} (h : a.grownBy w r) {p : Addr} (hp : r = some p.block ∨ a.heap.size ≤ p.block) (u : Value) : a.grownBy (w.setCell p u) r :=
  gb_trans (r' := some p.block) h ⟨rfl, rfl, rfl, by simp, fun k _ hk => heap_setCell_other w p k u (fun e => hk (by simp [e]))⟩ (fun k e => by cases e; exact hp.symm)
theorem gb_alloc {a w : World} {r : Option Nat} (h : a.grownBy w r) (o : Obj) : a.grownBy (w.alloc o) r := gb_trans h (World.grownBy_alloc w o none) (fun _ e => by cases e)
theorem gb_to_below {w w' : World} {r : Option Nat} (h : w.grownBy w' r) {B : Nat} (hB : B ≤ w.heap.size) (hr : ∀ k, r = some k → B ≤ k) : Below B w w' := (Below.refl _ _).grown h hB hr
theorem run_append_mixed {P : Program} {w : World} {t t' ty e e' : TypeId} (ht : P.underlying t = some (.slice e)) (ht' : P.underlying t' = some (.slice e')) (b b' : Option Addr) (n n' c c' : Nat) :
    (Builtin.append_ #[t, t'] ty #[.slice b n c, .slice b' n' c']).run P w = (Builtin.append_ #[t, t] ty #[.slice b n c, .slice b' n' c']).run P w := by
  simp [Builtin.append_, run_underlying ht, run_underlying ht']
theorem exec_append_mixed {P : Program} {w : World} {o : Oper} {a : Act} {s x : Operand} {t t' e e' : TypeId} (ht : P.underlying t = some (.slice e)) (ht' : P.underlying t' = some (.slice e'))
    (ho : o.op = .call { callee := .builtin .append, args := #[s, x], argTypes := #[t, t'] }) {b b' : Option Addr} {n n' c c' : Nat} (hs : a.eval s = .slice b n c) (hx : a.eval x = .slice b' n' c') :
    (execOp a.eval o).run P w = (execOp a.eval { o with op := .call { callee := .builtin .append, args := #[s, x], argTypes := #[t, t] } }).run P w := by
  simp [execOp, ho, resolve, invoke, builtin, hs, hx, run_append_mixed ht ht']
theorem wpList_appendN' {P : Program} {w : World} {ops : Array Oper} {rest : List Oper} {o : Oper} {a : Act} {Q : Exit → Act → World → Prop} (hgd : o.guard = none) (s x : Operand) (t t' e e' : TypeId) {size bytes : Nat} (hT : ElemT P t e size bytes) (ht' : P.underlying t' = some (.slice e'))
    (ho : o.op = .call { callee := .builtin .append, args := #[s, x], argTypes := #[t, t'] })
    (base : Nat) (v : Value) (n : Nat) (xs : List Value) (hs : a.eval s = v) (hown : w.ownsRow base e size v n xs)
    (ad : Addr) (m c : Nat) (news : List Value) (hx : a.eval x = .slice (some ad) m c) (hl : news.length = m * size) (hnews : ∀ j u, news[j]? = some u → w.cell? (ad.add j) = some u) (h1 : ∀ u ∈ news, u.oneCell' = true)
    (hn : n + m ≤ 4294967296) (hby : bytes ≤ 4096) (hbase : base ≤ w.heap.size)
    (h : ∀ v' w', w'.ownsRow base e size v' (n + m) (xs ++ news) → w.grownBy w' v.ownBlock → wpList P ops Q rest (a.put o.dst v') w') : wpList P ops Q (o :: rest) a w := by
  obtain ⟨i, z, ht, hi, hz, hsize, hbytes, hzs, hsz⟩ := hT.ex
  obtain ⟨b0, c0, hv0, _⟩ := Row.of_owns hown
  have hb1 : (n + m) * bytes ≤ 4294967296 * 4096 := Nat.mul_le_mul hn hby
  obtain ⟨v', w', hr, h2, h3, _⟩ := run_append_own (P := P) (w := w) base t o.type e i z size bytes ht hi hz hsize hbytes hzs hsz v n xs hown ad m c news hl hnews h1 (by unfold maxLen; omega) (by omega) hbase
  have he : (execOp a.eval { o with op := .call { callee := .builtin .append, args := #[s, x], argTypes := #[t, t] } }).run P w = .ok (.value v') w' := exec_append (o := { o with op := .call { callee := .builtin .append, args := #[s, x], argTypes := #[t, t] } }) s x t t rfl _ _ hs hx hr
  exact wpList_run hgd ((exec_append_mixed ht ht' ho (hs.trans hv0) hx).trans he) (h v' w' h2 h3)
def OwnRes2 (base : Nat) (n : Nat) (xs : List Value) (e : Ending) (w' : World) : Prop := ∃ v, e = .returned v ∧ w'.ownsRow base 72 2 v n xs
set_option maxRecDepth 100000 in
set_option maxHeartbeats 1000000 in
theorem insert_end (base n : Nat) (v : Value) (xs : List Value) (w : World) (hown : w.ownsRow base 72 2 v n xs) (vb : Nat) (x y : Value) (e' : TypeId) (hx : w.heap[vb]? = some (.cells #[x, y] e' (0, 0)))
    (h1 : x.oneCell' = true) (h2 : y.oneCell' = true) (hn : n ≤ 1000000) (hbase : base ≤ w.heap.size) :
    Calls Tryd.prog 52 #[v, .int .i64 n, .slice (some ⟨vb, 0, none⟩) 1 1] w fun e w' => OwnRes2 base (n + 1) (xs ++ [x, y]) e w' ∧ w.grownBy w' v.ownBlock := by
  have hnw : ∀ j u, [x, y][j]? = some u → w.cell? ((⟨vb, 0, none⟩ : Addr).add j) = some u := by
    intro j u hj
    rw [addr_add, Nat.zero_add]
    simpa [World.cell?, hx] using hj
  have HN := Lib.hid hnw
  clear hnw hx
  have hown' := hown
  have HO := Lib.hid hown
  obtain ⟨hl, ⟨rfl, rfl⟩ | ⟨g, cap, cur, rfl, hg, hgc, hnc, hm, hs, ht⟩⟩ := hown
  · clear hl
    go_enter Tryd.func52, Tryd.ntmps52
    go_wp2_with (at_builtin; refine wpList_appendN' rfl _ _ 46 45 72 72 elPair Tryd.underlying45 rfl base _ _ _ rfl hown' ⟨vb, 0, none⟩ 1 1 [x, y] rfl rfl HN.out (by simp [h1, h2]) (by omega) (by omega) hbase ?_)
    intro v' w' ho hb
    go_wp2
    go_ret
    exact ⟨⟨_, rfl, ho⟩, hb⟩
  · unfold maxLen at hm
    clear hgc hs ht hl
    by_cases hcn : cap = n
    · subst hcn
      go_enter Tryd.func52, Tryd.ntmps52
      go_wp2_with (at_builtin; refine wpList_appendN' rfl _ _ 46 45 72 72 elPair Tryd.underlying45 rfl base _ _ _ rfl hown' ⟨vb, 0, none⟩ 1 1 [x, y] rfl rfl HN.out (by simp [h1, h2]) (by omega) (by omega) hbase ?_)
      intro v' w' ho hb
      go_wp2
      go_ret
      exact ⟨⟨_, rfl, ho⟩, hb⟩
    · go_enter Tryd.func52, Tryd.ntmps52
      go_wp2_with (at_builtin; refine wpList_appendN' rfl _ _ 46 45 72 72 elPair Tryd.underlying45 rfl base _ _ _ rfl hown' ⟨vb, 0, none⟩ 1 1 [x, y] rfl rfl HN.out (by simp [h1, h2]) (by omega) (by omega) hbase ?_)
      intro v' w' ho hb
      go_wp2
      go_ret
      exact ⟨⟨_, rfl, ho⟩, hb⟩
set_option maxRecDepth 100000 in
set_option maxHeartbeats 1000000 in
theorem insert_grow (base n i cap g : Nat) (xs : List Value) (w : World) (hl : xs.length = n * 2) (hcur : w.heap[g]? = some (.cells xs.toArray 72 (0, 0))) (_ : base ≤ g) (vb : Nat) (x y : Value) (e' : TypeId) (hx : w.heap[vb]? = some (.cells #[x, y] e' (0, 0)))
    (h1 : x.oneCell' = true) (h1' : y.oneCell' = true) (h2 : ∀ u ∈ xs, u.oneCell' = true) (hn : n ≤ 1000000) (hi : i < n) (hcap : cap = n) (hbase : base ≤ w.heap.size) :
    Calls Tryd.prog 52 #[.slice (some ⟨g, 0, none⟩) n cap, .int .i64 i, .slice (some ⟨vb, 0, none⟩) 1 1] w fun e w' => OwnRes2 base (n + 1) (xs.take (i * 2) ++ x :: y :: xs.drop (i * 2)) e w' ∧ w.grownBy w' (some g) := by
  have hgs : g < w.heap.size := by
    have := (Array.getElem?_eq_some_iff.1 hcur).1
    exact this
  have hvs : vb < w.heap.size := (Array.getElem?_eq_some_iff.1 hx).1
  have hold : ∀ j u, (xs.take (i * 2))[j]? = some u → w.cell? ((⟨g, 0, none⟩ : Addr).add j) = some u := by
    intro j u hj
    rw [addr_add, Nat.zero_add]
    have : j < i * 2 := by
      have := (List.getElem?_eq_some_iff.1 hj).1
      rw [List.length_take] at this
      omega
    rw [List.getElem?_take_of_lt this] at hj
    simpa [World.cell?, hcur] using hj
  have HC := Lib.hid hcur
  have HX := Lib.hid hx
  have HO := Lib.hid hold
  clear hcur hx hold
  subst hcap
  go_enter Tryd.func52, Tryd.ntmps52
  go_wp2_with (at_builtin; refine wpList_append_zeros rfl _ _ 46 3 72 elPair .i64 Tryd.underlying3 rfl ⟨g, 0, none⟩ i cap (xs.take (i * 2)) (by simp; omega) HO.out (cap + 1 - i) (by omega) (by omega) (by omega) (by omega) rfl ?_ ?_)
  · exact int_eq (by omega)
  intro w1 C zs hC1 hC2 hlen HC1 hg1
  have hx1 := grown_same hg1 HX.out (by simp)
  have hc1 := grown_same hg1 HC.out (by simp)
  have hb1 : w.grownBy w1 (some g) := gb_trans (World.grownBy.refl _ _) hg1 (fun _ e => by cases e)
  have hsz1 := hg1.size
  have hnw : ∀ j u, [x, y][j]? = some u → w1.cell? ((⟨vb, 0, none⟩ : Addr).add j) = some u := cells_row (A := []) (C := []) (by simpa using hx1) rfl
  have HNW := Lib.hid hnw
  have HCX := Lib.hid hc1
  clear hnw hx1 hc1
  unfold maxLen at hC2
  generalize hG : w.heap.size = G at *
  have HG := Lib.hid hG
  clear hG
  have hil : (xs.take (i * 2)).length = i * 2 := by rw [List.length_take]; omega
  have hlz : zs.length = C * 2 - i * 2 := by omega
  go_wp2_with (first | (at_builtin; fail) | (refine wpList_copyK rfl _ _ 46 45 72 2 Tryd.underlying46 sizePair rfl G (i * 2) (cap + 1 - i) (C - i) ⟨vb, 0, none⟩ 1 1 rfl rfl (xs.take (i * 2) ++ zs) 72 [x, y] HC1.out ?_ HNW.out ?_ (by simp [h1, h1']) ?_))
  · show 2 = min 1 (cap + 1 - i) * 2
    omega
  · simp only [List.length_append, List.length_cons, List.length_nil, hil, hlz]; omega
  intro w2 HC2 hg2
  have hcx := grown_same hg2 HCX.out (by simp; omega)
  have hb2 := gb_trans hb1 hg2 (fun k hk => by cases hk; exact .inl (Nat.le_of_eq HG.out))
  rw [splice_at hil.symm] at HC2
  have hdr : ∀ j u, (xs.drop (i * 2))[j]? = some u → w2.cell? ((⟨g, i * 2, none⟩ : Addr).add j) = some u := cells_row (A := xs.take (i * 2)) (C := []) (by simpa using hcx) hil.symm
  have HDR := Lib.hid hdr
  have hdl : (xs.drop (i * 2)).length = cap * 2 - i * 2 := by rw [List.length_drop, hl]
  have hd1 : ∀ u ∈ xs.drop (i * 2), u.oneCell' = true := fun u hu => h2 u (List.mem_of_mem_drop hu)
  have HD1 := Lib.hid hd1
  have H1 := Lib.hid h1
  have H1' := Lib.hid h1'
  have H2 := Lib.hid h2
  have HDL := Lib.hid hdl
  have HIL := Lib.hid hil
  have HLZ := Lib.hid hlz
  clear hdr hcx hd1 hdl h1 h1' h2 hil hlz
  go_wp2_with fail
  have hw5 : (i : Int) + 1 ≤ (i : Int) + ((cap + 1 - i : Nat) : Int) := by omega
  have hw4 : ¬ C = i + 1 := by omega
  have hw6 : i ≤ cap := by omega
  have hw7 : ¬ cap = i := by omega
  have hw2 : 0 ≤ (i : Int) + 1 := by omega
  have hw3 : ((i : Int) + 1).toNat = i + 1 := by omega
  have hw1 : IntKind.i64.wrap ((i : Int) + 1) = (i : Int) + 1 := IntWalk.i64_in _ (by omega)
  have HC2d : Hid (w2.drew.heap[G]? = some (.cells (xs.take (i * 2) ++ [x, y] ++ zs.drop [x, y].length).toArray 72 (0, 0))) := HC2
  have HDRd : Hid (∀ j u, (xs.drop (i * 2))[j]? = some u → w2.drew.cell? ((⟨g, i * 2, none⟩ : Addr).add j) = some u) := HDR
  have HS1 : Hid ((xs.drop (i * 2)).length = Nat.min (cap - i) (i + (cap + 1 - i) - (i + 1)) * 2) := Lib.hid (by rw [HDL.out]; show cap * 2 - i * 2 = min (cap - i) _ * 2; omega)
  have HS2 : Hid ((i + 1) * 2 + (xs.drop (i * 2)).length ≤ (xs.take (i * 2) ++ [x, y] ++ zs.drop [x, y].length).length) := Lib.hid (by rw [HDL.out]; simp only [List.length_append, List.length_cons, List.length_nil, List.length_drop, HIL.out, HLZ.out]; omega)
  go_still_tail 8, (by kernel_rfl)
  refine wpList_copyK rfl _ _ 46 46 72 2 Tryd.underlying46 sizePair rfl G ((i + 1) * 2) (i + (cap + 1 - i) - (i + 1)) (C - (i + 1)) ⟨g, i * 2, none⟩ (cap - i) (cap - i) rfl rfl (xs.take (i * 2) ++ [x, y] ++ zs.drop [x, y].length) 72 (xs.drop (i * 2)) HC2d.out HS1.out HDRd.out HS2.out HD1.out ?_
  intro w3 HC3 hg3
  clear hw1 hw2 hw3 hw5 hw6 hw7
  go_wp2
  go_ret
  have hC3 := HC3.out
  rw [splice_at (by simp [HIL.out]; omega)] at hC3
  have hsz2 := hg2.size
  have hb3 := gb_trans (gb_drew hb2) hg3 (fun k hk => by cases hk; exact .inl (Nat.le_of_eq HG.out))
  refine ⟨⟨_, rfl, ?_⟩, hb3⟩
  rw [show i + (cap + 1 - i) = cap + 1 by omega]
  refine owns_of_cur hC3 hbase (by omega) (by unfold maxLen; omega) ?_ ?_
  · simp only [List.length_append, List.length_drop, List.length_cons, List.length_nil, HIL.out, HDL.out, HLZ.out]; omega
  · rw [take_len (by simp only [List.length_append, List.length_cons, List.length_nil, HIL.out, HDL.out]; omega)]
    simp
theorem overlaps_no (w : World) (vb g o lb cb m vc : Nat) (hne : vb ≠ g) (cx cy : Array Value) (tx ty : TypeId) (hx : w.heap[vb]? = some (.cells cx tx (0, 0))) (hy : w.heap[g]? = some (.cells cy ty (0, 0))) (hc : cy.size ≠ 0) :
    (callFunc 59 #[.slice (some ⟨vb, 0, none⟩) m vc, .slice (some ⟨g, o, none⟩) lb cb]).run Tryd.prog w = .ok (.value (.bool false)) w := by
  rw [run_callFunc_extern Tryd.func59 (by kernel_rfl) (by kernel_rfl) (by kernel_rfl) (e := Extern.SlicesOverlaps.overlaps #[45, 45] #[4]) (by kernel_rfl),
    Lib.run_overlaps_apart w 45 4 72 Tryd.underlying45 2 (fun w => by kernel_rfl) ⟨vb, 0, none⟩ ⟨g, o, none⟩ m vc lb cb hne tx ty cx.size cy.size (by simp [World.shape?, hx]) (by simp [World.shape?, hy]) hc (by simp [World.frozen?, hx]) (by simp [World.frozen?, hx])]
  rfl
set_option maxRecDepth 100000 in
set_option maxHeartbeats 1000000 in
theorem insert_shift (base n i cap g : Nat) (A D Z : List Value) (w : World) (hA : A.length = i * 2) (hD : D.length = n * 2 - i * 2) (hZ : Z.length = cap * 2 - n * 2) (hcur : w.heap[g]? = some (.cells (A ++ D ++ Z).toArray 72 (0, 0))) (hbg : base ≤ g) (vb : Nat) (x y : Value) (e' : TypeId) (hx : w.heap[vb]? = some (.cells #[x, y] e' (0, 0)))
    (hne : vb ≠ g) (h1 : x.oneCell' = true) (h1' : y.oneCell' = true) (h2 : ∀ u ∈ D, u.oneCell' = true) (hn : n ≤ 1000000) (hi : i < n) (hcap : n + 1 ≤ cap) (hm : cap ≤ maxLen) (_ : base ≤ w.heap.size) :
    Calls Tryd.prog 52 #[.slice (some ⟨g, 0, none⟩) n cap, .int .i64 i, .slice (some ⟨vb, 0, none⟩) 1 1] w fun e w' => OwnRes2 base (n + 1) (A ++ x :: y :: D) e w' ∧ w.grownBy w' (some g) := by
  have hgs : g < w.heap.size := (Array.getElem?_eq_some_iff.1 hcur).1
  have hdr : ∀ j u, D[j]? = some u → w.drew.cell? ((⟨g, i * 2, none⟩ : Addr).add j) = some u := cells_row (w := w.drew) (A := A) (C := Z) hcur hA.symm
  have hov : ∀ lb cb, (callFunc 59 #[.slice (some ⟨vb, 0, none⟩) 1 1, .slice (some ⟨g, (i + 1) * 2, none⟩) lb cb]).run Tryd.prog w = .ok (.value (.bool false)) w := fun lb cb => overlaps_no w vb g ((i + 1) * 2) lb cb 1 1 hne _ _ _ _ hx hcur (by simp [hA, hD, hZ]; omega)
  have HC := Lib.hid hcur
  have HX := Lib.hid hx
  have HDR := Lib.hid hdr
  have HA := Lib.hid hA
  have HD := Lib.hid hD
  have HZ := Lib.hid hZ
  have H1 := Lib.hid h1
  have H1' := Lib.hid h1'
  have H2 := Lib.hid h2
  clear hcur hx hdr hA hD hZ h1 h1' h2
  unfold maxLen at hm
  have hw5 : (i : Int) + 1 ≤ (n : Int) + 1 := by omega
  have hw4 : ¬ cap = i + 1 := by omega
  have hw6 : i ≤ n + 1 := by omega
  have hw8 : i ≤ n := by omega
  have hw9 : (i : Int) ≤ (n : Int) + 1 := by omega
  have hw7 : ¬ cap = i := by omega
  have hw2 : 0 ≤ (i : Int) + 1 := by omega
  have hw3 : ((i : Int) + 1).toNat = i + 1 := by omega
  have hw1 : IntKind.i64.wrap ((i : Int) + 1) = (i : Int) + 1 := IntWalk.i64_in _ (by omega)
  go_enter Tryd.func52, Tryd.ntmps52
  go_wp2_with fail
  have HS1 : Hid (D.length = Nat.min (n + 1 - i) (n - i) * 2) := Lib.hid (by rw [HD.out]; show n * 2 - i * 2 = min _ _ * 2; omega)
  have HS2 : Hid ((i + 1) * 2 + D.length ≤ (A ++ D ++ Z).length) := Lib.hid (by simp only [List.length_append, HA.out, HD.out, HZ.out]; omega)
  go_still_tail 8, (by kernel_rfl)
  refine wpList_copyK rfl _ _ 46 46 72 2 Tryd.underlying46 sizePair rfl g ((i + 1) * 2) (n - i) (cap - (i + 1)) ⟨g, i * 2, none⟩ (n + 1 - i) (cap - i) rfl rfl (A ++ D ++ Z) 72 D HC.out HS1.out HDR.out HS2.out H2.out ?_
  intro w1 HC1 hg1
  have hbA : w.grownBy w1 (some g) := gb_trans (gb_drew (World.grownBy.refl _ _)) hg1 (fun k hk => .inr hk)
  have hx1 := grown_same hg1 (show w.drew.heap[vb]? = _ from HX.out) (by simp; exact hne)
  have hnw : ∀ j u, [x, y][j]? = some u → w1.cell? ((⟨vb, 0, none⟩ : Addr).add j) = some u := cells_row (A := []) (C := []) (by simpa using hx1) rfl
  have HNW := Lib.hid hnw
  have hsz1 : w.heap.size ≤ w1.heap.size := hg1.size
  clear hnw hx1
  have HS3 : Hid (i * 2 + [x, y].length ≤ (splice (A ++ D ++ Z) ((i + 1) * 2) D).length) := Lib.hid (by rw [length_splice _ _ _ HS2.out]; simp only [List.length_append, List.length_cons, List.length_nil, HA.out, HD.out, HZ.out]; omega)
  go_wp2_with (first | (at_builtin; fail) | (refine wpList_copyK rfl _ _ 46 45 72 2 Tryd.underlying46 sizePair rfl g (i * 2) (n + 1 - i) (cap - i) ⟨vb, 0, none⟩ 1 1 rfl rfl (splice (A ++ D ++ Z) ((i + 1) * 2) D) 72 [x, y] HC1.out ?_ HNW.out HS3.out (by simp [H1.out, H1'.out]) ?_))
  · show 2 = min 1 (n + 1 - i) * 2
    omega
  intro w2 HC2 hg2
  have hb2 := gb_trans hbA hg2 (fun k hk => .inr hk)
  go_wp2
  go_ret
  refine ⟨⟨_, rfl, ?_⟩, hb2⟩
  have hC2 := HC2.out
  have ha := HA.out
  rw [show i * 2 = A.length from ha.symm, show (i + 1) * 2 = A.length + [x, y].length by simp [ha]; omega, ← List.append_assoc, splice_shift (by rw [HZ.out]; simp; omega)] at hC2
  refine owns_of_cur hC2 hbg hcap (by unfold maxLen; omega) ?_ ?_
  · simp only [List.length_append, List.length_drop, List.length_cons, List.length_nil, ha, HD.out, HZ.out]; omega
  · rw [take_len (by simp only [List.length_append, List.length_cons, List.length_nil, ha, HD.out]; omega)]
    simp
end Go.Proofs.YtaojblejnpemkaaDoor
